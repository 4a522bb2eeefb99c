/-
  The document's box: frames without one of them.
-/
import Derived.Test.YtjdhdmljchnidaaCopied
import Derived.Test.YtjdhdmljchnidaaFrames
namespace Go.Proofs.Ytjdhdmljchnidaa
open Go.RowKit
set_option linter.unusedVariables false
set_option linter.unusedSimpArgs false
attribute [local go_sem ↓] Go.wp_at_zero Go.wp_at_succ
theorem undrew {a w : World} (h : Below a.drew.heap.size a.drew w) : Below a.heap.size a w := ⟨h.os, h.tape, h.output, h.size, h.block⟩
section
variable {P : Program} {ops : Array Oper} {Q : Exit → Act → World → Prop} {md : Region.Mode} {S : World → Prop} {k : Nat}
/-- Number i or number k comes up. -/
theorem wpTill_fork {i : Nat} {o o' : Oper} {fuel : Nat} {listed : Array Bool} {a : Act} {w : World} (hr : Region.ready md ops listed = [i, k]) (ho : ops[i]? = some o) (ho' : ops[k]? = some o') (hik : (i != k) = true)
    (h : ∀ K' : Act → World → Prop, Shut (∀ a w, S w → wpTill P md ops Q S k fuel (listed.setIfInBounds i true) a w → K' a w) → if Region.wanted o (yielded ops a.tmps) = true then Oper.wp P o a w K' Q else K' (a.put o.dst undef) w)
    (h' : ∀ K' : Act → World → Prop, Shut (∀ a w, wpAny P md ops Q fuel (listed.setIfInBounds k true) a w → K' a w) → if Region.wanted o' (yielded ops a.tmps) = true then Oper.wp P o' a w K' Q else K' (a.put o'.dst undef) w) :
    wpTill P md ops Q S k (fuel + 1) listed a w := by
  have hik : i ≠ k := by simpa using hik
  refine ⟨fun h0 => (by rw [hr] at h0; cases h0), fun x hx => ?_⟩
  rw [hr] at hx
  simp only [List.mem_cons, List.not_mem_nil, or_false] at hx
  rcases hx with rfl | rfl
  · exact wpOp_step ho (fun K' hK => h K' (fun a w hS hW => hK a w ⟨fun e => absurd e hik, fun _ => ⟨hS, hW⟩⟩))
  · exact wpOp_step ho' (fun K' hK => h' K' (fun a w hW => hK a w ⟨fun _ => hW, fun e => absurd rfl e⟩))
/-- append, by what it runs to. -/
theorem step_append_run {o : Oper} {a : Act} {w w' : World} {K : Act → World → Prop} {E : Prop} {r : Value} (hgd : o.guard = none) (s x : Operand) (t : TypeId)
    (ho : o.op = .call { callee := .builtin .append, args := #[s, x], argTypes := #[t, t] }) (hrun : (Builtin.append_ #[t, t] o.type #[a.eval s, a.eval x]).run P w = .ok r w') (h : K (a.put o.dst r) w') :
    if Region.wanted o (yielded ops a.tmps) = true then Oper.wp P o a w K Q else E := by
  have hw : Region.wanted o (yielded ops a.tmps) = true := by simp [Region.wanted, hgd]
  rw [if_pos hw]
  unfold Oper.wp execOp
  simp only [ho, resolve, invoke, builtin, Sem.run_bind, Sem.run_pure, Result.andThen_ok, List.map_toArray, List.map_cons, List.map_nil, hrun]
  exact h
end
section
variable {P lo hi : Nat} {w w' : World}
theorem El.rows_take {α : Type} (E : El α) (l : List α) (n : Nat) : E.rows (l.take n) = (E.rows l).take (n * E.k) := by
  induction l generalizing n with
  | nil => simp [El.rows]
  | cons a l ih =>
    cases n with
    | zero => simp [El.rows]
    | succ n =>
      simp only [List.take_succ_cons, El.rows, ih]
      have e : (n + 1) * E.k = (E.c a).length + n * E.k := by rw [E.len, Nat.add_mul]; omega
      rw [e, List.take_length_add_append]
theorem El.rows_drop {α : Type} (E : El α) (l : List α) (n : Nat) : E.rows (l.drop n) = (E.rows l).drop (n * E.k) := by
  induction l generalizing n with
  | nil => simp [El.rows]
  | cons a l ih =>
    cases n with
    | zero => simp [El.rows]
    | succ n =>
      simp only [List.drop_succ_cons, El.rows, ih]
      have e : (n + 1) * E.k = (E.c a).length + n * E.k := by rw [E.len, Nat.add_mul]; omega
      rw [e, List.drop_length_add_append]
theorem Rd.take {α : Type} {E : El α} {a : Option Addr} {n c : Nat} {l : List α} (h : Rd E P lo hi ⟨a, n, c⟩ l w) (k : Nat) (hk : k ≤ n) (ha : a ≠ none) : Rd E P lo hi ⟨a, k, c⟩ (l.take k) w := by
  have hn : n = l.length := h.n
  refine ⟨by simp; omega, Nat.le_trans hk h.le, h.c, fun e => absurd e ha, fun hl => ?_⟩
  obtain ⟨b, o, e, h1, h2, h3, h4, h5⟩ := h.at_ (by simp at hl; omega)
  refine ⟨b, o, e, h1, h2, h3, h4, fun j u hj => h5 j u ?_⟩
  rw [El.rows_take] at hj
  rw [List.getElem?_take] at hj
  split at hj
  · exact hj
  · cases hj
theorem Rd.drop {α : Type} {E : El α} {b o n c : Nat} {l : List α} (h : Rd E P lo hi ⟨some ⟨b, o, none⟩, n, c⟩ l w) (k : Nat) (hk : k ≤ n) : Rd E P lo hi ⟨if c = k then some ⟨b, o, none⟩ else some ⟨b, o + k * E.k, none⟩, n - k, c - k⟩ (l.drop k) w := by
  have hn : n = l.length := h.n
  have hnc : n ≤ c := h.le
  have hc : c ≤ maxLen := h.c
  refine ⟨by simp; omega, by simp only; omega, by simp only; omega, fun e => ?_, fun hl => ?_⟩
  · simp only at e
    split at e <;> cases e
  · simp only [List.length_drop] at hl
    obtain ⟨b2, o2, e, h1, h2, h3, h4, h5⟩ := h.at_ (by omega)
    simp only [Option.some.injEq, Addr.mk.injEq, and_true] at e
    obtain ⟨rfl, rfl⟩ := e
    refine ⟨b, o + k * E.k, by simp only; rw [if_neg (by omega)], h1, h2, h3, h4, fun j u hj => ?_⟩
    rw [El.rows_drop, List.getElem?_drop] at hj
    have := h5 _ u hj
    rwa [← Nat.add_assoc] at this
theorem rd_one {P C : Nat} {f : Fr} {w : World} (h : w.heap[C]? = some (.cells f.cells 38 (0, 0))) : Rd elF P C (C + 1) ⟨some ⟨C, 0, none⟩, 1, 1⟩ [f] w := by
  have hlt := (Array.getElem?_eq_some_iff.1 h).1
  refine ⟨rfl, Nat.le_refl _, (by show (1 : Nat) ≤ maxLen; decide), (fun e => by cases e), fun _ => ⟨C, 0, rfl, Nat.le_refl _, Nat.lt_succ_self _, hlt, .inr ⟨_, h⟩, fun j u hj => ?_⟩⟩
  rw [Nat.zero_add, cell_of_row _ _ _ _ _ _ h]
  simpa [El.rows, elF] using hj
end
set_option maxRecDepth 100000 in
set_option maxHeartbeats 4000000 in
theorem without_any {P lo hi : Nat} (b o n c p : Nat) (l : List Fr) (w : World) (h : Rd elF P lo hi ⟨some ⟨b, o, none⟩, n, c⟩ l w) (hp : p < n) (hl : l.length ≤ 100000) :
    Calls Try.prog 36 #[.slice (some ⟨b, o, none⟩) n c, .int .i64 p] w fun e w' => ∃ (a' : Option Addr) (m' c' : Nat), e = .returned (.slice a' m' c') ∧ Rd elF P w.heap.size w'.heap.size ⟨a', m', c'⟩ (l.eraseIdx p) w' ∧ Below w.heap.size w w' := by
  obtain ⟨i0, hi0, hz0, hz1, hz2⟩ := info_parts info38
  have hn : n = l.length := h.n
  have hnc : n ≤ c := h.le
  have hcm : c ≤ 9223372036854775807 := h.c
  obtain ⟨A, hA⟩ : ∃ A, (if c = p + 1 then some (⟨b, o, none⟩ : Addr) else some ⟨b, o + (p + 1) * 14, none⟩) = A := ⟨_, rfl⟩
  have h1 := h.take p (by omega) (by simp)
  have h2 := h.drop (p + 1) (by omega)
  have h2 : Rd elF P lo hi ⟨A, n - (p + 1), c - (p + 1)⟩ (l.drop (p + 1)) w := by rw [← hA]; exact h2
  have hb0 : Below w.heap.size w (w.alloc (.cells #[] 38)) := (Below.refl w.heap.size w).alloc (Nat.le_refl _) _
  have hrow := World.ownsRow_made (base := w.heap.size) (e := 38) (size := 14) w #[] 0 (Nat.le_refl _) (by decide) rfl
  obtain ⟨r1, w1, hrun1, hown1, hg1, -, -⟩ := app_run (h1.below hb0) i0 _ 45 38 14 rfl rfl hrow Try.underlying45 hi0 hz0 hz1 rfl (by rw [hz2]; decide) (by simp; omega) hb0.size 45
  have hb1 := Below.grow hb0 hg1 (fun q hq => (World.ownsRow.lt hrow q hq).1) hb0.size
  obtain ⟨r2, w2, hrun2, hown2, hg2, -, -⟩ := app_run (h2.below hb1) i0 _ 45 38 14 rfl rfl hown1 Try.underlying45 hi0 hz0 hz1 rfl (by rw [hz2]; decide) (by simp; omega) hb1.size 45
  have hb2 := Below.grow hb1 hg2 (fun q hq => (World.ownsRow.lt hown1 q hq).1) hb1.size
  have e1 : (l.eraseIdx p).length = 0 + (l.take p).length + (l.drop (p + 1)).length := by simp [List.eraseIdx_eq_take_drop_succ]
  have e2 : elF.rows (l.eraseIdx p) = [] ++ elF.rows (l.take p) ++ elF.rows (l.drop (p + 1)) := by simp [List.eraseIdx_eq_take_drop_succ, El.rows_append]
  rw [← e1, ← e2] at hown2
  obtain ⟨a', c', rfl, hR⟩ := rd_of_row (E := elF) (P := P) hown2
  have HH := Lib.hid (And.intro hR hb2)
  have h0i : (0 : Int) ≤ (p : Int) + 1 := by omega
  have hjc : p + 1 ≤ c := by omega
  have hjn : p + 1 ≤ n := by omega
  have hpc : p ≤ c := by omega
  have hi1 : (p : Int) + 1 ≤ n := by omega
  have hwp : IntKind.i64.wrap ((p : Int) + 1) = (p : Int) + 1 := IntWalk.i64_in _ (by omega)
  clear h h1 h2 hb0 hrow hown1 hg1 hb1 hown2 hg2 hb2 e1 e2 hR hn
  go_enter Try.func36, Try.ntmps36
  go_wp2_with (first | (at_builtin; first | (refine wpList_append_run rfl (.tmp 6) (.tmp 9) 45 rfl hrun1 ?_) | (refine wpList_append_run rfl (.tmp 11) (.tmp 15) 45 rfl hrun2 ?_)) | fail)
  go_ret
  exact ⟨a', _, c', rfl, HH.out.1, HH.out.2⟩
end Go.Proofs.Ytjdhdmljchnidaa
