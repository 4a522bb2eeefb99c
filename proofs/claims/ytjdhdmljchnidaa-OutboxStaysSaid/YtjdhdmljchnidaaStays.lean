/-
  The walk of the law OutboxStays.
-/
import Derived.Test.YtjdhdmljchnidaaCopies
namespace Go.Proofs.Ytjdhdmljchnidaa
open Go.RowKit
set_option linter.unusedVariables false
set_option linter.unusedSimpArgs false
attribute [local go_sem ↓] Go.wp_at_zero Go.wp_at_succ
theorem known17 (f : Fr) (w : World) : Calls Try.prog 17 #[f.val] w fun e w' => e = .returned (.bool f.known) ∧ Below w.heap.size w w' := by
  unfold Fr.known
  obtain ⟨k, fa, fi, ta, ti, n, tk, ba, bi, ⟨a1, n1, c1⟩, ⟨a2, n2, c2⟩, ⟨a3, n3, c3⟩, ⟨a4, n4, c4⟩, ⟨a5, n5, c5⟩⟩ := f
  simp only [Fr.val, Fr.cells]
  by_cases h3 : k = 3
  · subst h3
    go_enter Try.func17, Try.ntmps17
    go_wp2
    go_ret
    exact ⟨ret_b (by simp), (Below.refl _ _).alloc (Nat.le_refl _) _⟩
  · have h3b : (k == 3) = false := by simpa using h3
    go_enter Try.func17, Try.ntmps17
    go_wp2
    go_ret
    refine ⟨ret_b ?_, (Below.refl _ _).alloc (Nat.le_refl _) _⟩
    simp [h3]
    try rfl
theorem undrew {a w : World} (h : Below a.drew.heap.size a.drew w) : Below a.heap.size a w := ⟨h.os, h.tape, h.output, h.size, h.block⟩
section
variable {P : Program} {ops : Array Oper} {Q : Exit → Act → World → Prop} {md : Region.Mode} {S : World → Prop} {k : Nat}
/-- Number i or number k comes up. -/
theorem wpTill_fork {i : Nat} {o o' : Oper} {fuel : Nat} {listed : Array Bool} {a : Act} {w : World} (hr : Region.ready md ops listed = [i, k]) (ho : ops[i]? = some o) (ho' : ops[k]? = some o') (hik : (i != k) = true)
    (h : ∀ K' : Act → World → Prop, Shut (∀ a w, S w → wpTill P md ops Q S k fuel (listed.setIfInBounds i true) a w → K' a w) → if Region.wanted o (yielded ops a.tmps) = true then Oper.wp P o a w K' Q else K' (a.put o.dst undef) w)
    (h' : ∀ K' : Act → World → Prop, Shut (∀ a w, wpAny P md ops Q fuel (listed.setIfInBounds k true) a w → K' a w) → if Region.wanted o' (yielded ops a.tmps) = true then Oper.wp P o' a w K' Q else K' (a.put o'.dst undef) w) :
    wpTill P md ops Q S k (fuel + 1) listed a w := by
  have hik : i ≠ k := by simpa using hik
  refine ⟨fun h0 => (by rw [hr] at h0; cases h0), fun x hx => ?_⟩
  rw [hr] at hx
  simp only [List.mem_cons, List.not_mem_nil, or_false] at hx
  rcases hx with rfl | rfl
  · exact wpOp_step ho (fun K' hK => h K' (fun a w hS hW => hK a w ⟨fun e => absurd e hik, fun _ => ⟨hS, hW⟩⟩))
  · exact wpOp_step ho' (fun K' hK => h' K' (fun a w hW => hK a w ⟨fun _ => hW, fun e => absurd rfl e⟩))
/-- append, by what it runs to. -/
theorem step_append_run {o : Oper} {a : Act} {w w' : World} {K : Act → World → Prop} {E : Prop} {r : Value} (hgd : o.guard = none) (s x : Operand) (t : TypeId)
    (ho : o.op = .call { callee := .builtin .append, args := #[s, x], argTypes := #[t, t] }) (hrun : (Builtin.append_ #[t, t] o.type #[a.eval s, a.eval x]).run P w = .ok r w') (h : K (a.put o.dst r) w') :
    if Region.wanted o (yielded ops a.tmps) = true then Oper.wp P o a w K Q else E := by
  have hw : Region.wanted o (yielded ops a.tmps) = true := by simp [Region.wanted, hgd]
  rw [if_pos hw]
  unfold Oper.wp execOp
  simp only [ho, resolve, invoke, builtin, Sem.run_bind, Sem.run_pure, Result.andThen_ok, List.map_toArray, List.map_cons, List.map_nil, hrun]
  exact h
end
/-! ### Slices of slices -/
section
variable {P lo hi : Nat} {w w' : World}
theorem El.rows_take {α : Type} (E : El α) (l : List α) (n : Nat) : E.rows (l.take n) = (E.rows l).take (n * E.k) := by
  induction l generalizing n with
  | nil => simp [El.rows]
  | cons a l ih =>
    cases n with
    | zero => simp [El.rows]
    | succ n =>
      simp only [List.take_succ_cons, El.rows, ih]
      have e : (n + 1) * E.k = (E.c a).length + n * E.k := by rw [E.len, Nat.add_mul]; omega
      rw [e, List.take_length_add_append]
theorem El.rows_drop {α : Type} (E : El α) (l : List α) (n : Nat) : E.rows (l.drop n) = (E.rows l).drop (n * E.k) := by
  induction l generalizing n with
  | nil => simp [El.rows]
  | cons a l ih =>
    cases n with
    | zero => simp [El.rows]
    | succ n =>
      simp only [List.drop_succ_cons, El.rows, ih]
      have e : (n + 1) * E.k = (E.c a).length + n * E.k := by rw [E.len, Nat.add_mul]; omega
      rw [e, List.drop_length_add_append]
theorem Rd.take {α : Type} {E : El α} {a : Option Addr} {n c : Nat} {l : List α} (h : Rd E P lo hi ⟨a, n, c⟩ l w) (k : Nat) (hk : k ≤ n) (ha : a ≠ none) : Rd E P lo hi ⟨a, k, c⟩ (l.take k) w := by
  have hn : n = l.length := h.n
  refine ⟨by simp; omega, Nat.le_trans hk h.le, h.c, fun e => absurd e ha, fun hl => ?_⟩
  obtain ⟨b, o, e, h1, h2, h3, h4, h5⟩ := h.at_ (by simp at hl; omega)
  refine ⟨b, o, e, h1, h2, h3, h4, fun j u hj => h5 j u ?_⟩
  rw [El.rows_take] at hj
  rw [List.getElem?_take] at hj
  split at hj
  · exact hj
  · cases hj
theorem Rd.drop {α : Type} {E : El α} {b o n c : Nat} {l : List α} (h : Rd E P lo hi ⟨some ⟨b, o, none⟩, n, c⟩ l w) (k : Nat) (hk : k ≤ n) : Rd E P lo hi ⟨if c = k then some ⟨b, o, none⟩ else some ⟨b, o + k * E.k, none⟩, n - k, c - k⟩ (l.drop k) w := by
  have hn : n = l.length := h.n
  have hnc : n ≤ c := h.le
  have hc : c ≤ maxLen := h.c
  refine ⟨by simp; omega, by simp only; omega, by simp only; omega, fun e => ?_, fun hl => ?_⟩
  · simp only at e
    split at e <;> cases e
  · simp only [List.length_drop] at hl
    obtain ⟨b2, o2, e, h1, h2, h3, h4, h5⟩ := h.at_ (by omega)
    simp only [Option.some.injEq, Addr.mk.injEq, and_true] at e
    obtain ⟨rfl, rfl⟩ := e
    refine ⟨b, o + k * E.k, by simp only; rw [if_neg (by omega)], h1, h2, h3, h4, fun j u hj => ?_⟩
    rw [El.rows_drop, List.getElem?_drop] at hj
    have := h5 _ u hj
    rwa [← Nat.add_assoc] at this
theorem Frs.wide {lo' hi' : Nat} {s : SL} {l : List Fr} {ds : List Dat} (h : Frs P lo hi s l ds w) (h1 : lo' ≤ lo) (h2 : hi ≤ hi') : Frs P lo' hi' s l ds w := ⟨h.rd.wide h1 h2, h.len, h.at_⟩
theorem Frs.take {a : Option Addr} {n c : Nat} {l : List Fr} {ds : List Dat} (h : Frs P lo hi ⟨a, n, c⟩ l ds w) (k : Nat) (hk : k ≤ n) (ha : a ≠ none) : Frs P lo hi ⟨a, k, c⟩ (l.take k) (ds.take k) w :=
  ⟨h.rd.take k hk ha, by simp [h.len], fun j h1 h2 => by
    simp only [List.getElem_take]
    exact h.at_ j (by simp at h1; omega) (by simp at h2; omega)⟩
theorem Hl.frs2 {base : Nat} {a : Option Addr} {n c : Nat} {out : List Fr} {ys : List X} (h : Hl P base (.slice a n c) out ys w) : Frs P base w.heap.size ⟨a, n, c⟩ out (ys.map (·.d)) w := by
  have hr := h.row
  rw [← elF_rows] at hr
  obtain ⟨a', c', e, hR⟩ := rd_of_row (E := elF) (P := P) hr
  simp only [Value.slice.injEq] at e
  obtain ⟨rfl, rfl, rfl⟩ := e
  exact ⟨hR, by simp [h.bx.len], fun j h1 h2 => ⟨_, _, by simpa using h.bx.at_ j h1 (by simpa using h2)⟩⟩
theorem rd_one {P C : Nat} {f : Fr} {w : World} (h : w.heap[C]? = some (.cells f.cells 38 (0, 0))) : Rd elF P C (C + 1) ⟨some ⟨C, 0, none⟩, 1, 1⟩ [f] w := by
  have hlt := (Array.getElem?_eq_some_iff.1 h).1
  refine ⟨rfl, Nat.le_refl _, (by show (1 : Nat) ≤ maxLen; decide), (fun e => by cases e), fun _ => ⟨C, 0, rfl, Nat.le_refl _, Nat.lt_succ_self _, hlt, .inr ⟨_, h⟩, fun j u hj => ?_⟩⟩
  rw [Nat.zero_add, cell_of_row _ _ _ _ _ _ h]
  simpa [El.rows, elF] using hj
theorem want_frs {P lo hi lo2 hi2 base : Nat} {s : SL} {outw : List Fr} {D : List Dat} {f : Fr} {d : Dat} {w0 w3 : World} {r : Value} (p : Nat) (h : Frs P lo hi s outw D w0) (hd : Deep P lo2 hi2 d f w0) (hb : Below w0.heap.size w0 w3)
    (hr : w3.ownsRow base 38 14 r (outw.eraseIdx p ++ [f]).length (elF.rows (outw.eraseIdx p ++ [f]))) : ∃ (aq : Option Addr) (nq cq : Nat), r = .slice aq nq cq ∧ Frs P base w3.heap.size ⟨aq, nq, cq⟩ (outw.eraseIdx p ++ [f]) (D.eraseIdx p ++ [d]) w3 := by
  obtain ⟨a, c, rfl, hR⟩ := rd_of_row (E := elF) (P := P) hr
  have hlen : (outw.eraseIdx p).length = (D.eraseIdx p).length := by simp [List.length_eraseIdx, h.len]
  refine ⟨a, _, c, rfl, hR, by simp [hlen], fun j h1 h2 => ?_⟩
  by_cases hj : j < (D.eraseIdx p).length
  · have hj' : j < (outw.eraseIdx p).length := by rw [hlen]; exact hj
    rw [List.getElem_append_left hj', List.getElem_append_left hj]
    simp only [List.getElem_eraseIdx]
    by_cases hjp : j < p
    · simp only [hjp, dif_pos]
      obtain ⟨x, y, hz⟩ := h.at_ j (by simp [List.length_eraseIdx] at hj'; split at hj' <;> omega) (by simp [List.length_eraseIdx] at hj; split at hj <;> omega)
      exact ⟨x, y, hz.below hb⟩
    · simp only [hjp, dif_neg, not_false_eq_true]
      obtain ⟨x, y, hz⟩ := h.at_ (j + 1) (by simp [List.length_eraseIdx] at hj'; split at hj' <;> omega) (by simp [List.length_eraseIdx] at hj; split at hj <;> omega)
      exact ⟨x, y, hz.below hb⟩
  · have e : j = (D.eraseIdx p).length := by simp at h2 hj; omega
    subst e
    have e1 : (outw.eraseIdx p ++ [f])[(D.eraseIdx p).length]'h1 = f := by
      rw [List.getElem_append_right (Nat.le_of_eq hlen)]
      simp [hlen]
    have e2 : (D.eraseIdx p ++ [d])[(D.eraseIdx p).length]'h2 = d := by simp
    rw [e1, e2]
    exact ⟨_, _, hd.below hb⟩
end
/-! ### The first of what is known, from a place on -/
def From (D : List Dat) (k : Nat) (f : Int) : Prop :=
  (f = -1 ∧ ∀ j, k ≤ j → ∀ h : j < D.length, D[j].known = false) ∨ ∃ p, ∃ h : p < D.length, k ≤ p ∧ f = (p : Int) ∧ D[p].known = true ∧ ∀ j, k ≤ j → j < p → ∀ h : j < D.length, D[j].known = false
theorem From.end_ (D : List Dat) : From D D.length (-1) := .inl ⟨rfl, fun j h1 h2 => by omega⟩
theorem From.yes {D : List Dat} {k : Nat} (h : k < D.length) (hk : D[k].known = true) : From D k k := .inr ⟨k, h, Nat.le_refl _, rfl, hk, fun j h1 h2 => by omega⟩
theorem From.no {D : List Dat} {k : Nat} {f : Int} (h : k < D.length) (hk : D[k].known = false) (hf : From D (k + 1) f) : From D k f := by
  rcases hf with ⟨e, h1⟩ | ⟨p, hp, h1, h2, h3, h4⟩
  · refine .inl ⟨e, fun j hj hl => ?_⟩
    by_cases e : j = k
    · subst e; exact hk
    · exact h1 j (by omega) hl
  · refine .inr ⟨p, hp, by omega, h2, h3, fun j hj hjp hl => ?_⟩
    by_cases e : j = k
    · subst e; exact hk
    · exact h4 j (by omega) hjp hl
theorem From.find {D : List Dat} {f : Int} (h : From D 0 f) : (f = -1 ∧ D.findIdx? Dat.known = none) ∨ ∃ p, p < D.length ∧ f = (p : Int) ∧ D.findIdx? Dat.known = some p := by
  rcases h with ⟨e, h1⟩ | ⟨p, hp, -, h2, h3, h4⟩
  · refine .inl ⟨e, ?_⟩
    rw [List.findIdx?_eq_none_iff]
    intro d hd
    obtain ⟨j, hj, rfl⟩ := List.getElem_of_mem hd
    exact h1 j (by omega) hj
  · refine .inr ⟨p, hp, h2, ?_⟩
    rw [List.findIdx?_eq_some_iff_getElem]
    exact ⟨hp, h3, fun j hj => by simp [h4 j (by omega) hj (by omega)]⟩
/-- What a step has seen: what waited, what waits, what was lost. -/
structure Seen (P bw bn q : Nat) (vw vn : Value) (lw' ln' : List Fr) (yw yn : List X) (g : Fr) (dg : Dat) (w : World) : Prop where
  was : Hl P bw vw lw' yw w
  now : Hl P bn vn ln' yn w
  out : w.heap[q]? = some (.cells g.cells 38 (0, 0))
  deep : ∃ lo hi, Deep P lo hi dg g w
theorem Seen.below {P bw bn q : Nat} {vw vn : Value} {lw' ln' : List Fr} {yw yn : List X} {g : Fr} {dg : Dat} {w w' : World} (h : Seen P bw bn q vw vn lw' ln' yw yn g dg w) (hb : Below w.heap.size w w') : Seen P bw bn q vw vn lw' ln' yw yn g dg w' := by
  obtain ⟨lo, hi, hd⟩ := h.deep
  exact ⟨h.was.below hb, h.now.below hb, (hb.block _ (Array.getElem?_eq_some_iff.1 h.out).1).trans h.out, lo, hi, hd.below hb⟩
/-- Cells of what came in. -/
def In (P b : Nat) (W : World) (c : Nat → Option Value) (at_ : Nat → Nat) : Prop := b < P ∧ ∀ r, r < 15 → W.cell? ⟨b, at_ r, none⟩ = c r
theorem In.at_ {P b : Nat} {W w : World} {c : Nat → Option Value} {a : Nat → Nat} (h : In P b W c a) (hb : Below P W w) : ∀ r, r < 15 → w.cell? ⟨b, a r, none⟩ = c r := fun r hr => (hb.cell (p := ⟨b, a r, none⟩) h.1).trans (h.2 r hr)
theorem putT_len (m : Int) (ds : List Dat) (d : Dat) (h : ¬ (ds.length : Int) = m) : putT m ds d = ds ++ [d] := by simp [putT, h]
theorem putT_none (m : Int) (ds : List Dat) (d : Dat) (h : (ds.length : Int) = m) (hf : ds.findIdx? Dat.known = none) : putT m ds d = ds ∧ outT m ds d = d := by simp [putT, outT, h, hf]
theorem putT_some (m : Int) (ds : List Dat) (d : Dat) (h : (ds.length : Int) = m) {p : Nat} (hp : p < ds.length) (hf : ds.findIdx? Dat.known = some p) : putT m ds d = ds.eraseIdx p ++ [d] ∧ outT m ds d = ds[p] := by simp [putT, outT, h, hf, hp]
set_option maxRecDepth 100000 in
set_option maxHeartbeats 16000000 in
theorem stays_walk (most : Int) (s1 : SL) (l1 : List St) (W : World) (h1 : Ss W.heap.size s1 l1 W) :
    Calls Try.prog 4 #[.int .i64 most, s1.val] W fun e w' => e = .returned (.bool true) ∧ Below W.heap.size W w' := by
  obtain ⟨a1, n1, c1⟩ := s1
  obtain rfl : n1 = l1.length := h1.rd.n
  simp only [SL.val]
  go_enter Try.func4, Try.ntmps4
  go_wp2_with fail
  refine (works_any _).mono ?_
  rintro e w0 ⟨rfl, hb0⟩
  go_wp2_with fail
  refine (large_any W.heap.size ⟨a1, l1.length, c1⟩ l1 w0 (h1.below hb0) hb0.size).mono ?_
  rintro e w1 ⟨g1, rfl, hb1, hg1⟩
  have hba := then_below hb0 hb1
  cases g1
  · obtain ⟨hl1, hs1⟩ := hg1 (by trivial)
    have HSl1 := Lib.hid hs1
    clear hg1 hs1 hb0 hb1
    go_wp2_with fail
    by_cases hq : most < 1 ∨ 4096 < most
    · refine (new_no most _ hq).mono ?_
      rintro e w3 ⟨rfl, rfl⟩
      go_wp2_with fail
      go_ret
      exact ⟨rfl, hba⟩
    · obtain ⟨w3, hw3⟩ : ∃ w3, w3 = w1 := ⟨_, rfl⟩
      rw [← hw3] at hba ⊢
      clear hw3
      have hbc := hba
      refine (new_yes W.heap.size most w3 (by omega) (by omega) hbc.size).mono ?_
      rintro e w4 ⟨rfl, hN0, hb4⟩
      clear hq hba
      obtain ⟨P, hPW⟩ : ∃ P, P = W.heap.size := ⟨_, rfl⟩
      have hO : One P w3.heap.size (.slice none 0 0) ⟨most, []⟩ [] W w4 := ⟨by rw [hPW]; exact hN0, Bx.nil _ _ _, by rw [hPW]; exact then_below hbc hb4, by rw [hPW]; exact Nat.le_refl _⟩
      have H1 : Hid (Ss P ⟨a1, l1.length, c1⟩ l1 W) := Lib.hid (by rw [hPW]; exact h1)
      have HP := Lib.hid hPW
      generalize w3.heap.size = B at hO ⊢
      clear hN0 hb4 hbc h1 hPW
      go_wp2_with fail
      go_loopw [7] (fun i wr => ∃ (k : Nat) (v : Value) (n : N) (xs : List X), k ≤ l1.length ∧ i = .int .i64 k ∧ One P B v n xs W wr ∧ n.max = most) (fun i _ => l1.length - (intOf i).toNat)
      case atStart => exact ⟨0, _, _, [], by omega, rfl, hO, rfl⟩
      case round =>
        clear hO
        obtain ⟨k, v, n, xs, hk, rfl, hO, hm⟩ := hrel
        by_cases hlt : k < l1.length
        · have HOne := Lib.hid hO
          have HM := Lib.hid hm
          obtain ⟨b, o, e, -, hbP, -, -, hc⟩ := H1.out.rd.cell hlt
          have hok := (H1.out.ok _ (List.getElem_mem hlt)).x
          have hsm := HSl1.out _ (List.getElem_mem hlt)
          simp only at e
          subst e
          generalize l1[k] = s at hc hok hsm
          obtain ⟨kd, x⟩ := s
          simp only at hok hsm
          have hDp : ∀ w, Below P W w → Deep P 0 P x.dat x.f w := fun w hb => (hok.below hb).deep hsm
          obtain ⟨f, hf⟩ : ∃ f, f = x.f := ⟨_, rfl⟩
          have hc2 : In P b W (fun r => ([.int .u8 kd, .int .u8 f.kind, .int .i64 f.fa, .int .i64 f.fi, .int .i64 f.ta, .int .i64 f.ti, .int .i64 f.n, .int .i64 f.token, .int .i64 f.ba, .int .i64 f.bi, .slice f.ms.a f.ms.n f.ms.c, .slice f.fs.a f.fs.n f.fs.c, .slice f.rs.a f.rs.n f.rs.c, .slice f.cs.a f.cs.n f.cs.c, .slice f.ss.a f.ss.n f.ss.c] : List Value)[r]?) (fun r => o + (k * 15 + r)) := ⟨hbP, fun r hr => (hc r hr).trans (by rw [hf]; simp only [elS, Fr.cells])⟩
          rw [← hf] at hDp
          generalize x.dat = d at hDp
          have HI := Lib.hid hc2
          have HDp := Lib.hid hDp
          clear hc hok hsm hDp hc2 hO hm hf
          have hc5 := HI.out.at_ HOne.out.below
          have x0 : wr.cell? ⟨b, o + k * 15, none⟩ = some (.int .u8 kd) := hc5 0 (by decide)
          have x1 : wr.cell? ⟨b, o + k * 15 + 1, none⟩ = some (.int .u8 f.kind) := by have := hc5 1 (by decide); rwa [← Nat.add_assoc] at this
          have x2 : wr.cell? ⟨b, o + k * 15 + 2, none⟩ = some (.int .i64 f.fa) := by have := hc5 2 (by decide); rwa [← Nat.add_assoc] at this
          have x3 : wr.cell? ⟨b, o + k * 15 + 3, none⟩ = some (.int .i64 f.fi) := by have := hc5 3 (by decide); rwa [← Nat.add_assoc] at this
          have x4 : wr.cell? ⟨b, o + k * 15 + 4, none⟩ = some (.int .i64 f.ta) := by have := hc5 4 (by decide); rwa [← Nat.add_assoc] at this
          have x5 : wr.cell? ⟨b, o + k * 15 + 5, none⟩ = some (.int .i64 f.ti) := by have := hc5 5 (by decide); rwa [← Nat.add_assoc] at this
          have x6 : wr.cell? ⟨b, o + k * 15 + 6, none⟩ = some (.int .i64 f.n) := by have := hc5 6 (by decide); rwa [← Nat.add_assoc] at this
          have x7 : wr.cell? ⟨b, o + k * 15 + 7, none⟩ = some (.int .i64 f.token) := by have := hc5 7 (by decide); rwa [← Nat.add_assoc] at this
          have x8 : wr.cell? ⟨b, o + k * 15 + 8, none⟩ = some (.int .i64 f.ba) := by have := hc5 8 (by decide); rwa [← Nat.add_assoc] at this
          have x9 : wr.cell? ⟨b, o + k * 15 + 9, none⟩ = some (.int .i64 f.bi) := by have := hc5 9 (by decide); rwa [← Nat.add_assoc] at this
          have x10 : wr.cell? ⟨b, o + k * 15 + 10, none⟩ = some (.slice f.ms.a f.ms.n f.ms.c) := by have := hc5 10 (by decide); rwa [← Nat.add_assoc] at this
          have x11 : wr.cell? ⟨b, o + k * 15 + 11, none⟩ = some (.slice f.fs.a f.fs.n f.fs.c) := by have := hc5 11 (by decide); rwa [← Nat.add_assoc] at this
          have x12 : wr.cell? ⟨b, o + k * 15 + 12, none⟩ = some (.slice f.rs.a f.rs.n f.rs.c) := by have := hc5 12 (by decide); rwa [← Nat.add_assoc] at this
          have x13 : wr.cell? ⟨b, o + k * 15 + 13, none⟩ = some (.slice f.cs.a f.cs.n f.cs.c) := by have := hc5 13 (by decide); rwa [← Nat.add_assoc] at this
          have x14 : wr.cell? ⟨b, o + k * 15 + 14, none⟩ = some (.slice f.ss.a f.ss.n f.ss.c) := by have := hc5 14 (by decide); rwa [← Nat.add_assoc] at this
          clear hc5
          by_cases h0 : kd = 0
          · subst h0
            go_wp2_with fail
            refine (all_hl P B v n xs wr HOne.out.nt HOne.out.bx HOne.out.size).mono ?_
            rintro e w5 ⟨ow, cw, lw, outw, yw, rfl, hlw, how, hlW, hb5, hdw⟩
            have hO5 := HOne.out.kept hb5
            have hAw : Away (.slice ow lw cw) v := Away.new HOne.out.nt (fun g hg => (World.ownsRow.lt hlW.row g hg).1)
            have HW := Lib.hid (And.intro hlW (And.intro hdw hAw))
            have HO5 := Lib.hid hO5
            clear x0 x1 x2 x3 x4 x5 x6 x7 x8 x9 x10 x11 x12 x13 x14
            have hc5 := HI.out.at_ hO5.below
            have x0 : w5.cell? ⟨b, o + k * 15, none⟩ = some (.int .u8 0) := hc5 0 (by decide)
            have x1 : w5.cell? ⟨b, o + k * 15 + 1, none⟩ = some (.int .u8 f.kind) := by have := hc5 1 (by decide); rwa [← Nat.add_assoc] at this
            have x2 : w5.cell? ⟨b, o + k * 15 + 2, none⟩ = some (.int .i64 f.fa) := by have := hc5 2 (by decide); rwa [← Nat.add_assoc] at this
            have x3 : w5.cell? ⟨b, o + k * 15 + 3, none⟩ = some (.int .i64 f.fi) := by have := hc5 3 (by decide); rwa [← Nat.add_assoc] at this
            have x4 : w5.cell? ⟨b, o + k * 15 + 4, none⟩ = some (.int .i64 f.ta) := by have := hc5 4 (by decide); rwa [← Nat.add_assoc] at this
            have x5 : w5.cell? ⟨b, o + k * 15 + 5, none⟩ = some (.int .i64 f.ti) := by have := hc5 5 (by decide); rwa [← Nat.add_assoc] at this
            have x6 : w5.cell? ⟨b, o + k * 15 + 6, none⟩ = some (.int .i64 f.n) := by have := hc5 6 (by decide); rwa [← Nat.add_assoc] at this
            have x7 : w5.cell? ⟨b, o + k * 15 + 7, none⟩ = some (.int .i64 f.token) := by have := hc5 7 (by decide); rwa [← Nat.add_assoc] at this
            have x8 : w5.cell? ⟨b, o + k * 15 + 8, none⟩ = some (.int .i64 f.ba) := by have := hc5 8 (by decide); rwa [← Nat.add_assoc] at this
            have x9 : w5.cell? ⟨b, o + k * 15 + 9, none⟩ = some (.int .i64 f.bi) := by have := hc5 9 (by decide); rwa [← Nat.add_assoc] at this
            have x10 : w5.cell? ⟨b, o + k * 15 + 10, none⟩ = some (.slice f.ms.a f.ms.n f.ms.c) := by have := hc5 10 (by decide); rwa [← Nat.add_assoc] at this
            have x11 : w5.cell? ⟨b, o + k * 15 + 11, none⟩ = some (.slice f.fs.a f.fs.n f.fs.c) := by have := hc5 11 (by decide); rwa [← Nat.add_assoc] at this
            have x12 : w5.cell? ⟨b, o + k * 15 + 12, none⟩ = some (.slice f.rs.a f.rs.n f.rs.c) := by have := hc5 12 (by decide); rwa [← Nat.add_assoc] at this
            have x13 : w5.cell? ⟨b, o + k * 15 + 13, none⟩ = some (.slice f.cs.a f.cs.n f.cs.c) := by have := hc5 13 (by decide); rwa [← Nat.add_assoc] at this
            have x14 : w5.cell? ⟨b, o + k * 15 + 14, none⟩ = some (.slice f.ss.a f.ss.n f.ss.c) := by have := hc5 14 (by decide); rwa [← Nat.add_assoc] at this
            clear hc5 hlW hdw hb5 hAw hO5
            go_wp2_with fail
            refine (put_deep P B v n xs d f w5 HO5.out.nt HO5.out.bx (HDp.out w5 HO5.out.below) HO5.out.size).mono ?_
            rintro e w6 ⟨f', v2, a', b', lo2, hi2, rfl, hT, hN, hX, hDo, -⟩
            clear x0 x1 x2 x3 x4 x5 x6 x7 x8 x9 x10 x11 x12 x13 x14
            have hfull : n.full = decide ((xs.length : Int) = most) := by rw [HOne.out.bx.full (B := B), HM.out]
            have hdo : outX n.full xs d = outT most (xs.map (·.d)) d := by rw [hfull, outX_map]
            have hdx : (putX n.full xs ⟨d, a', b'⟩).map (·.d) = putT most (xs.map (·.d)) d := by rw [hfull, putX_map]
            have hmx := N.put_max n f'
            rw [hdo] at hDo
            generalize putX n.full xs ⟨d, a', b'⟩ = xs2 at hX hdx
            generalize n.out f' = g at hDo ⊢
            generalize n.put f' = n2 at hN hX hmx
            obtain ⟨bf, hbf⟩ : ∃ bf, bf = n.full := ⟨_, rfl⟩
            rw [← hbf] at hfull ⊢
            have HBF := Lib.hid hfull
            have hO6 := HO5.out.turn hT hN hX
            have hL6 := HW.out.1.turn hT HO5.out.nt HW.out.2.2
            have hbA : Below w6.heap.size w6 (w6.alloc (.cells g.cells 38)) := (Below.refl _ _).alloc (Nat.le_refl _) _
            have hO7 := Lib.hid (And.intro (hO6.kept hbA) (And.intro (hL6.below hbA) (And.intro (heap_alloc_new w6 (.cells g.cells 38)) (And.intro (hDo.below hbA) (And.intro hdx hmx)))))
            clear hT hN hX hDo hdo hdx hmx hfull hbf hO6 hL6 hbA HO5 a' b'
            obtain ⟨gk, gfa, gfi, gta, gti, gn, gtk, gba, gbi, ⟨ga1, gn1, gc1⟩, ⟨ga2, gn2, gc2⟩, ⟨ga3, gn3, gc3⟩, ⟨ga4, gn4, gc4⟩, ⟨ga5, gn5, gc5⟩⟩ := g
            simp only [Fr.val, Fr.cells] at hO7 ⊢
            go_wp2_with fail
            refine (all_hl P B v2 n2 xs2 _ hO7.out.1.nt hO7.out.1.bx hO7.out.1.size).mono ?_
            rintro e w7 ⟨on, cn, ln, outn, yn, rfl, hln, hon, hlN, hb7, hdn⟩
            have HO := Lib.hid (hO7.out.1.kept hb7)
            have HS7 := Lib.hid (show Seen P _ _ w6.heap.size (.slice ow lw cw) (.slice on ln cn) outw outn yw yn ⟨gk, gfa, gfi, gta, gti, gn, gtk, gba, gbi, ⟨ga1, gn1, gc1⟩, ⟨ga2, gn2, gc2⟩, ⟨ga3, gn3, gc3⟩, ⟨ga4, gn4, gc4⟩, ⟨ga5, gn5, gc5⟩⟩ (outT most (xs.map (·.d)) d) w7 from
              ⟨hO7.out.2.1.below hb7, hlN, (hb7.block _ (by simp)).trans hO7.out.2.2.1, _, _, hO7.out.2.2.2.1.below hb7⟩)
            have HD := Lib.hid (And.intro HW.out.2.1 (And.intro (hdn.trans hO7.out.2.2.2.2.1) hO7.out.2.2.2.2.2))
            have HLN := Lib.hid (show xs.length ≤ 4096 from HOne.out.len)
            have hlwb : lw ≤ 4096 := by have := hlw.out; have := HLN.out; omega
            clear hlN hb7 hdn hO7 HW HOne
            go_wp2_with fail
            go_loopw [13, 14] (fun fv i wx => ∃ (kk : Nat) (i0 f0 : Int), kk ≤ lw ∧ i = .int .i64 i0 ∧ fv = .int .i64 f0 ∧ Hid (i0 = (kk : Int) - 1) ∧ Hid (Below w7.heap.size w7 wx) ∧ Hid (From (xs.map (·.d)) kk f0)) (fun _ i _ => (intOf i + 1).toNat)
            case atStart =>
              refine ⟨lw, _, -1, Nat.le_refl _, rfl, rfl, Lib.hid rfl, Lib.hid (Below.refl _ _), Lib.hid ?_⟩
              have e : lw = (xs.map (·.d)).length := by simp [hlw.out]
              rw [e]
              exact From.end_ _
            case round =>
              obtain ⟨kk, i0, f0, hkk, rfl, rfl, hi0, HB, HF⟩ := hrel
              rcases kk with _ | j
              · obtain rfl : i0 = -1 := by have := hi0.out; omega
                clear hi0 hkk
                go_upto_block 4 with fail
                cases bf
                · skip
                  have hne : ¬ ((xs.map (·.d)).length : Int) = most := by have := HBF.out; simpa using this.symm
                  have hput := putT_len most _ d hne
                  have hlnw : ln = lw + 1 := by
                    have e2 := hlw.out
                    have e3 := congrArg List.length HD.out.2.1
                    rw [hput] at e3
                    have e4 := HS7.out.now.bx.len
                    have e5 := hon.out
                    simp only [List.length_map, List.length_append, List.length_singleton] at e3
                    omega
                  subst hlnw
                  have g1 : ((lw : Int) == most) = false := by have := hlw.out; simp only [List.length_map] at hne; rw [this]; simpa using hne
                  have hwr : IntKind.i64.wrap ((lw : Int) + 1) = (lw : Int) + 1 := IntWalk.i64_in _ (by have h1 := HLN.out; have h2 := hlw.out; omega)
                  have hS := HS7.out.below HB.out
                  have hO := HO.out.kept HB.out
                  have hl5 : (xs.map (·.d)).length ≤ 100000 := by have h1 := HLN.out; simp only [List.length_map]; omega
                  have hc6 := HI.out.at_ hO.below
                  have x0 : wr.cell? ⟨b, o + k * 15, none⟩ = some (.int .u8 0) := hc6 0 (by decide)
                  have x1 : wr.cell? ⟨b, o + k * 15 + 1, none⟩ = some (.int .u8 f.kind) := by have := hc6 1 (by decide); rwa [← Nat.add_assoc] at this
                  have x2 : wr.cell? ⟨b, o + k * 15 + 2, none⟩ = some (.int .i64 f.fa) := by have := hc6 2 (by decide); rwa [← Nat.add_assoc] at this
                  have x3 : wr.cell? ⟨b, o + k * 15 + 3, none⟩ = some (.int .i64 f.fi) := by have := hc6 3 (by decide); rwa [← Nat.add_assoc] at this
                  have x4 : wr.cell? ⟨b, o + k * 15 + 4, none⟩ = some (.int .i64 f.ta) := by have := hc6 4 (by decide); rwa [← Nat.add_assoc] at this
                  have x5 : wr.cell? ⟨b, o + k * 15 + 5, none⟩ = some (.int .i64 f.ti) := by have := hc6 5 (by decide); rwa [← Nat.add_assoc] at this
                  have x6 : wr.cell? ⟨b, o + k * 15 + 6, none⟩ = some (.int .i64 f.n) := by have := hc6 6 (by decide); rwa [← Nat.add_assoc] at this
                  have x7 : wr.cell? ⟨b, o + k * 15 + 7, none⟩ = some (.int .i64 f.token) := by have := hc6 7 (by decide); rwa [← Nat.add_assoc] at this
                  have x8 : wr.cell? ⟨b, o + k * 15 + 8, none⟩ = some (.int .i64 f.ba) := by have := hc6 8 (by decide); rwa [← Nat.add_assoc] at this
                  have x9 : wr.cell? ⟨b, o + k * 15 + 9, none⟩ = some (.int .i64 f.bi) := by have := hc6 9 (by decide); rwa [← Nat.add_assoc] at this
                  have x10 : wr.cell? ⟨b, o + k * 15 + 10, none⟩ = some (.slice f.ms.a f.ms.n f.ms.c) := by have := hc6 10 (by decide); rwa [← Nat.add_assoc] at this
                  have x11 : wr.cell? ⟨b, o + k * 15 + 11, none⟩ = some (.slice f.fs.a f.fs.n f.fs.c) := by have := hc6 11 (by decide); rwa [← Nat.add_assoc] at this
                  have x12 : wr.cell? ⟨b, o + k * 15 + 12, none⟩ = some (.slice f.rs.a f.rs.n f.rs.c) := by have := hc6 12 (by decide); rwa [← Nat.add_assoc] at this
                  have x13 : wr.cell? ⟨b, o + k * 15 + 13, none⟩ = some (.slice f.cs.a f.cs.n f.cs.c) := by have := hc6 13 (by decide); rwa [← Nat.add_assoc] at this
                  have x14 : wr.cell? ⟨b, o + k * 15 + 14, none⟩ = some (.slice f.ss.a f.ss.n f.ss.c) := by have := hc6 14 (by decide); rwa [← Nat.add_assoc] at this
                  have hlt1 : b < wr.drew.heap.size := Nat.lt_of_lt_of_le HI.out.1 hO.size
                  have HDi0 : Hid (Deep P 0 P d f wr.drew) := Lib.hid ((HDp.out wr hO.below).same (w' := wr.drew) (Nat.le_refl _) fun _ _ _ _ _ => rfl)
                  clear hc6 hO
                  have hFn := hS.now.frs2
                  have hol : lw < outn.length := by have := hon.out; omega
                  obtain ⟨b2, o2, e2, -, -, hlt2, -, hy⟩ := hFn.rd.cell (j := lw) hol
                  simp only at e2
                  subst e2
                  have hFw := hS.was.frs2
                  rw [HD.out.1] at hFw
                  rw [HD.out.2.1, hput] at hFn
                  have hlD : (xs.map (·.d)).length = lw := by have := hlw.out; simp [this]
                  have hFt := hFn.take lw (Nat.le_succ _) (by simp)
                  rw [List.take_left' hlD] at hFt
                  obtain ⟨q1, q2, hdn⟩ := hFn.at_ lw hol (by simp; have := hlw.out; omega)
                  have hdd : (xs.map (·.d) ++ [d])[lw]'(by simp; have := hlw.out; omega) = d := by rw [List.getElem_append_right (by omega)]; simp [hlD]
                  rw [hdd] at hdn
                  generalize outn[lw] = fn at hy hdn
                  have y0 : wr.cell? ⟨b2, o2 + lw * 14, none⟩ = some (.int .u8 fn.kind) := hy 0 (by decide)
                  have y1 : wr.cell? ⟨b2, o2 + lw * 14 + 1, none⟩ = some (.int .i64 fn.fa) := by have := hy 1 (by decide); rwa [← Nat.add_assoc] at this
                  have y2 : wr.cell? ⟨b2, o2 + lw * 14 + 2, none⟩ = some (.int .i64 fn.fi) := by have := hy 2 (by decide); rwa [← Nat.add_assoc] at this
                  have y3 : wr.cell? ⟨b2, o2 + lw * 14 + 3, none⟩ = some (.int .i64 fn.ta) := by have := hy 3 (by decide); rwa [← Nat.add_assoc] at this
                  have y4 : wr.cell? ⟨b2, o2 + lw * 14 + 4, none⟩ = some (.int .i64 fn.ti) := by have := hy 4 (by decide); rwa [← Nat.add_assoc] at this
                  have y5 : wr.cell? ⟨b2, o2 + lw * 14 + 5, none⟩ = some (.int .i64 fn.n) := by have := hy 5 (by decide); rwa [← Nat.add_assoc] at this
                  have y6 : wr.cell? ⟨b2, o2 + lw * 14 + 6, none⟩ = some (.int .i64 fn.token) := by have := hy 6 (by decide); rwa [← Nat.add_assoc] at this
                  have y7 : wr.cell? ⟨b2, o2 + lw * 14 + 7, none⟩ = some (.int .i64 fn.ba) := by have := hy 7 (by decide); rwa [← Nat.add_assoc] at this
                  have y8 : wr.cell? ⟨b2, o2 + lw * 14 + 8, none⟩ = some (.int .i64 fn.bi) := by have := hy 8 (by decide); rwa [← Nat.add_assoc] at this
                  have y9 : wr.cell? ⟨b2, o2 + lw * 14 + 9, none⟩ = some (.slice fn.ms.a fn.ms.n fn.ms.c) := by have := hy 9 (by decide); rwa [← Nat.add_assoc] at this
                  have y10 : wr.cell? ⟨b2, o2 + lw * 14 + 10, none⟩ = some (.slice fn.fs.a fn.fs.n fn.fs.c) := by have := hy 10 (by decide); rwa [← Nat.add_assoc] at this
                  have y11 : wr.cell? ⟨b2, o2 + lw * 14 + 11, none⟩ = some (.slice fn.rs.a fn.rs.n fn.rs.c) := by have := hy 11 (by decide); rwa [← Nat.add_assoc] at this
                  have y12 : wr.cell? ⟨b2, o2 + lw * 14 + 12, none⟩ = some (.slice fn.cs.a fn.cs.n fn.cs.c) := by have := hy 12 (by decide); rwa [← Nat.add_assoc] at this
                  have y13 : wr.cell? ⟨b2, o2 + lw * 14 + 13, none⟩ = some (.slice fn.ss.a fn.ss.n fn.ss.c) := by have := hy 13 (by decide); rwa [← Nat.add_assoc] at this
                  have hlt2 : b2 < wr.drew.heap.size := hlt2
                  have hcap : lw + 1 ≤ cn := hFn.rd.le
                  have hcap2 : cn ≤ 9223372036854775807 := hFn.rd.c
                  have hlc : lw ≤ cn := Nat.le_of_succ_le hcap
                  have hii : (lw : Int) < (lw : Int) + 1 := by omega
                  have HF1 : Hid (Frs P (w6.heap.size + 1) wr.heap.size ⟨some ⟨b2, o2, none⟩, lw, cn⟩ (outn.take lw) (xs.map (·.d)) wr.drew) := Lib.hid ⟨(hFt.rd.same (w' := wr.drew) (Nat.le_refl _) fun _ _ _ _ _ => rfl).wide (by simp) (Nat.le_refl _), hFt.len, fun j a b => by obtain ⟨x, y, hz⟩ := hFt.at_ j a b; exact ⟨x, y, hz.same (w' := wr.drew) (Nat.le_refl _) fun _ _ _ _ _ => rfl⟩⟩
                  have HF2 := Lib.hid (show Frs P _ _ ⟨ow, lw, cw⟩ outw (xs.map (·.d)) wr.drew from ⟨hFw.rd.same (w' := wr.drew) (Nat.le_refl _) fun _ _ _ _ _ => rfl, hFw.len, fun j a b => by obtain ⟨x, y, hz⟩ := hFw.at_ j a b; exact ⟨x, y, hz.same (w' := wr.drew) (Nat.le_refl _) fun _ _ _ _ _ => rfl⟩⟩)
                  have HDn : Hid (Deep P q1 q2 d fn wr.drew) := Lib.hid (hdn.same (w' := wr.drew) (Nat.le_refl _) fun _ _ _ _ _ => rfl)
                  clear hS hFn hFw hFt hdn hdd hy hlD hol hput hne
                  go_upto_region 26 with fail
                  refine wp_region_any (by as_aux_lemma => kernel_rfl) ?_
                  try (change wpAny _ _ _ _ _ _ _ (World.drew _))
                  refine wpAny_take (i := 0) (v := ?_) rfl (by as_aux_lemma => kernel_rfl) (by as_aux_lemma => kernel_rfl) (by as_aux_lemma => kernel_rfl) (fun _ _ _ h => h) (Or.inl ⟨by as_aux_lemma => kernel_rfl, ?_⟩) ?_
                  rotate_left
                  · (intro w; go_simp) <;> with_reducible rfl
                  refine wpAny_take (i := 1) (v := ?_) rfl (by as_aux_lemma => kernel_rfl) (by as_aux_lemma => kernel_rfl) (by as_aux_lemma => kernel_rfl) (fun _ _ _ h => h) (Or.inl ⟨by as_aux_lemma => kernel_rfl, ?_⟩) ?_
                  rotate_left
                  · (intro w; go_simp) <;> with_reducible rfl
                  refine wpAny_take (i := 2) (v := ?_) rfl (by as_aux_lemma => kernel_rfl) (by as_aux_lemma => kernel_rfl) (by as_aux_lemma => kernel_rfl) (fun _ _ _ h => h) (Or.inl ⟨by as_aux_lemma => kernel_rfl, ?_⟩) ?_
                  rotate_left
                  · (intro w; go_simp) <;> with_reducible rfl
                  refine wpAny_take (i := 3) (v := ?_) rfl (by as_aux_lemma => kernel_rfl) (by as_aux_lemma => kernel_rfl) (by as_aux_lemma => kernel_rfl) (fun _ _ _ h => h) (Or.inl ⟨by as_aux_lemma => kernel_rfl, ?_⟩) ?_
                  rotate_left
                  · (intro w; go_simp) <;> with_reducible rfl
                  refine wpAny_take (i := 4) (v := ?_) rfl (by as_aux_lemma => kernel_rfl) (by as_aux_lemma => kernel_rfl) (by as_aux_lemma => kernel_rfl) (fun _ _ _ h => h) (Or.inl ⟨by as_aux_lemma => kernel_rfl, ?_⟩) ?_
                  rotate_left
                  · (intro w; go_simp) <;> with_reducible rfl
                  refine wpAny_take (i := 5) (v := ?_) rfl (by as_aux_lemma => kernel_rfl) (by as_aux_lemma => kernel_rfl) (by as_aux_lemma => kernel_rfl) (fun _ _ _ h => h) (Or.inl ⟨by as_aux_lemma => kernel_rfl, ?_⟩) ?_
                  rotate_left
                  · (intro w; go_simp) <;> with_reducible rfl
                  refine wpAny_take (i := 6) (v := ?_) rfl (by as_aux_lemma => kernel_rfl) (by as_aux_lemma => kernel_rfl) (by as_aux_lemma => kernel_rfl) (fun _ _ _ h => h) (Or.inl ⟨by as_aux_lemma => kernel_rfl, ?_⟩) ?_
                  rotate_left
                  · (intro w; go_simp) <;> with_reducible rfl
                  refine wpAny_take (i := 7) (v := ?_) rfl (by as_aux_lemma => kernel_rfl) (by as_aux_lemma => kernel_rfl) (by as_aux_lemma => kernel_rfl) (fun _ _ _ h => h) (Or.inl ⟨by as_aux_lemma => kernel_rfl, ?_⟩) ?_
                  rotate_left
                  · (intro w; go_simp) <;> with_reducible rfl
                  refine wpAny_take (i := 8) (v := ?_) rfl (by as_aux_lemma => kernel_rfl) (by as_aux_lemma => kernel_rfl) (by as_aux_lemma => kernel_rfl) (fun _ _ _ h => h) (Or.inl ⟨by as_aux_lemma => kernel_rfl, ?_⟩) ?_
                  rotate_left
                  · (intro w; go_simp) <;> with_reducible rfl
                  refine wpAny_take (i := 9) (v := ?_) rfl (by as_aux_lemma => kernel_rfl) (by as_aux_lemma => kernel_rfl) (by as_aux_lemma => kernel_rfl) (fun _ _ _ h => h) (Or.inl ⟨by as_aux_lemma => kernel_rfl, ?_⟩) ?_
                  rotate_left
                  · (intro w; go_simp) <;> with_reducible rfl
                  refine wpAny_take (i := 10) (v := ?_) rfl (by as_aux_lemma => kernel_rfl) (by as_aux_lemma => kernel_rfl) (by as_aux_lemma => kernel_rfl) (fun _ _ _ h => h) (Or.inl ⟨by as_aux_lemma => kernel_rfl, ?_⟩) ?_
                  rotate_left
                  · (intro w; go_simp) <;> with_reducible rfl
                  refine wpAny_take (i := 11) (v := ?_) rfl (by as_aux_lemma => kernel_rfl) (by as_aux_lemma => kernel_rfl) (by as_aux_lemma => kernel_rfl) (fun _ _ _ h => h) (Or.inl ⟨by as_aux_lemma => kernel_rfl, ?_⟩) ?_
                  rotate_left
                  · (intro w; go_simp) <;> with_reducible rfl
                  refine wpAny_one (i := 12) (by as_aux_lemma => kernel_rfl) rfl (fun K hK => ?_)
                  go_simp
                  refine (frames_same ⟨some ⟨b2, o2, none⟩, lw, cn⟩ ⟨ow, lw, cw⟩ (outn.take lw) outw (xs.map (·.d)) wr.drew HF1.out HF2.out hl5).mono ?_
                  rintro e w8 ⟨rfl, hb8⟩
                  go_wp2_with fail
                  refine hK.out _ _ ?_; clear hK K
                  refine wpAny_take (i := 13) (v := ?_) rfl (by as_aux_lemma => kernel_rfl) (by as_aux_lemma => kernel_rfl) (by as_aux_lemma => kernel_rfl) (fun _ _ _ h => h) (Or.inl ⟨by as_aux_lemma => kernel_rfl, ?_⟩) ?_
                  rotate_left
                  · (intro w; go_simp) <;> with_reducible rfl
                  refine wpAny_take (i := 14) (v := ?_) rfl (by as_aux_lemma => kernel_rfl) (by as_aux_lemma => kernel_rfl) (by as_aux_lemma => kernel_rfl) (fun _ _ _ h => h) (Or.inl ⟨by as_aux_lemma => kernel_rfl, ?_⟩) ?_
                  rotate_left
                  · (intro w; go_simp) <;> with_reducible rfl
                  refine wpAny_take (i := 15) (v := ?_) rfl (by as_aux_lemma => kernel_rfl) (by as_aux_lemma => kernel_rfl) (by as_aux_lemma => kernel_rfl) (fun _ _ _ h => h) (Or.inl ⟨by as_aux_lemma => kernel_rfl, ?_⟩) ?_
                  rotate_left
                  · (intro w; go_simp) <;> with_reducible rfl
                  refine wpAny_take (i := 16) (v := ?_) rfl (by as_aux_lemma => kernel_rfl) (by as_aux_lemma => kernel_rfl) (by as_aux_lemma => kernel_rfl) (fun _ _ _ h => h) (Or.inl ⟨by as_aux_lemma => kernel_rfl, ?_⟩) ?_
                  rotate_left
                  · (intro w; go_simp) <;> with_reducible rfl
                  refine wpAny_take (i := 17) (v := ?_) rfl (by as_aux_lemma => kernel_rfl) (by as_aux_lemma => kernel_rfl) (by as_aux_lemma => kernel_rfl) (fun _ _ _ h => h) (Or.inl ⟨by as_aux_lemma => kernel_rfl, ?_⟩) ?_
                  rotate_left
                  · (intro w; go_simp) <;> with_reducible rfl
                  refine wpAny_take (i := 18) (v := ?_) rfl (by as_aux_lemma => kernel_rfl) (by as_aux_lemma => kernel_rfl) (by as_aux_lemma => kernel_rfl) (fun _ _ _ h => h) (Or.inl ⟨by as_aux_lemma => kernel_rfl, ?_⟩) ?_
                  rotate_left
                  · (intro w; go_simp) <;> with_reducible rfl
                  refine wpAny_take (i := 19) (v := ?_) rfl (by as_aux_lemma => kernel_rfl) (by as_aux_lemma => kernel_rfl) (by as_aux_lemma => kernel_rfl) (fun _ _ _ h => h) (Or.inl ⟨by as_aux_lemma => kernel_rfl, ?_⟩) ?_
                  rotate_left
                  · (intro w; go_simp) <;> with_reducible rfl
                  refine wpAny_take (i := 21) (v := ?_) rfl (by as_aux_lemma => kernel_rfl) (by as_aux_lemma => kernel_rfl) (by as_aux_lemma => kernel_rfl) (fun _ _ _ h => h) (Or.inl ⟨by as_aux_lemma => kernel_rfl, ?_⟩) ?_
                  rotate_left
                  · (intro w; go_simp) <;> with_reducible rfl
                  refine wpAny_take (i := 22) (v := ?_) rfl (by as_aux_lemma => kernel_rfl) (by as_aux_lemma => kernel_rfl) (by as_aux_lemma => kernel_rfl) (fun _ _ _ h => h) (Or.inl ⟨by as_aux_lemma => kernel_rfl, ?_⟩) ?_
                  rotate_left
                  · (intro w; go_simp) <;> with_reducible rfl
                  refine wpAny_take (i := 23) (v := ?_) rfl (by as_aux_lemma => kernel_rfl) (by as_aux_lemma => kernel_rfl) (by as_aux_lemma => kernel_rfl) (fun _ _ _ h => h) (Or.inl ⟨by as_aux_lemma => kernel_rfl, ?_⟩) ?_
                  rotate_left
                  · (intro w; go_simp) <;> with_reducible rfl
                  refine wpAny_take (i := 24) (v := ?_) rfl (by as_aux_lemma => kernel_rfl) (by as_aux_lemma => kernel_rfl) (by as_aux_lemma => kernel_rfl) (fun _ _ _ h => h) (Or.inl ⟨by as_aux_lemma => kernel_rfl, ?_⟩) ?_
                  rotate_left
                  · (intro w; go_simp) <;> with_reducible rfl
                  have y0 := (hb8.cell (p := ⟨b2, o2 + lw * 14, none⟩) hlt2).trans y0
                  have y1 := (hb8.cell (p := ⟨b2, o2 + lw * 14 + 1, none⟩) hlt2).trans y1
                  have y2 := (hb8.cell (p := ⟨b2, o2 + lw * 14 + 2, none⟩) hlt2).trans y2
                  have y3 := (hb8.cell (p := ⟨b2, o2 + lw * 14 + 3, none⟩) hlt2).trans y3
                  have y4 := (hb8.cell (p := ⟨b2, o2 + lw * 14 + 4, none⟩) hlt2).trans y4
                  have y5 := (hb8.cell (p := ⟨b2, o2 + lw * 14 + 5, none⟩) hlt2).trans y5
                  have y6 := (hb8.cell (p := ⟨b2, o2 + lw * 14 + 6, none⟩) hlt2).trans y6
                  have y7 := (hb8.cell (p := ⟨b2, o2 + lw * 14 + 7, none⟩) hlt2).trans y7
                  have y8 := (hb8.cell (p := ⟨b2, o2 + lw * 14 + 8, none⟩) hlt2).trans y8
                  have y9 := (hb8.cell (p := ⟨b2, o2 + lw * 14 + 9, none⟩) hlt2).trans y9
                  have y10 := (hb8.cell (p := ⟨b2, o2 + lw * 14 + 10, none⟩) hlt2).trans y10
                  have y11 := (hb8.cell (p := ⟨b2, o2 + lw * 14 + 11, none⟩) hlt2).trans y11
                  have y12 := (hb8.cell (p := ⟨b2, o2 + lw * 14 + 12, none⟩) hlt2).trans y12
                  have y13 := (hb8.cell (p := ⟨b2, o2 + lw * 14 + 13, none⟩) hlt2).trans y13
                  have x1 := (hb8.cell (p := ⟨b, o + k * 15 + 1, none⟩) hlt1).trans x1
                  have x2 := (hb8.cell (p := ⟨b, o + k * 15 + 2, none⟩) hlt1).trans x2
                  have x3 := (hb8.cell (p := ⟨b, o + k * 15 + 3, none⟩) hlt1).trans x3
                  have x4 := (hb8.cell (p := ⟨b, o + k * 15 + 4, none⟩) hlt1).trans x4
                  have x5 := (hb8.cell (p := ⟨b, o + k * 15 + 5, none⟩) hlt1).trans x5
                  have x6 := (hb8.cell (p := ⟨b, o + k * 15 + 6, none⟩) hlt1).trans x6
                  have x7 := (hb8.cell (p := ⟨b, o + k * 15 + 7, none⟩) hlt1).trans x7
                  have x8 := (hb8.cell (p := ⟨b, o + k * 15 + 8, none⟩) hlt1).trans x8
                  have x9 := (hb8.cell (p := ⟨b, o + k * 15 + 9, none⟩) hlt1).trans x9
                  have x10 := (hb8.cell (p := ⟨b, o + k * 15 + 10, none⟩) hlt1).trans x10
                  have x11 := (hb8.cell (p := ⟨b, o + k * 15 + 11, none⟩) hlt1).trans x11
                  have x12 := (hb8.cell (p := ⟨b, o + k * 15 + 12, none⟩) hlt1).trans x12
                  have x13 := (hb8.cell (p := ⟨b, o + k * 15 + 13, none⟩) hlt1).trans x13
                  have x14 := (hb8.cell (p := ⟨b, o + k * 15 + 14, none⟩) hlt1).trans x14
                  refine wpAny_of_till (S := fun x => x.cell? ⟨b2, o2 + lw * 14, none⟩ = some (.int .u8 fn.kind) ∧ x.cell? ⟨b2, o2 + lw * 14 + 1, none⟩ = some (.int .i64 fn.fa) ∧ x.cell? ⟨b2, o2 + lw * 14 + 2, none⟩ = some (.int .i64 fn.fi) ∧ x.cell? ⟨b2, o2 + lw * 14 + 3, none⟩ = some (.int .i64 fn.ta) ∧ x.cell? ⟨b2, o2 + lw * 14 + 4, none⟩ = some (.int .i64 fn.ti) ∧ x.cell? ⟨b2, o2 + lw * 14 + 5, none⟩ = some (.int .i64 fn.n) ∧ x.cell? ⟨b2, o2 + lw * 14 + 6, none⟩ = some (.int .i64 fn.token) ∧ x.cell? ⟨b2, o2 + lw * 14 + 7, none⟩ = some (.int .i64 fn.ba) ∧ x.cell? ⟨b2, o2 + lw * 14 + 8, none⟩ = some (.int .i64 fn.bi) ∧ x.cell? ⟨b2, o2 + lw * 14 + 9, none⟩ = some (.slice fn.ms.a fn.ms.n fn.ms.c) ∧ x.cell? ⟨b2, o2 + lw * 14 + 10, none⟩ = some (.slice fn.fs.a fn.fs.n fn.fs.c) ∧ x.cell? ⟨b2, o2 + lw * 14 + 11, none⟩ = some (.slice fn.rs.a fn.rs.n fn.rs.c) ∧ x.cell? ⟨b2, o2 + lw * 14 + 12, none⟩ = some (.slice fn.cs.a fn.cs.n fn.cs.c) ∧ x.cell? ⟨b2, o2 + lw * 14 + 13, none⟩ = some (.slice fn.ss.a fn.ss.n fn.ss.c) ∧ x.cell? ⟨b, o + k * 15 + 1, none⟩ = some (.int .u8 f.kind) ∧ x.cell? ⟨b, o + k * 15 + 2, none⟩ = some (.int .i64 f.fa) ∧ x.cell? ⟨b, o + k * 15 + 3, none⟩ = some (.int .i64 f.fi) ∧ x.cell? ⟨b, o + k * 15 + 4, none⟩ = some (.int .i64 f.ta) ∧ x.cell? ⟨b, o + k * 15 + 5, none⟩ = some (.int .i64 f.ti) ∧ x.cell? ⟨b, o + k * 15 + 6, none⟩ = some (.int .i64 f.n) ∧ x.cell? ⟨b, o + k * 15 + 7, none⟩ = some (.int .i64 f.token) ∧ x.cell? ⟨b, o + k * 15 + 8, none⟩ = some (.int .i64 f.ba) ∧ x.cell? ⟨b, o + k * 15 + 9, none⟩ = some (.int .i64 f.bi) ∧ x.cell? ⟨b, o + k * 15 + 10, none⟩ = some (.slice f.ms.a f.ms.n f.ms.c) ∧ x.cell? ⟨b, o + k * 15 + 11, none⟩ = some (.slice f.fs.a f.fs.n f.fs.c) ∧ x.cell? ⟨b, o + k * 15 + 12, none⟩ = some (.slice f.rs.a f.rs.n f.rs.c) ∧ x.cell? ⟨b, o + k * 15 + 13, none⟩ = some (.slice f.cs.a f.cs.n f.cs.c) ∧ x.cell? ⟨b, o + k * 15 + 14, none⟩ = some (.slice f.ss.a f.ss.n f.ss.c)) (k := 26) _ _ _ _ ?_
                  have hS : (fun x : World => x.cell? ⟨b2, o2 + lw * 14, none⟩ = some (.int .u8 fn.kind) ∧ x.cell? ⟨b2, o2 + lw * 14 + 1, none⟩ = some (.int .i64 fn.fa) ∧ x.cell? ⟨b2, o2 + lw * 14 + 2, none⟩ = some (.int .i64 fn.fi) ∧ x.cell? ⟨b2, o2 + lw * 14 + 3, none⟩ = some (.int .i64 fn.ta) ∧ x.cell? ⟨b2, o2 + lw * 14 + 4, none⟩ = some (.int .i64 fn.ti) ∧ x.cell? ⟨b2, o2 + lw * 14 + 5, none⟩ = some (.int .i64 fn.n) ∧ x.cell? ⟨b2, o2 + lw * 14 + 6, none⟩ = some (.int .i64 fn.token) ∧ x.cell? ⟨b2, o2 + lw * 14 + 7, none⟩ = some (.int .i64 fn.ba) ∧ x.cell? ⟨b2, o2 + lw * 14 + 8, none⟩ = some (.int .i64 fn.bi) ∧ x.cell? ⟨b2, o2 + lw * 14 + 9, none⟩ = some (.slice fn.ms.a fn.ms.n fn.ms.c) ∧ x.cell? ⟨b2, o2 + lw * 14 + 10, none⟩ = some (.slice fn.fs.a fn.fs.n fn.fs.c) ∧ x.cell? ⟨b2, o2 + lw * 14 + 11, none⟩ = some (.slice fn.rs.a fn.rs.n fn.rs.c) ∧ x.cell? ⟨b2, o2 + lw * 14 + 12, none⟩ = some (.slice fn.cs.a fn.cs.n fn.cs.c) ∧ x.cell? ⟨b2, o2 + lw * 14 + 13, none⟩ = some (.slice fn.ss.a fn.ss.n fn.ss.c) ∧ x.cell? ⟨b, o + k * 15 + 1, none⟩ = some (.int .u8 f.kind) ∧ x.cell? ⟨b, o + k * 15 + 2, none⟩ = some (.int .i64 f.fa) ∧ x.cell? ⟨b, o + k * 15 + 3, none⟩ = some (.int .i64 f.fi) ∧ x.cell? ⟨b, o + k * 15 + 4, none⟩ = some (.int .i64 f.ta) ∧ x.cell? ⟨b, o + k * 15 + 5, none⟩ = some (.int .i64 f.ti) ∧ x.cell? ⟨b, o + k * 15 + 6, none⟩ = some (.int .i64 f.n) ∧ x.cell? ⟨b, o + k * 15 + 7, none⟩ = some (.int .i64 f.token) ∧ x.cell? ⟨b, o + k * 15 + 8, none⟩ = some (.int .i64 f.ba) ∧ x.cell? ⟨b, o + k * 15 + 9, none⟩ = some (.int .i64 f.bi) ∧ x.cell? ⟨b, o + k * 15 + 10, none⟩ = some (.slice f.ms.a f.ms.n f.ms.c) ∧ x.cell? ⟨b, o + k * 15 + 11, none⟩ = some (.slice f.fs.a f.fs.n f.fs.c) ∧ x.cell? ⟨b, o + k * 15 + 12, none⟩ = some (.slice f.rs.a f.rs.n f.rs.c) ∧ x.cell? ⟨b, o + k * 15 + 13, none⟩ = some (.slice f.cs.a f.cs.n f.cs.c) ∧ x.cell? ⟨b, o + k * 15 + 14, none⟩ = some (.slice f.ss.a f.ss.n f.ss.c)) _ := ⟨y0, y1, y2, y3, y4, y5, y6, y7, y8, y9, y10, y11, y12, y13, x1, x2, x3, x4, x5, x6, x7, x8, x9, x10, x11, x12, x13, x14⟩
                  refine wpTill_take (i := 20) (v := (.agg #[.int .u8 fn.kind, .int .i64 fn.fa, .int .i64 fn.fi, .int .i64 fn.ta, .int .i64 fn.ti, .int .i64 fn.n, .int .i64 fn.token, .int .i64 fn.ba, .int .i64 fn.bi, .slice fn.ms.a fn.ms.n fn.ms.c, .slice fn.fs.a fn.fs.n fn.fs.c, .slice fn.rs.a fn.rs.n fn.rs.c, .slice fn.cs.a fn.cs.n fn.cs.c, .slice fn.ss.a fn.ss.n fn.ss.c])) rfl (by as_aux_lemma => kernel_rfl) (by as_aux_lemma => kernel_rfl) (by as_aux_lemma => kernel_rfl) (by as_aux_lemma => kernel_rfl) (fun _ _ _ h => h) (Or.inl ⟨by as_aux_lemma => kernel_rfl, ?_⟩) hS ?_
                  · intro w hSw; (try dsimp only at hSw); (try obtain ⟨x0, x1, x2, x3, x4, x5, x6, x7, x8, x9, x10, x11, x12, x13, x14, x15, x16, x17, x18, x19, x20, x21, x22, x23, x24, x25, x26, x27⟩ := hSw); go_simp
                  try simp only [Act.put, List.setIfInBounds_toArray, List.set_cons_zero, List.set_cons_succ]
                  refine wpTill_take (i := 25) (v := (.agg #[.int .u8 f.kind, .int .i64 f.fa, .int .i64 f.fi, .int .i64 f.ta, .int .i64 f.ti, .int .i64 f.n, .int .i64 f.token, .int .i64 f.ba, .int .i64 f.bi, .slice f.ms.a f.ms.n f.ms.c, .slice f.fs.a f.fs.n f.fs.c, .slice f.rs.a f.rs.n f.rs.c, .slice f.cs.a f.cs.n f.cs.c, .slice f.ss.a f.ss.n f.ss.c])) rfl (by as_aux_lemma => kernel_rfl) (by as_aux_lemma => kernel_rfl) (by as_aux_lemma => kernel_rfl) (by as_aux_lemma => kernel_rfl) (fun _ _ _ h => h) (Or.inl ⟨by as_aux_lemma => kernel_rfl, ?_⟩) hS ?_
                  · intro w hSw; (try dsimp only at hSw); (try obtain ⟨x0, x1, x2, x3, x4, x5, x6, x7, x8, x9, x10, x11, x12, x13, x14, x15, x16, x17, x18, x19, x20, x21, x22, x23, x24, x25, x26, x27⟩ := hSw); go_simp
                  try simp only [Act.put, List.setIfInBounds_toArray, List.set_cons_zero, List.set_cons_succ]
                  refine wpTill_end (by as_aux_lemma => kernel_rfl) rfl (fun K hK => ?_)
                  go_simp
                  clear hS
                  refine (same_deep d fn f w8 (HDn.out.below hb8) (HDi0.out.below hb8)).mono ?_
                  rintro e w9 ⟨rfl, hb9⟩
                  go_wp2_with fail
                  refine hK.out _ _ ?_; clear hK K
                  refine wpAny_one (i := 27) (by as_aux_lemma => kernel_rfl) rfl (fun K hK => ?_)
                  go_simp
                  refine hK.out _ _ ?_; clear hK K
                  refine wpAny_one (i := 28) (by as_aux_lemma => kernel_rfl) rfl (fun K hK => ?_)
                  go_simp
                  refine hK.out _ _ ?_; clear hK K
                  refine wpAny_done (by as_aux_lemma => kernel_rfl) ?_ _
                  go_simp
                  have hbu := undrew hb8
                  have hfin := HO.out.kept (HB.out.trans ((hbu.trans (hb9.mono hbu.size)).mono HB.out.size))
                  clear x0 x1 x2 x3 x4 x5 x6 x7 x8 x9 x10 x11 x12 x13 x14 y0 y1 y2 y3 y4 y5 y6 y7 y8 y9 y10 y11 y12 y13
                  go_wp2_with fail
                  go_roundw
                  case rel => exact ⟨k + 1, v2, n2, xs2, by omega, by go_num, hfin, by rw [HD.out.2.2, HM.out]⟩
                  case measure => simp only [intOf]; omega
                · have heq : ((xs.map (·.d)).length : Int) = most := by have := HBF.out; simpa using this.symm
                  have g1 : ((lw : Int) == most) = true := by have := hlw.out; simp only [List.length_map] at heq; rw [this]; simpa using heq
                  rcases HF.out.find with hfind | hfind
                  · skip
                    obtain ⟨rfl, hnone⟩ := hfind
                    obtain ⟨hput, hout⟩ := putT_none most _ d heq hnone
                    have hS := HS7.out.below HB.out
                    have hO := HO.out.kept HB.out
                    have hl5 : (xs.map (·.d)).length ≤ 100000 := by have h1 := HLN.out; simp only [List.length_map]; omega
                    have hc6 := HI.out.at_ hO.below
                    have x0 : wr.cell? ⟨b, o + k * 15, none⟩ = some (.int .u8 0) := hc6 0 (by decide)
                    have x1 : wr.cell? ⟨b, o + k * 15 + 1, none⟩ = some (.int .u8 f.kind) := by have := hc6 1 (by decide); rwa [← Nat.add_assoc] at this
                    have x2 : wr.cell? ⟨b, o + k * 15 + 2, none⟩ = some (.int .i64 f.fa) := by have := hc6 2 (by decide); rwa [← Nat.add_assoc] at this
                    have x3 : wr.cell? ⟨b, o + k * 15 + 3, none⟩ = some (.int .i64 f.fi) := by have := hc6 3 (by decide); rwa [← Nat.add_assoc] at this
                    have x4 : wr.cell? ⟨b, o + k * 15 + 4, none⟩ = some (.int .i64 f.ta) := by have := hc6 4 (by decide); rwa [← Nat.add_assoc] at this
                    have x5 : wr.cell? ⟨b, o + k * 15 + 5, none⟩ = some (.int .i64 f.ti) := by have := hc6 5 (by decide); rwa [← Nat.add_assoc] at this
                    have x6 : wr.cell? ⟨b, o + k * 15 + 6, none⟩ = some (.int .i64 f.n) := by have := hc6 6 (by decide); rwa [← Nat.add_assoc] at this
                    have x7 : wr.cell? ⟨b, o + k * 15 + 7, none⟩ = some (.int .i64 f.token) := by have := hc6 7 (by decide); rwa [← Nat.add_assoc] at this
                    have x8 : wr.cell? ⟨b, o + k * 15 + 8, none⟩ = some (.int .i64 f.ba) := by have := hc6 8 (by decide); rwa [← Nat.add_assoc] at this
                    have x9 : wr.cell? ⟨b, o + k * 15 + 9, none⟩ = some (.int .i64 f.bi) := by have := hc6 9 (by decide); rwa [← Nat.add_assoc] at this
                    have x10 : wr.cell? ⟨b, o + k * 15 + 10, none⟩ = some (.slice f.ms.a f.ms.n f.ms.c) := by have := hc6 10 (by decide); rwa [← Nat.add_assoc] at this
                    have x11 : wr.cell? ⟨b, o + k * 15 + 11, none⟩ = some (.slice f.fs.a f.fs.n f.fs.c) := by have := hc6 11 (by decide); rwa [← Nat.add_assoc] at this
                    have x12 : wr.cell? ⟨b, o + k * 15 + 12, none⟩ = some (.slice f.rs.a f.rs.n f.rs.c) := by have := hc6 12 (by decide); rwa [← Nat.add_assoc] at this
                    have x13 : wr.cell? ⟨b, o + k * 15 + 13, none⟩ = some (.slice f.cs.a f.cs.n f.cs.c) := by have := hc6 13 (by decide); rwa [← Nat.add_assoc] at this
                    have x14 : wr.cell? ⟨b, o + k * 15 + 14, none⟩ = some (.slice f.ss.a f.ss.n f.ss.c) := by have := hc6 14 (by decide); rwa [← Nat.add_assoc] at this
                    have hlt1 : b < wr.drew.heap.size := Nat.lt_of_lt_of_le HI.out.1 hO.size
                    have HDi0 : Hid (Deep P 0 P d f wr.drew) := Lib.hid ((HDp.out wr hO.below).same (w' := wr.drew) (Nat.le_refl _) fun _ _ _ _ _ => rfl)
                    clear hc6 hO
                    have hFn := hS.now.frs2
                    have hFw := hS.was.frs2
                    rw [HD.out.1] at hFw
                    rw [HD.out.2.1, hput] at hFn
                    obtain ⟨q1, q2, hdg⟩ := hS.deep
                    rw [hout] at hdg
                    have hg6 := hS.out
                    obtain ⟨g, hg⟩ : ∃ g : Fr, g = ⟨gk, gfa, gfi, gta, gti, gn, gtk, gba, gbi, ⟨ga1, gn1, gc1⟩, ⟨ga2, gn2, gc2⟩, ⟨ga3, gn3, gc3⟩, ⟨ga4, gn4, gc4⟩, ⟨ga5, gn5, gc5⟩⟩ := ⟨_, rfl⟩
                    rw [← hg] at hg6 hdg
                    have y0 : wr.cell? ⟨w6.heap.size, 0, none⟩ = some (.int .u8 g.kind) := (cell_of_row _ _ _ _ _ _ hg6).trans rfl
                    have y1 : wr.cell? ⟨w6.heap.size, 1, none⟩ = some (.int .i64 g.fa) := (cell_of_row _ _ _ _ _ _ hg6).trans rfl
                    have y2 : wr.cell? ⟨w6.heap.size, 2, none⟩ = some (.int .i64 g.fi) := (cell_of_row _ _ _ _ _ _ hg6).trans rfl
                    have y3 : wr.cell? ⟨w6.heap.size, 3, none⟩ = some (.int .i64 g.ta) := (cell_of_row _ _ _ _ _ _ hg6).trans rfl
                    have y4 : wr.cell? ⟨w6.heap.size, 4, none⟩ = some (.int .i64 g.ti) := (cell_of_row _ _ _ _ _ _ hg6).trans rfl
                    have y5 : wr.cell? ⟨w6.heap.size, 5, none⟩ = some (.int .i64 g.n) := (cell_of_row _ _ _ _ _ _ hg6).trans rfl
                    have y6 : wr.cell? ⟨w6.heap.size, 6, none⟩ = some (.int .i64 g.token) := (cell_of_row _ _ _ _ _ _ hg6).trans rfl
                    have y7 : wr.cell? ⟨w6.heap.size, 7, none⟩ = some (.int .i64 g.ba) := (cell_of_row _ _ _ _ _ _ hg6).trans rfl
                    have y8 : wr.cell? ⟨w6.heap.size, 8, none⟩ = some (.int .i64 g.bi) := (cell_of_row _ _ _ _ _ _ hg6).trans rfl
                    have y9 : wr.cell? ⟨w6.heap.size, 9, none⟩ = some (.slice g.ms.a g.ms.n g.ms.c) := (cell_of_row _ _ _ _ _ _ hg6).trans rfl
                    have y10 : wr.cell? ⟨w6.heap.size, 10, none⟩ = some (.slice g.fs.a g.fs.n g.fs.c) := (cell_of_row _ _ _ _ _ _ hg6).trans rfl
                    have y11 : wr.cell? ⟨w6.heap.size, 11, none⟩ = some (.slice g.rs.a g.rs.n g.rs.c) := (cell_of_row _ _ _ _ _ _ hg6).trans rfl
                    have y12 : wr.cell? ⟨w6.heap.size, 12, none⟩ = some (.slice g.cs.a g.cs.n g.cs.c) := (cell_of_row _ _ _ _ _ _ hg6).trans rfl
                    have y13 : wr.cell? ⟨w6.heap.size, 13, none⟩ = some (.slice g.ss.a g.ss.n g.ss.c) := (cell_of_row _ _ _ _ _ _ hg6).trans rfl
                    have HF1 := Lib.hid (show Frs P _ _ ⟨on, ln, cn⟩ outn (xs.map (·.d)) wr.drew from ⟨hFn.rd.same (w' := wr.drew) (Nat.le_refl _) fun _ _ _ _ _ => rfl, hFn.len, fun j a b => by obtain ⟨x, y, hz⟩ := hFn.at_ j a b; exact ⟨x, y, hz.same (w' := wr.drew) (Nat.le_refl _) fun _ _ _ _ _ => rfl⟩⟩)
                    have HF2 := Lib.hid (show Frs P _ _ ⟨ow, lw, cw⟩ outw (xs.map (·.d)) wr.drew from ⟨hFw.rd.same (w' := wr.drew) (Nat.le_refl _) fun _ _ _ _ _ => rfl, hFw.len, fun j a b => by obtain ⟨x, y, hz⟩ := hFw.at_ j a b; exact ⟨x, y, hz.same (w' := wr.drew) (Nat.le_refl _) fun _ _ _ _ _ => rfl⟩⟩)
                    have HDg : Hid (Deep P q1 q2 d g wr.drew) := Lib.hid (hdg.same (w' := wr.drew) (Nat.le_refl _) fun _ _ _ _ _ => rfl)
                    clear hS hFn hFw hdg hg6 hput hout hnone heq
                    have HG := Lib.hid hg
                    clear hg
                    go_upto_region 29 with fail
                    refine wp_region_any (by as_aux_lemma => kernel_rfl) ?_
                    try (change wpAny _ _ _ _ _ _ _ (World.drew _))
                    refine wpAny_take (i := 1) (v := ?_) rfl (by as_aux_lemma => kernel_rfl) (by as_aux_lemma => kernel_rfl) (by as_aux_lemma => kernel_rfl) (fun _ _ _ h => h) (Or.inl ⟨by as_aux_lemma => kernel_rfl, ?_⟩) ?_
                    rotate_left
                    · (intro w; go_simp) <;> with_reducible rfl
                    refine wpAny_take (i := 2) (v := ?_) rfl (by as_aux_lemma => kernel_rfl) (by as_aux_lemma => kernel_rfl) (by as_aux_lemma => kernel_rfl) (fun _ _ _ h => h) (Or.inl ⟨by as_aux_lemma => kernel_rfl, ?_⟩) ?_
                    rotate_left
                    · (intro w; go_simp) <;> with_reducible rfl
                    refine wpAny_take (i := 3) (v := ?_) rfl (by as_aux_lemma => kernel_rfl) (by as_aux_lemma => kernel_rfl) (by as_aux_lemma => kernel_rfl) (fun _ _ _ h => h) (Or.inl ⟨by as_aux_lemma => kernel_rfl, ?_⟩) ?_
                    rotate_left
                    · (intro w; go_simp) <;> with_reducible rfl
                    refine wpAny_take (i := 4) (v := ?_) rfl (by as_aux_lemma => kernel_rfl) (by as_aux_lemma => kernel_rfl) (by as_aux_lemma => kernel_rfl) (fun _ _ _ h => h) (Or.inl ⟨by as_aux_lemma => kernel_rfl, ?_⟩) ?_
                    rotate_left
                    · (intro w; go_simp) <;> with_reducible rfl
                    refine wpAny_of_till (S := fun x => x.cell? ⟨w6.heap.size, 0, none⟩ = some (.int .u8 g.kind) ∧ x.cell? ⟨w6.heap.size, 1, none⟩ = some (.int .i64 g.fa) ∧ x.cell? ⟨w6.heap.size, 2, none⟩ = some (.int .i64 g.fi) ∧ x.cell? ⟨w6.heap.size, 3, none⟩ = some (.int .i64 g.ta) ∧ x.cell? ⟨w6.heap.size, 4, none⟩ = some (.int .i64 g.ti) ∧ x.cell? ⟨w6.heap.size, 5, none⟩ = some (.int .i64 g.n) ∧ x.cell? ⟨w6.heap.size, 6, none⟩ = some (.int .i64 g.token) ∧ x.cell? ⟨w6.heap.size, 7, none⟩ = some (.int .i64 g.ba) ∧ x.cell? ⟨w6.heap.size, 8, none⟩ = some (.int .i64 g.bi) ∧ x.cell? ⟨w6.heap.size, 9, none⟩ = some (.slice g.ms.a g.ms.n g.ms.c) ∧ x.cell? ⟨w6.heap.size, 10, none⟩ = some (.slice g.fs.a g.fs.n g.fs.c) ∧ x.cell? ⟨w6.heap.size, 11, none⟩ = some (.slice g.rs.a g.rs.n g.rs.c) ∧ x.cell? ⟨w6.heap.size, 12, none⟩ = some (.slice g.cs.a g.cs.n g.cs.c) ∧ x.cell? ⟨w6.heap.size, 13, none⟩ = some (.slice g.ss.a g.ss.n g.ss.c) ∧ x.cell? ⟨b, o + k * 15 + 1, none⟩ = some (.int .u8 f.kind) ∧ x.cell? ⟨b, o + k * 15 + 2, none⟩ = some (.int .i64 f.fa) ∧ x.cell? ⟨b, o + k * 15 + 3, none⟩ = some (.int .i64 f.fi) ∧ x.cell? ⟨b, o + k * 15 + 4, none⟩ = some (.int .i64 f.ta) ∧ x.cell? ⟨b, o + k * 15 + 5, none⟩ = some (.int .i64 f.ti) ∧ x.cell? ⟨b, o + k * 15 + 6, none⟩ = some (.int .i64 f.n) ∧ x.cell? ⟨b, o + k * 15 + 7, none⟩ = some (.int .i64 f.token) ∧ x.cell? ⟨b, o + k * 15 + 8, none⟩ = some (.int .i64 f.ba) ∧ x.cell? ⟨b, o + k * 15 + 9, none⟩ = some (.int .i64 f.bi) ∧ x.cell? ⟨b, o + k * 15 + 10, none⟩ = some (.slice f.ms.a f.ms.n f.ms.c) ∧ x.cell? ⟨b, o + k * 15 + 11, none⟩ = some (.slice f.fs.a f.fs.n f.fs.c) ∧ x.cell? ⟨b, o + k * 15 + 12, none⟩ = some (.slice f.rs.a f.rs.n f.rs.c) ∧ x.cell? ⟨b, o + k * 15 + 13, none⟩ = some (.slice f.cs.a f.cs.n f.cs.c) ∧ x.cell? ⟨b, o + k * 15 + 14, none⟩ = some (.slice f.ss.a f.ss.n f.ss.c)) (k := 6) _ _ _ _ ?_
                    have hS : (fun x : World => x.cell? ⟨w6.heap.size, 0, none⟩ = some (.int .u8 g.kind) ∧ x.cell? ⟨w6.heap.size, 1, none⟩ = some (.int .i64 g.fa) ∧ x.cell? ⟨w6.heap.size, 2, none⟩ = some (.int .i64 g.fi) ∧ x.cell? ⟨w6.heap.size, 3, none⟩ = some (.int .i64 g.ta) ∧ x.cell? ⟨w6.heap.size, 4, none⟩ = some (.int .i64 g.ti) ∧ x.cell? ⟨w6.heap.size, 5, none⟩ = some (.int .i64 g.n) ∧ x.cell? ⟨w6.heap.size, 6, none⟩ = some (.int .i64 g.token) ∧ x.cell? ⟨w6.heap.size, 7, none⟩ = some (.int .i64 g.ba) ∧ x.cell? ⟨w6.heap.size, 8, none⟩ = some (.int .i64 g.bi) ∧ x.cell? ⟨w6.heap.size, 9, none⟩ = some (.slice g.ms.a g.ms.n g.ms.c) ∧ x.cell? ⟨w6.heap.size, 10, none⟩ = some (.slice g.fs.a g.fs.n g.fs.c) ∧ x.cell? ⟨w6.heap.size, 11, none⟩ = some (.slice g.rs.a g.rs.n g.rs.c) ∧ x.cell? ⟨w6.heap.size, 12, none⟩ = some (.slice g.cs.a g.cs.n g.cs.c) ∧ x.cell? ⟨w6.heap.size, 13, none⟩ = some (.slice g.ss.a g.ss.n g.ss.c) ∧ x.cell? ⟨b, o + k * 15 + 1, none⟩ = some (.int .u8 f.kind) ∧ x.cell? ⟨b, o + k * 15 + 2, none⟩ = some (.int .i64 f.fa) ∧ x.cell? ⟨b, o + k * 15 + 3, none⟩ = some (.int .i64 f.fi) ∧ x.cell? ⟨b, o + k * 15 + 4, none⟩ = some (.int .i64 f.ta) ∧ x.cell? ⟨b, o + k * 15 + 5, none⟩ = some (.int .i64 f.ti) ∧ x.cell? ⟨b, o + k * 15 + 6, none⟩ = some (.int .i64 f.n) ∧ x.cell? ⟨b, o + k * 15 + 7, none⟩ = some (.int .i64 f.token) ∧ x.cell? ⟨b, o + k * 15 + 8, none⟩ = some (.int .i64 f.ba) ∧ x.cell? ⟨b, o + k * 15 + 9, none⟩ = some (.int .i64 f.bi) ∧ x.cell? ⟨b, o + k * 15 + 10, none⟩ = some (.slice f.ms.a f.ms.n f.ms.c) ∧ x.cell? ⟨b, o + k * 15 + 11, none⟩ = some (.slice f.fs.a f.fs.n f.fs.c) ∧ x.cell? ⟨b, o + k * 15 + 12, none⟩ = some (.slice f.rs.a f.rs.n f.rs.c) ∧ x.cell? ⟨b, o + k * 15 + 13, none⟩ = some (.slice f.cs.a f.cs.n f.cs.c) ∧ x.cell? ⟨b, o + k * 15 + 14, none⟩ = some (.slice f.ss.a f.ss.n f.ss.c)) _ := ⟨y0, y1, y2, y3, y4, y5, y6, y7, y8, y9, y10, y11, y12, y13, x1, x2, x3, x4, x5, x6, x7, x8, x9, x10, x11, x12, x13, x14⟩
                    refine wpTill_take (i := 0) (v := (.agg #[.int .u8 g.kind, .int .i64 g.fa, .int .i64 g.fi, .int .i64 g.ta, .int .i64 g.ti, .int .i64 g.n, .int .i64 g.token, .int .i64 g.ba, .int .i64 g.bi, .slice g.ms.a g.ms.n g.ms.c, .slice g.fs.a g.fs.n g.fs.c, .slice g.rs.a g.rs.n g.rs.c, .slice g.cs.a g.cs.n g.cs.c, .slice g.ss.a g.ss.n g.ss.c])) rfl (by as_aux_lemma => kernel_rfl) (by as_aux_lemma => kernel_rfl) (by as_aux_lemma => kernel_rfl) (by as_aux_lemma => kernel_rfl) (fun _ _ _ h => h) (Or.inl ⟨by as_aux_lemma => kernel_rfl, ?_⟩) hS ?_
                    · intro w hSw; (try dsimp only at hSw); (try obtain ⟨x0, x1, x2, x3, x4, x5, x6, x7, x8, x9, x10, x11, x12, x13, x14, x15, x16, x17, x18, x19, x20, x21, x22, x23, x24, x25, x26, x27⟩ := hSw); go_simp
                    try simp only [Act.put, List.setIfInBounds_toArray, List.set_cons_zero, List.set_cons_succ]
                    refine wpTill_take (i := 5) (v := (.agg #[.int .u8 f.kind, .int .i64 f.fa, .int .i64 f.fi, .int .i64 f.ta, .int .i64 f.ti, .int .i64 f.n, .int .i64 f.token, .int .i64 f.ba, .int .i64 f.bi, .slice f.ms.a f.ms.n f.ms.c, .slice f.fs.a f.fs.n f.fs.c, .slice f.rs.a f.rs.n f.rs.c, .slice f.cs.a f.cs.n f.cs.c, .slice f.ss.a f.ss.n f.ss.c])) rfl (by as_aux_lemma => kernel_rfl) (by as_aux_lemma => kernel_rfl) (by as_aux_lemma => kernel_rfl) (by as_aux_lemma => kernel_rfl) (fun _ _ _ h => h) (Or.inl ⟨by as_aux_lemma => kernel_rfl, ?_⟩) hS ?_
                    · intro w hSw; (try dsimp only at hSw); (try obtain ⟨x0, x1, x2, x3, x4, x5, x6, x7, x8, x9, x10, x11, x12, x13, x14, x15, x16, x17, x18, x19, x20, x21, x22, x23, x24, x25, x26, x27⟩ := hSw); go_simp
                    try simp only [Act.put, List.setIfInBounds_toArray, List.set_cons_zero, List.set_cons_succ]
                    refine wpTill_end (by as_aux_lemma => kernel_rfl) rfl (fun K hK => ?_)
                    go_simp
                    clear hS
                    refine (same_deep d g f wr.drew HDg.out HDi0.out).mono ?_
                    rintro e w8 ⟨rfl, hb8⟩
                    go_wp2_with fail
                    refine hK.out _ _ ?_; clear hK K
                    refine wpAny_take (i := 7) (v := ?_) rfl (by as_aux_lemma => kernel_rfl) (by as_aux_lemma => kernel_rfl) (by as_aux_lemma => kernel_rfl) (fun _ _ _ h => h) (Or.inl ⟨by as_aux_lemma => kernel_rfl, ?_⟩) ?_
                    rotate_left
                    · (intro w; go_simp) <;> with_reducible rfl
                    refine wpAny_take (i := 8) (v := ?_) rfl (by as_aux_lemma => kernel_rfl) (by as_aux_lemma => kernel_rfl) (by as_aux_lemma => kernel_rfl) (fun _ _ _ h => h) (Or.inl ⟨by as_aux_lemma => kernel_rfl, ?_⟩) ?_
                    rotate_left
                    · (intro w; go_simp) <;> with_reducible rfl
                    refine wpAny_take (i := 9) (v := ?_) rfl (by as_aux_lemma => kernel_rfl) (by as_aux_lemma => kernel_rfl) (by as_aux_lemma => kernel_rfl) (fun _ _ _ h => h) (Or.inl ⟨by as_aux_lemma => kernel_rfl, ?_⟩) ?_
                    rotate_left
                    · (intro w; go_simp) <;> with_reducible rfl
                    refine wpAny_take (i := 10) (v := ?_) rfl (by as_aux_lemma => kernel_rfl) (by as_aux_lemma => kernel_rfl) (by as_aux_lemma => kernel_rfl) (fun _ _ _ h => h) (Or.inl ⟨by as_aux_lemma => kernel_rfl, ?_⟩) ?_
                    rotate_left
                    · (intro w; go_simp) <;> with_reducible rfl
                    refine wpAny_one (i := 11) (by as_aux_lemma => kernel_rfl) rfl (fun K hK => ?_)
                    go_simp
                    refine (frames_same ⟨on, ln, cn⟩ ⟨ow, lw, cw⟩ outn outw (xs.map (·.d)) w8 (HF1.out.below hb8) (HF2.out.below hb8) hl5).mono ?_
                    rintro e w9 ⟨rfl, hb9⟩
                    go_wp2_with fail
                    refine hK.out _ _ ?_; clear hK K
                    refine wpAny_one (i := 12) (by as_aux_lemma => kernel_rfl) rfl (fun K hK => ?_)
                    go_simp
                    refine hK.out _ _ ?_; clear hK K
                    refine wpAny_one (i := 13) (by as_aux_lemma => kernel_rfl) rfl (fun K hK => ?_)
                    go_simp
                    refine hK.out _ _ ?_; clear hK K
                    refine wpAny_done (by as_aux_lemma => kernel_rfl) ?_ _
                    go_simp
                    have hbu := undrew hb8
                    have hfin := HO.out.kept (HB.out.trans ((hbu.trans (hb9.mono hbu.size)).mono HB.out.size))
                    clear x0 x1 x2 x3 x4 x5 x6 x7 x8 x9 x10 x11 x12 x13 x14 y0 y1 y2 y3 y4 y5 y6 y7 y8 y9 y10 y11 y12 y13
                    go_wp2_with fail
                    go_roundw
                    case rel => exact ⟨k + 1, v2, n2, xs2, by omega, by go_num, hfin, by rw [HD.out.2.2, HM.out]⟩
                    case measure => simp only [intOf]; omega
                  · skip
                    obtain ⟨p, hp, rfl, hsome⟩ := hfind
                    obtain ⟨hput, hout⟩ := putT_some most _ d heq hp hsome
                    have hlD : (xs.map (·.d)).length = lw := by have := hlw.out; simp [this]
                    have hplw : p < lw := by omega
                    have hS := HS7.out.below HB.out
                    have hO := HO.out.kept HB.out
                    have hl5 : (xs.map (·.d)).length ≤ 100000 := by have h1 := HLN.out; simp only [List.length_map]; omega
                    have hc6 := HI.out.at_ hO.below
                    have x0 : wr.cell? ⟨b, o + k * 15, none⟩ = some (.int .u8 0) := hc6 0 (by decide)
                    have x1 : wr.cell? ⟨b, o + k * 15 + 1, none⟩ = some (.int .u8 f.kind) := by have := hc6 1 (by decide); rwa [← Nat.add_assoc] at this
                    have x2 : wr.cell? ⟨b, o + k * 15 + 2, none⟩ = some (.int .i64 f.fa) := by have := hc6 2 (by decide); rwa [← Nat.add_assoc] at this
                    have x3 : wr.cell? ⟨b, o + k * 15 + 3, none⟩ = some (.int .i64 f.fi) := by have := hc6 3 (by decide); rwa [← Nat.add_assoc] at this
                    have x4 : wr.cell? ⟨b, o + k * 15 + 4, none⟩ = some (.int .i64 f.ta) := by have := hc6 4 (by decide); rwa [← Nat.add_assoc] at this
                    have x5 : wr.cell? ⟨b, o + k * 15 + 5, none⟩ = some (.int .i64 f.ti) := by have := hc6 5 (by decide); rwa [← Nat.add_assoc] at this
                    have x6 : wr.cell? ⟨b, o + k * 15 + 6, none⟩ = some (.int .i64 f.n) := by have := hc6 6 (by decide); rwa [← Nat.add_assoc] at this
                    have x7 : wr.cell? ⟨b, o + k * 15 + 7, none⟩ = some (.int .i64 f.token) := by have := hc6 7 (by decide); rwa [← Nat.add_assoc] at this
                    have x8 : wr.cell? ⟨b, o + k * 15 + 8, none⟩ = some (.int .i64 f.ba) := by have := hc6 8 (by decide); rwa [← Nat.add_assoc] at this
                    have x9 : wr.cell? ⟨b, o + k * 15 + 9, none⟩ = some (.int .i64 f.bi) := by have := hc6 9 (by decide); rwa [← Nat.add_assoc] at this
                    have x10 : wr.cell? ⟨b, o + k * 15 + 10, none⟩ = some (.slice f.ms.a f.ms.n f.ms.c) := by have := hc6 10 (by decide); rwa [← Nat.add_assoc] at this
                    have x11 : wr.cell? ⟨b, o + k * 15 + 11, none⟩ = some (.slice f.fs.a f.fs.n f.fs.c) := by have := hc6 11 (by decide); rwa [← Nat.add_assoc] at this
                    have x12 : wr.cell? ⟨b, o + k * 15 + 12, none⟩ = some (.slice f.rs.a f.rs.n f.rs.c) := by have := hc6 12 (by decide); rwa [← Nat.add_assoc] at this
                    have x13 : wr.cell? ⟨b, o + k * 15 + 13, none⟩ = some (.slice f.cs.a f.cs.n f.cs.c) := by have := hc6 13 (by decide); rwa [← Nat.add_assoc] at this
                    have x14 : wr.cell? ⟨b, o + k * 15 + 14, none⟩ = some (.slice f.ss.a f.ss.n f.ss.c) := by have := hc6 14 (by decide); rwa [← Nat.add_assoc] at this
                    have hlt1 : b < wr.drew.heap.size := Nat.lt_of_lt_of_le HI.out.1 hO.size
                    have HDi0 : Hid (Deep P 0 P d f wr.drew) := Lib.hid ((HDp.out wr hO.below).same (w' := wr.drew) (Nat.le_refl _) fun _ _ _ _ _ => rfl)
                    clear hc6 hO
                    have HPUT := Lib.hid (And.intro hput hout)
                    have hS := HS7.out.below HB.out
                    have hFw := hS.was.frs2
                    rw [HD.out.1] at hFw
                    have hpo : p < outw.length := by rw [hFw.len]; exact hp
                    obtain ⟨b1, o1, e1, -, -, hlt2, -, -⟩ := hFw.rd.cell (j := p) hpo
                    simp only at e1
                    subst e1
                    have hcap : lw ≤ cw := hFw.rd.le
                    have hcap2 : cw ≤ 9223372036854775807 := hFw.rd.c
                    have h0i : (0 : Int) ≤ (p : Int) + 1 := by omega
                    have hjc : p + 1 ≤ cw := by omega
                    have hjn : p + 1 ≤ lw := by omega
                    have hpc : p ≤ cw := by omega
                    have hi1 : (p : Int) + 1 ≤ lw := by omega
                    have hwp : IntKind.i64.wrap ((p : Int) + 1) = (p : Int) + 1 := IntWalk.i64_in _ (by omega)
                    have HS8 := Lib.hid hS
                    have HFd := Lib.hid (show Frs P _ _ ⟨some ⟨b1, o1, none⟩, lw, cw⟩ outw (xs.map (·.d)) wr.drew from ⟨hFw.rd.same (w' := wr.drew) (Nat.le_refl _) fun _ _ _ _ _ => rfl, hFw.len, fun j a b => by obtain ⟨x, y, hz⟩ := hFw.at_ j a b; exact ⟨x, y, hz.same (w' := wr.drew) (Nat.le_refl _) fun _ _ _ _ _ => rfl⟩⟩)
                    obtain ⟨A, hA⟩ : ∃ A, A = (if cw = p + 1 then some (⟨b1, o1, none⟩ : Addr) else some ⟨b1, o1 + (p + 1) * 14, none⟩) := ⟨_, rfl⟩
                    have HR1 := Lib.hid (HFd.out.rd.take p (by omega) (by simp))
                    have HR2 := HFd.out.rd.drop (p + 1) (by omega)
                    have HR2 : Hid (Rd elF P _ _ ⟨A, lw - (p + 1), cw - (p + 1)⟩ (outw.drop (p + 1)) wr.drew) := Lib.hid (by rw [hA]; exact HR2)
                    have HA := Lib.hid hA
                    have hol : outw.length ≤ 4096 := by have h1 := HLN.out; have h2 := hFw.len; simp only [List.length_map] at h2; omega
                    have HE2 : Hid (∀ (w : World) (r : Value), w.ownsRow wr.drew.heap.size 38 14 r (0 + (outw.take p).length + (outw.drop (p + 1)).length + [f].length) ([] ++ elF.rows (outw.take p) ++ elF.rows (outw.drop (p + 1)) ++ elF.rows [f]) → w.ownsRow wr.drew.heap.size 38 14 r (outw.eraseIdx p ++ [f]).length (elF.rows (outw.eraseIdx p ++ [f]))) := Lib.hid (fun w r h => by
                      have e1 : (outw.eraseIdx p ++ [f]).length = 0 + (outw.take p).length + (outw.drop (p + 1)).length + [f].length := by simp [List.eraseIdx_eq_take_drop_succ]; omega
                      have e2 : elF.rows (outw.eraseIdx p ++ [f]) = [] ++ elF.rows (outw.take p) ++ elF.rows (outw.drop (p + 1)) ++ elF.rows [f] := by simp [List.eraseIdx_eq_take_drop_succ, El.rows_append]
                      rw [e1, e2]; exact h)
                    obtain ⟨i0, hi0, hz0, hz1, hz2⟩ := info_parts info38
                    have HFw := Lib.hid hFw
                    clear hA
                    clear hS hFw hput hout hsome heq
                    go_upto_region 20 with fail
                    go_cut [15] (fun vq wx => ∃ (aq : Option Addr) (nq cq : Nat) (lq : List Fr) (lo hi : Nat), vq = .slice aq nq cq ∧ Below wr.heap.size wr wx ∧ Hid (Frs P lo hi ⟨aq, nq, cq⟩ lq (putT most (xs.map (·.d)) d) wx))
                    case first =>
                      refine wp_region_any (by as_aux_lemma => kernel_rfl) ?_
                      try (change wpAny _ _ _ _ _ _ _ (World.drew _))
                      refine wpAny_take (i := 1) (v := ?_) rfl (by as_aux_lemma => kernel_rfl) (by as_aux_lemma => kernel_rfl) (by as_aux_lemma => kernel_rfl) (fun _ _ _ h => h) (Or.inl ⟨by as_aux_lemma => kernel_rfl, ?_⟩) ?_
                      rotate_left
                      · (intro w; go_simp) <;> with_reducible rfl
                      refine wpAny_take (i := 2) (v := ?_) rfl (by as_aux_lemma => kernel_rfl) (by as_aux_lemma => kernel_rfl) (by as_aux_lemma => kernel_rfl) (fun _ _ _ h => h) (Or.inl ⟨by as_aux_lemma => kernel_rfl, ?_⟩) ?_
                      rotate_left
                      · (intro w; go_simp) <;> with_reducible rfl
                      refine wpAny_take (i := 3) (v := ?_) rfl (by as_aux_lemma => kernel_rfl) (by as_aux_lemma => kernel_rfl) (by as_aux_lemma => kernel_rfl) (fun _ _ _ h => h) (Or.inl ⟨by as_aux_lemma => kernel_rfl, ?_⟩) ?_
                      rotate_left
                      · (intro w; go_simp) <;> with_reducible rfl
                      refine wpAny_take (i := 5) (v := ?_) rfl (by as_aux_lemma => kernel_rfl) (by as_aux_lemma => kernel_rfl) (by as_aux_lemma => kernel_rfl) (fun _ _ _ h => h) (Or.inl ⟨by as_aux_lemma => kernel_rfl, ?_⟩) ?_
                      rotate_left
                      · (intro w; go_simp) <;> with_reducible rfl
                      refine wpAny_take (i := 6) (v := ?_) rfl (by as_aux_lemma => kernel_rfl) (by as_aux_lemma => kernel_rfl) (by as_aux_lemma => kernel_rfl) (fun _ _ _ h => h) (Or.inl ⟨by as_aux_lemma => kernel_rfl, ?_⟩) ?_
                      rotate_left
                      · (intro w; go_simp) <;> with_reducible rfl
                      refine wpAny_take (i := 7) (v := ?_) rfl (by as_aux_lemma => kernel_rfl) (by as_aux_lemma => kernel_rfl) (by as_aux_lemma => kernel_rfl) (fun _ _ _ h => h) (Or.inl ⟨by as_aux_lemma => kernel_rfl, ?_⟩) ?_
                      rotate_left
                      · (intro w; go_simp) <;> with_reducible rfl
                      refine wpAny_take (i := 8) (v := .slice A (lw - (p + 1)) (cw - (p + 1))) rfl (by as_aux_lemma => kernel_rfl) (by as_aux_lemma => kernel_rfl) (by as_aux_lemma => kernel_rfl) (fun _ _ _ h => h) (Or.inl ⟨by as_aux_lemma => kernel_rfl, ?_⟩) ?_
                      · intro w; rw [HA.out]; go_simp
                      refine wpAny_take (i := 10) (v := ?_) rfl (by as_aux_lemma => kernel_rfl) (by as_aux_lemma => kernel_rfl) (by as_aux_lemma => kernel_rfl) (fun _ _ _ h => h) (Or.inl ⟨by as_aux_lemma => kernel_rfl, ?_⟩) ?_
                      rotate_left
                      · (intro w; go_simp) <;> with_reducible rfl
                      refine wpAny_take (i := 11) (v := ?_) rfl (by as_aux_lemma => kernel_rfl) (by as_aux_lemma => kernel_rfl) (by as_aux_lemma => kernel_rfl) (fun _ _ _ h => h) (Or.inl ⟨by as_aux_lemma => kernel_rfl, ?_⟩) ?_
                      rotate_left
                      · (intro w; go_simp) <;> with_reducible rfl
                      refine wpAny_take (i := 12) (v := ?_) rfl (by as_aux_lemma => kernel_rfl) (by as_aux_lemma => kernel_rfl) (by as_aux_lemma => kernel_rfl) (fun _ _ _ h => h) (Or.inl ⟨by as_aux_lemma => kernel_rfl, ?_⟩) ?_
                      rotate_left
                      · (intro w; go_simp) <;> with_reducible rfl
                      refine wpAny_take (i := 13) (v := ?_) rfl (by as_aux_lemma => kernel_rfl) (by as_aux_lemma => kernel_rfl) (by as_aux_lemma => kernel_rfl) (fun _ _ _ h => h) (Or.inl ⟨by as_aux_lemma => kernel_rfl, ?_⟩) ?_
                      rotate_left
                      · (intro w; go_simp) <;> with_reducible rfl
                      refine wpAny_of_till (S := fun x => x.cell? ⟨b, o + k * 15 + 1, none⟩ = some (.int .u8 f.kind) ∧ x.cell? ⟨b, o + k * 15 + 2, none⟩ = some (.int .i64 f.fa) ∧ x.cell? ⟨b, o + k * 15 + 3, none⟩ = some (.int .i64 f.fi) ∧ x.cell? ⟨b, o + k * 15 + 4, none⟩ = some (.int .i64 f.ta) ∧ x.cell? ⟨b, o + k * 15 + 5, none⟩ = some (.int .i64 f.ti) ∧ x.cell? ⟨b, o + k * 15 + 6, none⟩ = some (.int .i64 f.n) ∧ x.cell? ⟨b, o + k * 15 + 7, none⟩ = some (.int .i64 f.token) ∧ x.cell? ⟨b, o + k * 15 + 8, none⟩ = some (.int .i64 f.ba) ∧ x.cell? ⟨b, o + k * 15 + 9, none⟩ = some (.int .i64 f.bi) ∧ x.cell? ⟨b, o + k * 15 + 10, none⟩ = some (.slice f.ms.a f.ms.n f.ms.c) ∧ x.cell? ⟨b, o + k * 15 + 11, none⟩ = some (.slice f.fs.a f.fs.n f.fs.c) ∧ x.cell? ⟨b, o + k * 15 + 12, none⟩ = some (.slice f.rs.a f.rs.n f.rs.c) ∧ x.cell? ⟨b, o + k * 15 + 13, none⟩ = some (.slice f.cs.a f.cs.n f.cs.c) ∧ x.cell? ⟨b, o + k * 15 + 14, none⟩ = some (.slice f.ss.a f.ss.n f.ss.c)) (k := 15) _ _ _ _ ?_
                      have hS : (fun x : World => x.cell? ⟨b, o + k * 15 + 1, none⟩ = some (.int .u8 f.kind) ∧ x.cell? ⟨b, o + k * 15 + 2, none⟩ = some (.int .i64 f.fa) ∧ x.cell? ⟨b, o + k * 15 + 3, none⟩ = some (.int .i64 f.fi) ∧ x.cell? ⟨b, o + k * 15 + 4, none⟩ = some (.int .i64 f.ta) ∧ x.cell? ⟨b, o + k * 15 + 5, none⟩ = some (.int .i64 f.ti) ∧ x.cell? ⟨b, o + k * 15 + 6, none⟩ = some (.int .i64 f.n) ∧ x.cell? ⟨b, o + k * 15 + 7, none⟩ = some (.int .i64 f.token) ∧ x.cell? ⟨b, o + k * 15 + 8, none⟩ = some (.int .i64 f.ba) ∧ x.cell? ⟨b, o + k * 15 + 9, none⟩ = some (.int .i64 f.bi) ∧ x.cell? ⟨b, o + k * 15 + 10, none⟩ = some (.slice f.ms.a f.ms.n f.ms.c) ∧ x.cell? ⟨b, o + k * 15 + 11, none⟩ = some (.slice f.fs.a f.fs.n f.fs.c) ∧ x.cell? ⟨b, o + k * 15 + 12, none⟩ = some (.slice f.rs.a f.rs.n f.rs.c) ∧ x.cell? ⟨b, o + k * 15 + 13, none⟩ = some (.slice f.cs.a f.cs.n f.cs.c) ∧ x.cell? ⟨b, o + k * 15 + 14, none⟩ = some (.slice f.ss.a f.ss.n f.ss.c)) _ := ⟨x1, x2, x3, x4, x5, x6, x7, x8, x9, x10, x11, x12, x13, x14⟩
                      refine wpTill_take (i := 14) (v := (.agg #[.int .u8 f.kind, .int .i64 f.fa, .int .i64 f.fi, .int .i64 f.ta, .int .i64 f.ti, .int .i64 f.n, .int .i64 f.token, .int .i64 f.ba, .int .i64 f.bi, .slice f.ms.a f.ms.n f.ms.c, .slice f.fs.a f.fs.n f.fs.c, .slice f.rs.a f.rs.n f.rs.c, .slice f.cs.a f.cs.n f.cs.c, .slice f.ss.a f.ss.n f.ss.c])) rfl (by as_aux_lemma => kernel_rfl) (by as_aux_lemma => kernel_rfl) (by as_aux_lemma => kernel_rfl) (by as_aux_lemma => kernel_rfl) (fun _ _ _ h => h) (Or.inl ⟨by as_aux_lemma => kernel_rfl, ?_⟩) hS ?_
                      · intro w hSw; (try dsimp only at hSw); (try obtain ⟨x0, x1, x2, x3, x4, x5, x6, x7, x8, x9, x10, x11, x12, x13⟩ := hSw); go_simp
                      try simp only [Act.put, List.setIfInBounds_toArray, List.set_cons_zero, List.set_cons_succ]
                      clear hS
                      have hb : Below wr.drew.heap.size wr.drew wr.drew := Below.refl _ _
                      refine wpTill_fork (i := 0) (by as_aux_lemma => kernel_rfl) rfl rfl (by as_aux_lemma => kernel_rfl) (fun K hK => ?_) (fun K hK => ?_)
                      · go_simp
                        have hrow := World.ownsRow_made (base := wr.drew.heap.size) (e := 38) (size := 14) (wr.drew) #[] 0 hb.size (by decide) rfl
                        have hb := hb.alloc hb.size (.cells #[] 38)
                        have hS : (fun x : World => x.cell? ⟨b, o + k * 15 + 1, none⟩ = some (.int .u8 f.kind) ∧ x.cell? ⟨b, o + k * 15 + 2, none⟩ = some (.int .i64 f.fa) ∧ x.cell? ⟨b, o + k * 15 + 3, none⟩ = some (.int .i64 f.fi) ∧ x.cell? ⟨b, o + k * 15 + 4, none⟩ = some (.int .i64 f.ta) ∧ x.cell? ⟨b, o + k * 15 + 5, none⟩ = some (.int .i64 f.ti) ∧ x.cell? ⟨b, o + k * 15 + 6, none⟩ = some (.int .i64 f.n) ∧ x.cell? ⟨b, o + k * 15 + 7, none⟩ = some (.int .i64 f.token) ∧ x.cell? ⟨b, o + k * 15 + 8, none⟩ = some (.int .i64 f.ba) ∧ x.cell? ⟨b, o + k * 15 + 9, none⟩ = some (.int .i64 f.bi) ∧ x.cell? ⟨b, o + k * 15 + 10, none⟩ = some (.slice f.ms.a f.ms.n f.ms.c) ∧ x.cell? ⟨b, o + k * 15 + 11, none⟩ = some (.slice f.fs.a f.fs.n f.fs.c) ∧ x.cell? ⟨b, o + k * 15 + 12, none⟩ = some (.slice f.rs.a f.rs.n f.rs.c) ∧ x.cell? ⟨b, o + k * 15 + 13, none⟩ = some (.slice f.cs.a f.cs.n f.cs.c) ∧ x.cell? ⟨b, o + k * 15 + 14, none⟩ = some (.slice f.ss.a f.ss.n f.ss.c)) ((wr.drew).alloc (.cells #[] 38)) := ⟨(hb.cell (p := ⟨b, o + k * 15 + 1, none⟩) hlt1).trans x1, (hb.cell (p := ⟨b, o + k * 15 + 2, none⟩) hlt1).trans x2, (hb.cell (p := ⟨b, o + k * 15 + 3, none⟩) hlt1).trans x3, (hb.cell (p := ⟨b, o + k * 15 + 4, none⟩) hlt1).trans x4, (hb.cell (p := ⟨b, o + k * 15 + 5, none⟩) hlt1).trans x5, (hb.cell (p := ⟨b, o + k * 15 + 6, none⟩) hlt1).trans x6, (hb.cell (p := ⟨b, o + k * 15 + 7, none⟩) hlt1).trans x7, (hb.cell (p := ⟨b, o + k * 15 + 8, none⟩) hlt1).trans x8, (hb.cell (p := ⟨b, o + k * 15 + 9, none⟩) hlt1).trans x9, (hb.cell (p := ⟨b, o + k * 15 + 10, none⟩) hlt1).trans x10, (hb.cell (p := ⟨b, o + k * 15 + 11, none⟩) hlt1).trans x11, (hb.cell (p := ⟨b, o + k * 15 + 12, none⟩) hlt1).trans x12, (hb.cell (p := ⟨b, o + k * 15 + 13, none⟩) hlt1).trans x13, (hb.cell (p := ⟨b, o + k * 15 + 14, none⟩) hlt1).trans x14⟩
                        refine hK.out _ _ hS ?_; clear hK K
                        try simp only [Act.put, List.setIfInBounds_toArray, List.set_cons_zero, List.set_cons_succ]
                        skip
                        refine wpTill_fork (i := 4) (by as_aux_lemma => kernel_rfl) rfl rfl (by as_aux_lemma => kernel_rfl) (fun K hK => ?_) (fun K hK => ?_)
                        · obtain ⟨r1, wv1, hrun1, hown1, hg1, hat1, -⟩ := app_run (HR1.out.below hb) i0 _ 45 38 14 rfl rfl hrow Try.underlying45 hi0 hz0 hz1 rfl (by rw [hz2]; decide) (by simp; omega) hb.size 45
                          refine step_append_run rfl (.tmp 72) (.tmp 75) 45 rfl hrun1 ?_
                          try go_simp
                          have hb := Below.grow hb hg1 (fun q hq => (World.ownsRow.lt hrow q hq).1) hb.size
                          have hrow := hown1
                          clear hrun1 hown1 hg1 hat1
                          have hS : (fun x : World => x.cell? ⟨b, o + k * 15 + 1, none⟩ = some (.int .u8 f.kind) ∧ x.cell? ⟨b, o + k * 15 + 2, none⟩ = some (.int .i64 f.fa) ∧ x.cell? ⟨b, o + k * 15 + 3, none⟩ = some (.int .i64 f.fi) ∧ x.cell? ⟨b, o + k * 15 + 4, none⟩ = some (.int .i64 f.ta) ∧ x.cell? ⟨b, o + k * 15 + 5, none⟩ = some (.int .i64 f.ti) ∧ x.cell? ⟨b, o + k * 15 + 6, none⟩ = some (.int .i64 f.n) ∧ x.cell? ⟨b, o + k * 15 + 7, none⟩ = some (.int .i64 f.token) ∧ x.cell? ⟨b, o + k * 15 + 8, none⟩ = some (.int .i64 f.ba) ∧ x.cell? ⟨b, o + k * 15 + 9, none⟩ = some (.int .i64 f.bi) ∧ x.cell? ⟨b, o + k * 15 + 10, none⟩ = some (.slice f.ms.a f.ms.n f.ms.c) ∧ x.cell? ⟨b, o + k * 15 + 11, none⟩ = some (.slice f.fs.a f.fs.n f.fs.c) ∧ x.cell? ⟨b, o + k * 15 + 12, none⟩ = some (.slice f.rs.a f.rs.n f.rs.c) ∧ x.cell? ⟨b, o + k * 15 + 13, none⟩ = some (.slice f.cs.a f.cs.n f.cs.c) ∧ x.cell? ⟨b, o + k * 15 + 14, none⟩ = some (.slice f.ss.a f.ss.n f.ss.c)) (wv1) := ⟨(hb.cell (p := ⟨b, o + k * 15 + 1, none⟩) hlt1).trans x1, (hb.cell (p := ⟨b, o + k * 15 + 2, none⟩) hlt1).trans x2, (hb.cell (p := ⟨b, o + k * 15 + 3, none⟩) hlt1).trans x3, (hb.cell (p := ⟨b, o + k * 15 + 4, none⟩) hlt1).trans x4, (hb.cell (p := ⟨b, o + k * 15 + 5, none⟩) hlt1).trans x5, (hb.cell (p := ⟨b, o + k * 15 + 6, none⟩) hlt1).trans x6, (hb.cell (p := ⟨b, o + k * 15 + 7, none⟩) hlt1).trans x7, (hb.cell (p := ⟨b, o + k * 15 + 8, none⟩) hlt1).trans x8, (hb.cell (p := ⟨b, o + k * 15 + 9, none⟩) hlt1).trans x9, (hb.cell (p := ⟨b, o + k * 15 + 10, none⟩) hlt1).trans x10, (hb.cell (p := ⟨b, o + k * 15 + 11, none⟩) hlt1).trans x11, (hb.cell (p := ⟨b, o + k * 15 + 12, none⟩) hlt1).trans x12, (hb.cell (p := ⟨b, o + k * 15 + 13, none⟩) hlt1).trans x13, (hb.cell (p := ⟨b, o + k * 15 + 14, none⟩) hlt1).trans x14⟩
                          refine hK.out _ _ hS ?_; clear hK K
                          try simp only [Act.put, List.setIfInBounds_toArray, List.set_cons_zero, List.set_cons_succ]
                          skip
                          refine wpTill_fork (i := 9) (by as_aux_lemma => kernel_rfl) rfl rfl (by as_aux_lemma => kernel_rfl) (fun K hK => ?_) (fun K hK => ?_)
                          · obtain ⟨r2, wv2, hrun2, hown2, hg2, hat2, -⟩ := app_run (HR2.out.below hb) i0 _ 45 38 14 rfl rfl hrow Try.underlying45 hi0 hz0 hz1 rfl (by rw [hz2]; decide) (by simp; omega) hb.size 45
                            refine step_append_run rfl (.tmp 76) (.tmp 80) 45 rfl hrun2 ?_
                            try go_simp
                            have hb := Below.grow hb hg2 (fun q hq => (World.ownsRow.lt hrow q hq).1) hb.size
                            have hrow := hown2
                            clear hrun2 hown2 hg2 hat2
                            have hS : (fun x : World => x.cell? ⟨b, o + k * 15 + 1, none⟩ = some (.int .u8 f.kind) ∧ x.cell? ⟨b, o + k * 15 + 2, none⟩ = some (.int .i64 f.fa) ∧ x.cell? ⟨b, o + k * 15 + 3, none⟩ = some (.int .i64 f.fi) ∧ x.cell? ⟨b, o + k * 15 + 4, none⟩ = some (.int .i64 f.ta) ∧ x.cell? ⟨b, o + k * 15 + 5, none⟩ = some (.int .i64 f.ti) ∧ x.cell? ⟨b, o + k * 15 + 6, none⟩ = some (.int .i64 f.n) ∧ x.cell? ⟨b, o + k * 15 + 7, none⟩ = some (.int .i64 f.token) ∧ x.cell? ⟨b, o + k * 15 + 8, none⟩ = some (.int .i64 f.ba) ∧ x.cell? ⟨b, o + k * 15 + 9, none⟩ = some (.int .i64 f.bi) ∧ x.cell? ⟨b, o + k * 15 + 10, none⟩ = some (.slice f.ms.a f.ms.n f.ms.c) ∧ x.cell? ⟨b, o + k * 15 + 11, none⟩ = some (.slice f.fs.a f.fs.n f.fs.c) ∧ x.cell? ⟨b, o + k * 15 + 12, none⟩ = some (.slice f.rs.a f.rs.n f.rs.c) ∧ x.cell? ⟨b, o + k * 15 + 13, none⟩ = some (.slice f.cs.a f.cs.n f.cs.c) ∧ x.cell? ⟨b, o + k * 15 + 14, none⟩ = some (.slice f.ss.a f.ss.n f.ss.c)) (wv2) := ⟨(hb.cell (p := ⟨b, o + k * 15 + 1, none⟩) hlt1).trans x1, (hb.cell (p := ⟨b, o + k * 15 + 2, none⟩) hlt1).trans x2, (hb.cell (p := ⟨b, o + k * 15 + 3, none⟩) hlt1).trans x3, (hb.cell (p := ⟨b, o + k * 15 + 4, none⟩) hlt1).trans x4, (hb.cell (p := ⟨b, o + k * 15 + 5, none⟩) hlt1).trans x5, (hb.cell (p := ⟨b, o + k * 15 + 6, none⟩) hlt1).trans x6, (hb.cell (p := ⟨b, o + k * 15 + 7, none⟩) hlt1).trans x7, (hb.cell (p := ⟨b, o + k * 15 + 8, none⟩) hlt1).trans x8, (hb.cell (p := ⟨b, o + k * 15 + 9, none⟩) hlt1).trans x9, (hb.cell (p := ⟨b, o + k * 15 + 10, none⟩) hlt1).trans x10, (hb.cell (p := ⟨b, o + k * 15 + 11, none⟩) hlt1).trans x11, (hb.cell (p := ⟨b, o + k * 15 + 12, none⟩) hlt1).trans x12, (hb.cell (p := ⟨b, o + k * 15 + 13, none⟩) hlt1).trans x13, (hb.cell (p := ⟨b, o + k * 15 + 14, none⟩) hlt1).trans x14⟩
                            refine hK.out _ _ hS ?_; clear hK K
                            try simp only [Act.put, List.setIfInBounds_toArray, List.set_cons_zero, List.set_cons_succ]
                            skip
                            refine wpTill_end (by as_aux_lemma => kernel_rfl) rfl (fun K hK => ?_)
                            go_simp
                            obtain ⟨C, hCd⟩ : ∃ C, C = (wv2).heap.size := ⟨_, rfl⟩
                            have hCd2 : C = wv2.heap.size := by rw [hCd]; try simp
                            have hC : ((wv2).alloc (.cells f.cells 38)).heap[C]? = some (.cells f.cells 38 (0, 0)) := by rw [hCd]; exact heap_alloc_new _ _
                            have hCl : C < ((wv2).alloc (.cells f.cells 38)).heap.size := (Array.getElem?_eq_some_iff.1 hC).1
                            have hb := hb.alloc hb.size (.cells f.cells 38)
                            have hCn : ∀ q, (r2 : Value).ownBlock = some q → q ≠ C := fun q hq => by have := (World.ownsRow.lt hrow q hq).2; omega
                            have hrow := hrow.alloc (.cells f.cells 38)
                            refine hK.out _ _ ?_; clear hK K
                            try simp only [Act.put, List.setIfInBounds_toArray, List.set_cons_zero, List.set_cons_succ]
                            refine wpAny_one (i := 16) (by as_aux_lemma => kernel_rfl) rfl (fun K hK => ?_)
                            obtain ⟨r3, wv3, hrun3, hown3, hg3, hat3, -⟩ := app_run ((rd_one (P := P) hC)) i0 _ 45 38 14 rfl rfl hrow Try.underlying45 hi0 hz0 hz1 rfl (by rw [hz2]; decide) (by simp; omega) hb.size 45
                            rw [hCd2] at hrun3
                            refine step_append_run rfl (.tmp 81) (.tmp 87) 45 rfl hrun3 ?_
                            try go_simp
                            have hb := Below.grow hb hg3 (fun q hq => (World.ownsRow.lt hrow q hq).1) hb.size
                            have hrow := hown3
                            clear hrun3 hown3 hg3 hat3
                            refine hK.out _ _ ?_; clear hK K
                            try simp only [Act.put, List.setIfInBounds_toArray, List.set_cons_zero, List.set_cons_succ]
                            refine wpAny_one (i := 17) (by as_aux_lemma => kernel_rfl) rfl (fun K hK => ?_)
                            go_simp
                            refine hK.out _ _ ?_; clear hK K
                            refine wpAny_done (by as_aux_lemma => kernel_rfl) ?_ _
                            go_simp
                            have hfin := hb
                            have hrow := HE2.out wv3 r3 hrow
                            obtain ⟨aq, nq, cq, rfl, hQ⟩ := want_frs p HFd.out HDi0.out hfin hrow
                            have HQ := Lib.hid hQ
                            have HB9 := Lib.hid (undrew hfin)
                            clear hQ hrow hfin hb hC hCl hCn hCd hCd2 x0 x1 x2 x3 x4 x5 x6 x7 x8 x9 x10 x11 x12 x13 x14
                            go_wp2_with fail
                            go_meet
                            case rel => exact ⟨aq, nq, cq, _, _, _, rfl, HB9.out, Lib.hid (by rw [HPUT.out.1]; exact HQ.out)⟩
                          · go_simp
                            obtain ⟨C, hCd⟩ : ∃ C, C = (wv1).heap.size := ⟨_, rfl⟩
                            have hCd2 : C = wv1.heap.size := by rw [hCd]; try simp
                            have hC : ((wv1).alloc (.cells f.cells 38)).heap[C]? = some (.cells f.cells 38 (0, 0)) := by rw [hCd]; exact heap_alloc_new _ _
                            have hCl : C < ((wv1).alloc (.cells f.cells 38)).heap.size := (Array.getElem?_eq_some_iff.1 hC).1
                            have hb := hb.alloc hb.size (.cells f.cells 38)
                            have hCn : ∀ q, (r1 : Value).ownBlock = some q → q ≠ C := fun q hq => by have := (World.ownsRow.lt hrow q hq).2; omega
                            have hrow := hrow.alloc (.cells f.cells 38)
                            refine hK.out _ _ ?_; clear hK K
                            try simp only [Act.put, List.setIfInBounds_toArray, List.set_cons_zero, List.set_cons_succ]
                            refine wpAny_one (i := 9) (by as_aux_lemma => kernel_rfl) rfl (fun K hK => ?_)
                            obtain ⟨r2, wv2, hrun2, hown2, hg2, hat2, -⟩ := app_run (HR2.out.below hb) i0 _ 45 38 14 rfl rfl hrow Try.underlying45 hi0 hz0 hz1 rfl (by rw [hz2]; decide) (by simp; omega) hb.size 45
                            refine step_append_run rfl (.tmp 76) (.tmp 80) 45 rfl hrun2 ?_
                            try go_simp
                            have hC : wv2.heap[C]? = some (.cells f.cells 38 (0, 0)) := (hg2.block C hCl (fun e => hCn C e.symm rfl)).trans hC
                            have hCn : ∀ q, r2.ownBlock = some q → q ≠ C := fun q hq => by
                              rcases hat2 with e | e
                              · exact hCn q (e.symm.trans hq)
                              · rw [e] at hq; cases hq; omega
                            have hCl : C < wv2.heap.size := Nat.lt_of_lt_of_le hCl hg2.size
                            have hb := Below.grow hb hg2 (fun q hq => (World.ownsRow.lt hrow q hq).1) hb.size
                            have hrow := hown2
                            clear hrun2 hown2 hg2 hat2
                            refine hK.out _ _ ?_; clear hK K
                            try simp only [Act.put, List.setIfInBounds_toArray, List.set_cons_zero, List.set_cons_succ]
                            refine wpAny_one (i := 16) (by as_aux_lemma => kernel_rfl) rfl (fun K hK => ?_)
                            obtain ⟨r3, wv3, hrun3, hown3, hg3, hat3, -⟩ := app_run ((rd_one (P := P) hC)) i0 _ 45 38 14 rfl rfl hrow Try.underlying45 hi0 hz0 hz1 rfl (by rw [hz2]; decide) (by simp; omega) hb.size 45
                            rw [hCd2] at hrun3
                            refine step_append_run rfl (.tmp 81) (.tmp 87) 45 rfl hrun3 ?_
                            try go_simp
                            have hb := Below.grow hb hg3 (fun q hq => (World.ownsRow.lt hrow q hq).1) hb.size
                            have hrow := hown3
                            clear hrun3 hown3 hg3 hat3
                            refine hK.out _ _ ?_; clear hK K
                            try simp only [Act.put, List.setIfInBounds_toArray, List.set_cons_zero, List.set_cons_succ]
                            refine wpAny_one (i := 17) (by as_aux_lemma => kernel_rfl) rfl (fun K hK => ?_)
                            go_simp
                            refine hK.out _ _ ?_; clear hK K
                            refine wpAny_done (by as_aux_lemma => kernel_rfl) ?_ _
                            go_simp
                            have hfin := hb
                            have hrow := HE2.out wv3 r3 hrow
                            obtain ⟨aq, nq, cq, rfl, hQ⟩ := want_frs p HFd.out HDi0.out hfin hrow
                            have HQ := Lib.hid hQ
                            have HB9 := Lib.hid (undrew hfin)
                            clear hQ hrow hfin hb hC hCl hCn hCd hCd2 x0 x1 x2 x3 x4 x5 x6 x7 x8 x9 x10 x11 x12 x13 x14
                            go_wp2_with fail
                            go_meet
                            case rel => exact ⟨aq, nq, cq, _, _, _, rfl, HB9.out, Lib.hid (by rw [HPUT.out.1]; exact HQ.out)⟩
                        · go_simp
                          obtain ⟨C, hCd⟩ : ∃ C, C = ((wr.drew).alloc (.cells #[] 38)).heap.size := ⟨_, rfl⟩
                          have hCd2 : C = wr.heap.size + 1 := by rw [hCd]; try simp
                          have hC : (((wr.drew).alloc (.cells #[] 38)).alloc (.cells f.cells 38)).heap[C]? = some (.cells f.cells 38 (0, 0)) := by rw [hCd]; exact heap_alloc_new _ _
                          have hCl : C < (((wr.drew).alloc (.cells #[] 38)).alloc (.cells f.cells 38)).heap.size := (Array.getElem?_eq_some_iff.1 hC).1
                          have hb := hb.alloc hb.size (.cells f.cells 38)
                          have hCn : ∀ q, (Value.slice (some ⟨wr.heap.size, 0, none⟩) 0 0 : Value).ownBlock = some q → q ≠ C := fun q hq => by have := (World.ownsRow.lt hrow q hq).2; omega
                          have hrow := hrow.alloc (.cells f.cells 38)
                          refine hK.out _ _ ?_; clear hK K
                          try simp only [Act.put, List.setIfInBounds_toArray, List.set_cons_zero, List.set_cons_succ]
                          refine wpAny_one (i := 4) (by as_aux_lemma => kernel_rfl) rfl (fun K hK => ?_)
                          obtain ⟨r1, wv1, hrun1, hown1, hg1, hat1, -⟩ := app_run (HR1.out.below hb) i0 _ 45 38 14 rfl rfl hrow Try.underlying45 hi0 hz0 hz1 rfl (by rw [hz2]; decide) (by simp; omega) hb.size 45
                          refine step_append_run rfl (.tmp 72) (.tmp 75) 45 rfl hrun1 ?_
                          try go_simp
                          have hC : wv1.heap[C]? = some (.cells f.cells 38 (0, 0)) := (hg1.block C hCl (fun e => hCn C e.symm rfl)).trans hC
                          have hCn : ∀ q, r1.ownBlock = some q → q ≠ C := fun q hq => by
                            rcases hat1 with e | e
                            · exact hCn q (e.symm.trans hq)
                            · rw [e] at hq; cases hq; omega
                          have hCl : C < wv1.heap.size := Nat.lt_of_lt_of_le hCl hg1.size
                          have hb := Below.grow hb hg1 (fun q hq => (World.ownsRow.lt hrow q hq).1) hb.size
                          have hrow := hown1
                          clear hrun1 hown1 hg1 hat1
                          refine hK.out _ _ ?_; clear hK K
                          try simp only [Act.put, List.setIfInBounds_toArray, List.set_cons_zero, List.set_cons_succ]
                          refine wpAny_one (i := 9) (by as_aux_lemma => kernel_rfl) rfl (fun K hK => ?_)
                          obtain ⟨r2, wv2, hrun2, hown2, hg2, hat2, -⟩ := app_run (HR2.out.below hb) i0 _ 45 38 14 rfl rfl hrow Try.underlying45 hi0 hz0 hz1 rfl (by rw [hz2]; decide) (by simp; omega) hb.size 45
                          refine step_append_run rfl (.tmp 76) (.tmp 80) 45 rfl hrun2 ?_
                          try go_simp
                          have hC : wv2.heap[C]? = some (.cells f.cells 38 (0, 0)) := (hg2.block C hCl (fun e => hCn C e.symm rfl)).trans hC
                          have hCn : ∀ q, r2.ownBlock = some q → q ≠ C := fun q hq => by
                            rcases hat2 with e | e
                            · exact hCn q (e.symm.trans hq)
                            · rw [e] at hq; cases hq; omega
                          have hCl : C < wv2.heap.size := Nat.lt_of_lt_of_le hCl hg2.size
                          have hb := Below.grow hb hg2 (fun q hq => (World.ownsRow.lt hrow q hq).1) hb.size
                          have hrow := hown2
                          clear hrun2 hown2 hg2 hat2
                          refine hK.out _ _ ?_; clear hK K
                          try simp only [Act.put, List.setIfInBounds_toArray, List.set_cons_zero, List.set_cons_succ]
                          refine wpAny_one (i := 16) (by as_aux_lemma => kernel_rfl) rfl (fun K hK => ?_)
                          obtain ⟨r3, wv3, hrun3, hown3, hg3, hat3, -⟩ := app_run ((rd_one (P := P) hC)) i0 _ 45 38 14 rfl rfl hrow Try.underlying45 hi0 hz0 hz1 rfl (by rw [hz2]; decide) (by simp; omega) hb.size 45
                          rw [hCd2] at hrun3
                          refine step_append_run rfl (.tmp 81) (.tmp 87) 45 rfl hrun3 ?_
                          try go_simp
                          have hb := Below.grow hb hg3 (fun q hq => (World.ownsRow.lt hrow q hq).1) hb.size
                          have hrow := hown3
                          clear hrun3 hown3 hg3 hat3
                          refine hK.out _ _ ?_; clear hK K
                          try simp only [Act.put, List.setIfInBounds_toArray, List.set_cons_zero, List.set_cons_succ]
                          refine wpAny_one (i := 17) (by as_aux_lemma => kernel_rfl) rfl (fun K hK => ?_)
                          go_simp
                          refine hK.out _ _ ?_; clear hK K
                          refine wpAny_done (by as_aux_lemma => kernel_rfl) ?_ _
                          go_simp
                          have hfin := hb
                          have hrow := HE2.out wv3 r3 hrow
                          obtain ⟨aq, nq, cq, rfl, hQ⟩ := want_frs p HFd.out HDi0.out hfin hrow
                          have HQ := Lib.hid hQ
                          have HB9 := Lib.hid (undrew hfin)
                          clear hQ hrow hfin hb hC hCl hCn hCd hCd2 x0 x1 x2 x3 x4 x5 x6 x7 x8 x9 x10 x11 x12 x13 x14
                          go_wp2_with fail
                          go_meet
                          case rel => exact ⟨aq, nq, cq, _, _, _, rfl, HB9.out, Lib.hid (by rw [HPUT.out.1]; exact HQ.out)⟩
                      · go_simp
                        obtain ⟨C, hCd⟩ : ∃ C, C = (wr.drew).heap.size := ⟨_, rfl⟩
                        have hCd2 : C = wr.heap.size := by rw [hCd]; try simp
                        have hC : ((wr.drew).alloc (.cells f.cells 38)).heap[C]? = some (.cells f.cells 38 (0, 0)) := by rw [hCd]; exact heap_alloc_new _ _
                        have hCl : C < ((wr.drew).alloc (.cells f.cells 38)).heap.size := (Array.getElem?_eq_some_iff.1 hC).1
                        have hb := hb.alloc hb.size (.cells f.cells 38)
                        refine hK.out _ _ ?_; clear hK K
                        try simp only [Act.put, List.setIfInBounds_toArray, List.set_cons_zero, List.set_cons_succ]
                        refine wpAny_one (i := 0) (by as_aux_lemma => kernel_rfl) rfl (fun K hK => ?_)
                        go_simp
                        have hrow := World.ownsRow_made (base := wr.drew.heap.size) (e := 38) (size := 14) ((wr.drew).alloc (.cells f.cells 38)) #[] 0 hb.size (by decide) rfl
                        rw [show ((wr.drew).alloc (.cells f.cells 38)).heap.size = wr.heap.size + 1 by simp] at hrow
                        have hb := hb.alloc hb.size (.cells #[] 38)
                        have hC : (((wr.drew).alloc (.cells f.cells 38)).alloc (.cells #[] 38)).heap[C]? = some (.cells f.cells 38 (0, 0)) := (Below.heap_alloc _ _ _ hCl).trans hC
                        have hCl : C < (((wr.drew).alloc (.cells f.cells 38)).alloc (.cells #[] 38)).heap.size := Nat.lt_of_lt_of_le hCl (by simp)
                        have hCo : wr.heap.size + 1 ≠ C := by rw [hCd2]; omega
                        have hCn : ∀ q, (Value.slice (some ⟨wr.heap.size + 1, 0, none⟩) 0 0).ownBlock = some q → q ≠ C := fun q hq e => hCo ((show wr.heap.size + 1 = q by simpa [Value.ownBlock] using hq).trans e)
                        refine hK.out _ _ ?_; clear hK K
                        try simp only [Act.put, List.setIfInBounds_toArray, List.set_cons_zero, List.set_cons_succ]
                        refine wpAny_one (i := 4) (by as_aux_lemma => kernel_rfl) rfl (fun K hK => ?_)
                        obtain ⟨r1, wv1, hrun1, hown1, hg1, hat1, -⟩ := app_run (HR1.out.below hb) i0 _ 45 38 14 rfl rfl hrow Try.underlying45 hi0 hz0 hz1 rfl (by rw [hz2]; decide) (by simp; omega) hb.size 45
                        refine step_append_run rfl (.tmp 72) (.tmp 75) 45 rfl hrun1 ?_
                        try go_simp
                        have hC : wv1.heap[C]? = some (.cells f.cells 38 (0, 0)) := (hg1.block C hCl (fun e => hCn C e.symm rfl)).trans hC
                        have hCn : ∀ q, r1.ownBlock = some q → q ≠ C := fun q hq => by
                          rcases hat1 with e | e
                          · exact hCn q (e.symm.trans hq)
                          · rw [e] at hq; cases hq; omega
                        have hCl : C < wv1.heap.size := Nat.lt_of_lt_of_le hCl hg1.size
                        have hb := Below.grow hb hg1 (fun q hq => (World.ownsRow.lt hrow q hq).1) hb.size
                        have hrow := hown1
                        clear hrun1 hown1 hg1 hat1
                        refine hK.out _ _ ?_; clear hK K
                        try simp only [Act.put, List.setIfInBounds_toArray, List.set_cons_zero, List.set_cons_succ]
                        refine wpAny_one (i := 9) (by as_aux_lemma => kernel_rfl) rfl (fun K hK => ?_)
                        obtain ⟨r2, wv2, hrun2, hown2, hg2, hat2, -⟩ := app_run (HR2.out.below hb) i0 _ 45 38 14 rfl rfl hrow Try.underlying45 hi0 hz0 hz1 rfl (by rw [hz2]; decide) (by simp; omega) hb.size 45
                        refine step_append_run rfl (.tmp 76) (.tmp 80) 45 rfl hrun2 ?_
                        try go_simp
                        have hC : wv2.heap[C]? = some (.cells f.cells 38 (0, 0)) := (hg2.block C hCl (fun e => hCn C e.symm rfl)).trans hC
                        have hCn : ∀ q, r2.ownBlock = some q → q ≠ C := fun q hq => by
                          rcases hat2 with e | e
                          · exact hCn q (e.symm.trans hq)
                          · rw [e] at hq; cases hq; omega
                        have hCl : C < wv2.heap.size := Nat.lt_of_lt_of_le hCl hg2.size
                        have hb := Below.grow hb hg2 (fun q hq => (World.ownsRow.lt hrow q hq).1) hb.size
                        have hrow := hown2
                        clear hrun2 hown2 hg2 hat2
                        refine hK.out _ _ ?_; clear hK K
                        try simp only [Act.put, List.setIfInBounds_toArray, List.set_cons_zero, List.set_cons_succ]
                        refine wpAny_one (i := 16) (by as_aux_lemma => kernel_rfl) rfl (fun K hK => ?_)
                        obtain ⟨r3, wv3, hrun3, hown3, hg3, hat3, -⟩ := app_run ((rd_one (P := P) hC)) i0 _ 45 38 14 rfl rfl hrow Try.underlying45 hi0 hz0 hz1 rfl (by rw [hz2]; decide) (by simp; omega) hb.size 45
                        rw [hCd2] at hrun3
                        refine step_append_run rfl (.tmp 81) (.tmp 87) 45 rfl hrun3 ?_
                        try go_simp
                        have hb := Below.grow hb hg3 (fun q hq => (World.ownsRow.lt hrow q hq).1) hb.size
                        have hrow := hown3
                        clear hrun3 hown3 hg3 hat3
                        refine hK.out _ _ ?_; clear hK K
                        try simp only [Act.put, List.setIfInBounds_toArray, List.set_cons_zero, List.set_cons_succ]
                        refine wpAny_one (i := 17) (by as_aux_lemma => kernel_rfl) rfl (fun K hK => ?_)
                        go_simp
                        refine hK.out _ _ ?_; clear hK K
                        refine wpAny_done (by as_aux_lemma => kernel_rfl) ?_ _
                        go_simp
                        have hfin := hb
                        have hrow := HE2.out wv3 r3 hrow
                        obtain ⟨aq, nq, cq, rfl, hQ⟩ := want_frs p HFd.out HDi0.out hfin hrow
                        have HQ := Lib.hid hQ
                        have HB9 := Lib.hid (undrew hfin)
                        clear hQ hrow hfin hb hC hCl hCn hCd hCd2 x0 x1 x2 x3 x4 x5 x6 x7 x8 x9 x10 x11 x12 x13 x14
                        go_wp2_with fail
                        go_meet
                        case rel => exact ⟨aq, nq, cq, _, _, _, rfl, HB9.out, Lib.hid (by rw [HPUT.out.1]; exact HQ.out)⟩
                    case rest =>
                      obtain ⟨aq, nq, cq, lq, loq, hiq, rfl, hbq, HQ⟩ := hcut
                      clear x0 x1 x2 x3 x4 x5 x6 x7 x8 x9 x10 x11 x12 x13 x14 h0i hjc hjn hpc hi1 hwp hlt1
                      have hS := HS8.out.below hbq
                      have hFw := HFw.out.below hbq
                      obtain ⟨b1', o1', e1, -, -, hlt2, -, hz⟩ := hFw.rd.cell (j := p) hpo
                      simp only [Option.some.injEq, Addr.mk.injEq, and_true] at e1
                      obtain ⟨rfl, rfl⟩ := e1
                      obtain ⟨r1, r2, hdp⟩ := hFw.at_ p hpo hp
                      obtain ⟨q1, q2, hdg⟩ := hS.deep
                      have hFn := hS.now.frs2
                      rw [HD.out.2.1] at hFn
                      rw [HPUT.out.2] at hdg
                      generalize outw[p] = fp at hz hdp
                      generalize (xs.map (·.d))[p] = dp at hdp hdg
                      have hg6 := hS.out
                      obtain ⟨g, hg⟩ : ∃ g : Fr, g = ⟨gk, gfa, gfi, gta, gti, gn, gtk, gba, gbi, ⟨ga1, gn1, gc1⟩, ⟨ga2, gn2, gc2⟩, ⟨ga3, gn3, gc3⟩, ⟨ga4, gn4, gc4⟩, ⟨ga5, gn5, gc5⟩⟩ := ⟨_, rfl⟩
                      rw [← hg] at hg6 hdg
                      have y0 : wc.cell? ⟨w6.heap.size, 0, none⟩ = some (.int .u8 g.kind) := (cell_of_row _ _ _ _ _ _ hg6).trans rfl
                      have y1 : wc.cell? ⟨w6.heap.size, 1, none⟩ = some (.int .i64 g.fa) := (cell_of_row _ _ _ _ _ _ hg6).trans rfl
                      have y2 : wc.cell? ⟨w6.heap.size, 2, none⟩ = some (.int .i64 g.fi) := (cell_of_row _ _ _ _ _ _ hg6).trans rfl
                      have y3 : wc.cell? ⟨w6.heap.size, 3, none⟩ = some (.int .i64 g.ta) := (cell_of_row _ _ _ _ _ _ hg6).trans rfl
                      have y4 : wc.cell? ⟨w6.heap.size, 4, none⟩ = some (.int .i64 g.ti) := (cell_of_row _ _ _ _ _ _ hg6).trans rfl
                      have y5 : wc.cell? ⟨w6.heap.size, 5, none⟩ = some (.int .i64 g.n) := (cell_of_row _ _ _ _ _ _ hg6).trans rfl
                      have y6 : wc.cell? ⟨w6.heap.size, 6, none⟩ = some (.int .i64 g.token) := (cell_of_row _ _ _ _ _ _ hg6).trans rfl
                      have y7 : wc.cell? ⟨w6.heap.size, 7, none⟩ = some (.int .i64 g.ba) := (cell_of_row _ _ _ _ _ _ hg6).trans rfl
                      have y8 : wc.cell? ⟨w6.heap.size, 8, none⟩ = some (.int .i64 g.bi) := (cell_of_row _ _ _ _ _ _ hg6).trans rfl
                      have y9 : wc.cell? ⟨w6.heap.size, 9, none⟩ = some (.slice g.ms.a g.ms.n g.ms.c) := (cell_of_row _ _ _ _ _ _ hg6).trans rfl
                      have y10 : wc.cell? ⟨w6.heap.size, 10, none⟩ = some (.slice g.fs.a g.fs.n g.fs.c) := (cell_of_row _ _ _ _ _ _ hg6).trans rfl
                      have y11 : wc.cell? ⟨w6.heap.size, 11, none⟩ = some (.slice g.rs.a g.rs.n g.rs.c) := (cell_of_row _ _ _ _ _ _ hg6).trans rfl
                      have y12 : wc.cell? ⟨w6.heap.size, 12, none⟩ = some (.slice g.cs.a g.cs.n g.cs.c) := (cell_of_row _ _ _ _ _ _ hg6).trans rfl
                      have y13 : wc.cell? ⟨w6.heap.size, 13, none⟩ = some (.slice g.ss.a g.ss.n g.ss.c) := (cell_of_row _ _ _ _ _ _ hg6).trans rfl
                      have z0 : wc.cell? ⟨b1, o1 + p * 14, none⟩ = some (.int .u8 fp.kind) := hz 0 (by decide)
                      have z1 : wc.cell? ⟨b1, o1 + p * 14 + 1, none⟩ = some (.int .i64 fp.fa) := by have := hz 1 (by decide); rwa [← Nat.add_assoc] at this
                      have z2 : wc.cell? ⟨b1, o1 + p * 14 + 2, none⟩ = some (.int .i64 fp.fi) := by have := hz 2 (by decide); rwa [← Nat.add_assoc] at this
                      have z3 : wc.cell? ⟨b1, o1 + p * 14 + 3, none⟩ = some (.int .i64 fp.ta) := by have := hz 3 (by decide); rwa [← Nat.add_assoc] at this
                      have z4 : wc.cell? ⟨b1, o1 + p * 14 + 4, none⟩ = some (.int .i64 fp.ti) := by have := hz 4 (by decide); rwa [← Nat.add_assoc] at this
                      have z5 : wc.cell? ⟨b1, o1 + p * 14 + 5, none⟩ = some (.int .i64 fp.n) := by have := hz 5 (by decide); rwa [← Nat.add_assoc] at this
                      have z6 : wc.cell? ⟨b1, o1 + p * 14 + 6, none⟩ = some (.int .i64 fp.token) := by have := hz 6 (by decide); rwa [← Nat.add_assoc] at this
                      have z7 : wc.cell? ⟨b1, o1 + p * 14 + 7, none⟩ = some (.int .i64 fp.ba) := by have := hz 7 (by decide); rwa [← Nat.add_assoc] at this
                      have z8 : wc.cell? ⟨b1, o1 + p * 14 + 8, none⟩ = some (.int .i64 fp.bi) := by have := hz 8 (by decide); rwa [← Nat.add_assoc] at this
                      have z9 : wc.cell? ⟨b1, o1 + p * 14 + 9, none⟩ = some (.slice fp.ms.a fp.ms.n fp.ms.c) := by have := hz 9 (by decide); rwa [← Nat.add_assoc] at this
                      have z10 : wc.cell? ⟨b1, o1 + p * 14 + 10, none⟩ = some (.slice fp.fs.a fp.fs.n fp.fs.c) := by have := hz 10 (by decide); rwa [← Nat.add_assoc] at this
                      have z11 : wc.cell? ⟨b1, o1 + p * 14 + 11, none⟩ = some (.slice fp.rs.a fp.rs.n fp.rs.c) := by have := hz 11 (by decide); rwa [← Nat.add_assoc] at this
                      have z12 : wc.cell? ⟨b1, o1 + p * 14 + 12, none⟩ = some (.slice fp.cs.a fp.cs.n fp.cs.c) := by have := hz 12 (by decide); rwa [← Nat.add_assoc] at this
                      have z13 : wc.cell? ⟨b1, o1 + p * 14 + 13, none⟩ = some (.slice fp.ss.a fp.ss.n fp.ss.c) := by have := hz 13 (by decide); rwa [← Nat.add_assoc] at this
                      have hl6 : (putT most (xs.map (·.d)) d).length ≤ 100000 := by
                        rw [HPUT.out.1]
                        simp only [List.length_append, List.length_eraseIdx, List.length_singleton]
                        split <;> omega
                      have HF1 := Lib.hid (show Frs P _ _ ⟨on, ln, cn⟩ outn (putT most (xs.map (·.d)) d) wc.drew from ⟨hFn.rd.same (w' := wc.drew) (Nat.le_refl _) fun _ _ _ _ _ => rfl, hFn.len, fun j a b => by obtain ⟨x, y, hz⟩ := hFn.at_ j a b; exact ⟨x, y, hz.same (w' := wc.drew) (Nat.le_refl _) fun _ _ _ _ _ => rfl⟩⟩)
                      have HFq := Lib.hid (show Frs P _ _ ⟨aq, nq, cq⟩ lq (putT most (xs.map (·.d)) d) wc.drew from ⟨HQ.out.rd.same (w' := wc.drew) (Nat.le_refl _) fun _ _ _ _ _ => rfl, HQ.out.len, fun j a b => by obtain ⟨x, y, hz⟩ := HQ.out.at_ j a b; exact ⟨x, y, hz.same (w' := wc.drew) (Nat.le_refl _) fun _ _ _ _ _ => rfl⟩⟩)
                      have HDg : Hid (Deep P q1 q2 dp g wc.drew) := Lib.hid (hdg.same (w' := wc.drew) (Nat.le_refl _) fun _ _ _ _ _ => rfl)
                      have HDi : Hid (Deep P r1 r2 dp fp wc.drew) := Lib.hid (hdp.same (w' := wc.drew) (Nat.le_refl _) fun _ _ _ _ _ => rfl)
                      clear hS hFn hFw hdg hdp hg6 hz
                      have HG := Lib.hid hg
                      clear hg
                      go_upto_region 21 with fail
                      refine wp_region_any (by as_aux_lemma => kernel_rfl) ?_
                      try (change wpAny _ _ _ _ _ _ _ (World.drew _))
                      refine wpAny_take (i := 1) (v := ?_) rfl (by as_aux_lemma => kernel_rfl) (by as_aux_lemma => kernel_rfl) (by as_aux_lemma => kernel_rfl) (fun _ _ _ h => h) (Or.inl ⟨by as_aux_lemma => kernel_rfl, ?_⟩) ?_
                      rotate_left
                      · (intro w; go_simp) <;> with_reducible rfl
                      refine wpAny_take (i := 2) (v := ?_) rfl (by as_aux_lemma => kernel_rfl) (by as_aux_lemma => kernel_rfl) (by as_aux_lemma => kernel_rfl) (fun _ _ _ h => h) (Or.inl ⟨by as_aux_lemma => kernel_rfl, ?_⟩) ?_
                      rotate_left
                      · (intro w; go_simp) <;> with_reducible rfl
                      refine wpAny_take (i := 3) (v := ?_) rfl (by as_aux_lemma => kernel_rfl) (by as_aux_lemma => kernel_rfl) (by as_aux_lemma => kernel_rfl) (fun _ _ _ h => h) (Or.inl ⟨by as_aux_lemma => kernel_rfl, ?_⟩) ?_
                      rotate_left
                      · (intro w; go_simp) <;> with_reducible rfl
                      refine wpAny_of_till (S := fun x => x.cell? ⟨w6.heap.size, 0, none⟩ = some (.int .u8 g.kind) ∧ x.cell? ⟨w6.heap.size, 1, none⟩ = some (.int .i64 g.fa) ∧ x.cell? ⟨w6.heap.size, 2, none⟩ = some (.int .i64 g.fi) ∧ x.cell? ⟨w6.heap.size, 3, none⟩ = some (.int .i64 g.ta) ∧ x.cell? ⟨w6.heap.size, 4, none⟩ = some (.int .i64 g.ti) ∧ x.cell? ⟨w6.heap.size, 5, none⟩ = some (.int .i64 g.n) ∧ x.cell? ⟨w6.heap.size, 6, none⟩ = some (.int .i64 g.token) ∧ x.cell? ⟨w6.heap.size, 7, none⟩ = some (.int .i64 g.ba) ∧ x.cell? ⟨w6.heap.size, 8, none⟩ = some (.int .i64 g.bi) ∧ x.cell? ⟨w6.heap.size, 9, none⟩ = some (.slice g.ms.a g.ms.n g.ms.c) ∧ x.cell? ⟨w6.heap.size, 10, none⟩ = some (.slice g.fs.a g.fs.n g.fs.c) ∧ x.cell? ⟨w6.heap.size, 11, none⟩ = some (.slice g.rs.a g.rs.n g.rs.c) ∧ x.cell? ⟨w6.heap.size, 12, none⟩ = some (.slice g.cs.a g.cs.n g.cs.c) ∧ x.cell? ⟨w6.heap.size, 13, none⟩ = some (.slice g.ss.a g.ss.n g.ss.c) ∧ x.cell? ⟨b1, o1 + p * 14, none⟩ = some (.int .u8 fp.kind) ∧ x.cell? ⟨b1, o1 + p * 14 + 1, none⟩ = some (.int .i64 fp.fa) ∧ x.cell? ⟨b1, o1 + p * 14 + 2, none⟩ = some (.int .i64 fp.fi) ∧ x.cell? ⟨b1, o1 + p * 14 + 3, none⟩ = some (.int .i64 fp.ta) ∧ x.cell? ⟨b1, o1 + p * 14 + 4, none⟩ = some (.int .i64 fp.ti) ∧ x.cell? ⟨b1, o1 + p * 14 + 5, none⟩ = some (.int .i64 fp.n) ∧ x.cell? ⟨b1, o1 + p * 14 + 6, none⟩ = some (.int .i64 fp.token) ∧ x.cell? ⟨b1, o1 + p * 14 + 7, none⟩ = some (.int .i64 fp.ba) ∧ x.cell? ⟨b1, o1 + p * 14 + 8, none⟩ = some (.int .i64 fp.bi) ∧ x.cell? ⟨b1, o1 + p * 14 + 9, none⟩ = some (.slice fp.ms.a fp.ms.n fp.ms.c) ∧ x.cell? ⟨b1, o1 + p * 14 + 10, none⟩ = some (.slice fp.fs.a fp.fs.n fp.fs.c) ∧ x.cell? ⟨b1, o1 + p * 14 + 11, none⟩ = some (.slice fp.rs.a fp.rs.n fp.rs.c) ∧ x.cell? ⟨b1, o1 + p * 14 + 12, none⟩ = some (.slice fp.cs.a fp.cs.n fp.cs.c) ∧ x.cell? ⟨b1, o1 + p * 14 + 13, none⟩ = some (.slice fp.ss.a fp.ss.n fp.ss.c)) (k := 5) _ _ _ _ ?_
                      have hS : (fun x : World => x.cell? ⟨w6.heap.size, 0, none⟩ = some (.int .u8 g.kind) ∧ x.cell? ⟨w6.heap.size, 1, none⟩ = some (.int .i64 g.fa) ∧ x.cell? ⟨w6.heap.size, 2, none⟩ = some (.int .i64 g.fi) ∧ x.cell? ⟨w6.heap.size, 3, none⟩ = some (.int .i64 g.ta) ∧ x.cell? ⟨w6.heap.size, 4, none⟩ = some (.int .i64 g.ti) ∧ x.cell? ⟨w6.heap.size, 5, none⟩ = some (.int .i64 g.n) ∧ x.cell? ⟨w6.heap.size, 6, none⟩ = some (.int .i64 g.token) ∧ x.cell? ⟨w6.heap.size, 7, none⟩ = some (.int .i64 g.ba) ∧ x.cell? ⟨w6.heap.size, 8, none⟩ = some (.int .i64 g.bi) ∧ x.cell? ⟨w6.heap.size, 9, none⟩ = some (.slice g.ms.a g.ms.n g.ms.c) ∧ x.cell? ⟨w6.heap.size, 10, none⟩ = some (.slice g.fs.a g.fs.n g.fs.c) ∧ x.cell? ⟨w6.heap.size, 11, none⟩ = some (.slice g.rs.a g.rs.n g.rs.c) ∧ x.cell? ⟨w6.heap.size, 12, none⟩ = some (.slice g.cs.a g.cs.n g.cs.c) ∧ x.cell? ⟨w6.heap.size, 13, none⟩ = some (.slice g.ss.a g.ss.n g.ss.c) ∧ x.cell? ⟨b1, o1 + p * 14, none⟩ = some (.int .u8 fp.kind) ∧ x.cell? ⟨b1, o1 + p * 14 + 1, none⟩ = some (.int .i64 fp.fa) ∧ x.cell? ⟨b1, o1 + p * 14 + 2, none⟩ = some (.int .i64 fp.fi) ∧ x.cell? ⟨b1, o1 + p * 14 + 3, none⟩ = some (.int .i64 fp.ta) ∧ x.cell? ⟨b1, o1 + p * 14 + 4, none⟩ = some (.int .i64 fp.ti) ∧ x.cell? ⟨b1, o1 + p * 14 + 5, none⟩ = some (.int .i64 fp.n) ∧ x.cell? ⟨b1, o1 + p * 14 + 6, none⟩ = some (.int .i64 fp.token) ∧ x.cell? ⟨b1, o1 + p * 14 + 7, none⟩ = some (.int .i64 fp.ba) ∧ x.cell? ⟨b1, o1 + p * 14 + 8, none⟩ = some (.int .i64 fp.bi) ∧ x.cell? ⟨b1, o1 + p * 14 + 9, none⟩ = some (.slice fp.ms.a fp.ms.n fp.ms.c) ∧ x.cell? ⟨b1, o1 + p * 14 + 10, none⟩ = some (.slice fp.fs.a fp.fs.n fp.fs.c) ∧ x.cell? ⟨b1, o1 + p * 14 + 11, none⟩ = some (.slice fp.rs.a fp.rs.n fp.rs.c) ∧ x.cell? ⟨b1, o1 + p * 14 + 12, none⟩ = some (.slice fp.cs.a fp.cs.n fp.cs.c) ∧ x.cell? ⟨b1, o1 + p * 14 + 13, none⟩ = some (.slice fp.ss.a fp.ss.n fp.ss.c)) _ := ⟨y0, y1, y2, y3, y4, y5, y6, y7, y8, y9, y10, y11, y12, y13, z0, z1, z2, z3, z4, z5, z6, z7, z8, z9, z10, z11, z12, z13⟩
                      refine wpTill_take (i := 0) (v := (.agg #[.int .u8 g.kind, .int .i64 g.fa, .int .i64 g.fi, .int .i64 g.ta, .int .i64 g.ti, .int .i64 g.n, .int .i64 g.token, .int .i64 g.ba, .int .i64 g.bi, .slice g.ms.a g.ms.n g.ms.c, .slice g.fs.a g.fs.n g.fs.c, .slice g.rs.a g.rs.n g.rs.c, .slice g.cs.a g.cs.n g.cs.c, .slice g.ss.a g.ss.n g.ss.c])) rfl (by as_aux_lemma => kernel_rfl) (by as_aux_lemma => kernel_rfl) (by as_aux_lemma => kernel_rfl) (by as_aux_lemma => kernel_rfl) (fun _ _ _ h => h) (Or.inl ⟨by as_aux_lemma => kernel_rfl, ?_⟩) hS ?_
                      · intro w hSw; (try dsimp only at hSw); (try obtain ⟨x0, x1, x2, x3, x4, x5, x6, x7, x8, x9, x10, x11, x12, x13, x14, x15, x16, x17, x18, x19, x20, x21, x22, x23, x24, x25, x26, x27⟩ := hSw); go_simp
                      try simp only [Act.put, List.setIfInBounds_toArray, List.set_cons_zero, List.set_cons_succ]
                      refine wpTill_take (i := 4) (v := (.agg #[.int .u8 fp.kind, .int .i64 fp.fa, .int .i64 fp.fi, .int .i64 fp.ta, .int .i64 fp.ti, .int .i64 fp.n, .int .i64 fp.token, .int .i64 fp.ba, .int .i64 fp.bi, .slice fp.ms.a fp.ms.n fp.ms.c, .slice fp.fs.a fp.fs.n fp.fs.c, .slice fp.rs.a fp.rs.n fp.rs.c, .slice fp.cs.a fp.cs.n fp.cs.c, .slice fp.ss.a fp.ss.n fp.ss.c])) rfl (by as_aux_lemma => kernel_rfl) (by as_aux_lemma => kernel_rfl) (by as_aux_lemma => kernel_rfl) (by as_aux_lemma => kernel_rfl) (fun _ _ _ h => h) (Or.inl ⟨by as_aux_lemma => kernel_rfl, ?_⟩) hS ?_
                      · intro w hSw; (try dsimp only at hSw); (try obtain ⟨x0, x1, x2, x3, x4, x5, x6, x7, x8, x9, x10, x11, x12, x13, x14, x15, x16, x17, x18, x19, x20, x21, x22, x23, x24, x25, x26, x27⟩ := hSw); go_simp
                      try simp only [Act.put, List.setIfInBounds_toArray, List.set_cons_zero, List.set_cons_succ]
                      refine wpTill_end (by as_aux_lemma => kernel_rfl) rfl (fun K hK => ?_)
                      go_simp
                      clear hS
                      refine (same_deep dp g fp wc.drew HDg.out HDi.out).mono ?_
                      rintro e w8 ⟨rfl, hb8⟩
                      go_wp2_with fail
                      refine hK.out _ _ ?_; clear hK K
                      refine wpAny_take (i := 6) (v := ?_) rfl (by as_aux_lemma => kernel_rfl) (by as_aux_lemma => kernel_rfl) (by as_aux_lemma => kernel_rfl) (fun _ _ _ h => h) (Or.inl ⟨by as_aux_lemma => kernel_rfl, ?_⟩) ?_
                      rotate_left
                      · (intro w; go_simp) <;> with_reducible rfl
                      refine wpAny_take (i := 7) (v := ?_) rfl (by as_aux_lemma => kernel_rfl) (by as_aux_lemma => kernel_rfl) (by as_aux_lemma => kernel_rfl) (fun _ _ _ h => h) (Or.inl ⟨by as_aux_lemma => kernel_rfl, ?_⟩) ?_
                      rotate_left
                      · (intro w; go_simp) <;> with_reducible rfl
                      refine wpAny_take (i := 8) (v := ?_) rfl (by as_aux_lemma => kernel_rfl) (by as_aux_lemma => kernel_rfl) (by as_aux_lemma => kernel_rfl) (fun _ _ _ h => h) (Or.inl ⟨by as_aux_lemma => kernel_rfl, ?_⟩) ?_
                      rotate_left
                      · (intro w; go_simp) <;> with_reducible rfl
                      refine wpAny_take (i := 9) (v := ?_) rfl (by as_aux_lemma => kernel_rfl) (by as_aux_lemma => kernel_rfl) (by as_aux_lemma => kernel_rfl) (fun _ _ _ h => h) (Or.inl ⟨by as_aux_lemma => kernel_rfl, ?_⟩) ?_
                      rotate_left
                      · (intro w; go_simp) <;> with_reducible rfl
                      refine wpAny_one (i := 10) (by as_aux_lemma => kernel_rfl) rfl (fun K hK => ?_)
                      go_simp
                      refine (frames_same ⟨on, ln, cn⟩ ⟨aq, nq, cq⟩ outn lq (putT most (xs.map (·.d)) d) w8 (HF1.out.below hb8) (HFq.out.below hb8) hl6).mono ?_
                      rintro e w9 ⟨rfl, hb9⟩
                      go_wp2_with fail
                      refine hK.out _ _ ?_; clear hK K
                      refine wpAny_one (i := 11) (by as_aux_lemma => kernel_rfl) rfl (fun K hK => ?_)
                      go_simp
                      refine hK.out _ _ ?_; clear hK K
                      refine wpAny_one (i := 12) (by as_aux_lemma => kernel_rfl) rfl (fun K hK => ?_)
                      go_simp
                      refine hK.out _ _ ?_; clear hK K
                      refine wpAny_done (by as_aux_lemma => kernel_rfl) ?_ _
                      go_simp
                      have hbu := undrew hb8
                      have hfin := HO.out.kept (HB.out.trans ((hbq.trans ((hbu.trans (hb9.mono hbu.size)).mono hbq.size)).mono HB.out.size))
                      clear z0 z1 z2 z3 z4 z5 z6 z7 z8 z9 z10 z11 z12 z13 y0 y1 y2 y3 y4 y5 y6 y7 y8 y9 y10 y11 y12 y13
                      go_wp2_with fail
                      go_roundw
                      case rel => exact ⟨k + 1, v2, n2, xs2, by omega, by go_num, hfin, by rw [HD.out.2.2, HM.out]⟩
                      case measure => simp only [intOf]; omega
              · as_aux_lemma =>
                  obtain rfl : i0 = (j : Int) := by have := hi0.out; omega
                  clear hi0
                  have hj : j < xs.length := by have := hlw.out; omega
                  have hF := (HS7.out.below HB.out).was.frs2
                  have hjo : j < outw.length := by rw [hF.len]; have e := congrArg List.length HD.out.1; simp only [List.length_map] at e ⊢; omega
                  obtain ⟨b1, o1, e1, -, -, -, -, hy⟩ := hF.rd.cell (j := j) hjo
                  obtain ⟨q1, q2, hdp⟩ := hF.at_ j hjo (by rw [← hF.len]; exact hjo)
                  simp only at e1
                  subst e1
                  have hkn := hdp.known
                  have hkd : (yw.map (·.d))[j]'(by rw [← hF.len]; exact hjo) = (xs.map (·.d))[j]'(by simpa using hj) := by simp only [HD.out.1]
                  rw [hkd] at hkn
                  generalize outw[j] = fw at hy hkn
                  have HK := Lib.hid hkn
                  clear hF hdp hkn hkd hjo
                  have y0 : wr.cell? ⟨b1, o1 + j * 14, none⟩ = some (.int .u8 fw.kind) := hy 0 (by decide)
                  have y1 : wr.cell? ⟨b1, o1 + j * 14 + 1, none⟩ = some (.int .i64 fw.fa) := by have := hy 1 (by decide); rwa [← Nat.add_assoc] at this
                  have y2 : wr.cell? ⟨b1, o1 + j * 14 + 2, none⟩ = some (.int .i64 fw.fi) := by have := hy 2 (by decide); rwa [← Nat.add_assoc] at this
                  have y3 : wr.cell? ⟨b1, o1 + j * 14 + 3, none⟩ = some (.int .i64 fw.ta) := by have := hy 3 (by decide); rwa [← Nat.add_assoc] at this
                  have y4 : wr.cell? ⟨b1, o1 + j * 14 + 4, none⟩ = some (.int .i64 fw.ti) := by have := hy 4 (by decide); rwa [← Nat.add_assoc] at this
                  have y5 : wr.cell? ⟨b1, o1 + j * 14 + 5, none⟩ = some (.int .i64 fw.n) := by have := hy 5 (by decide); rwa [← Nat.add_assoc] at this
                  have y6 : wr.cell? ⟨b1, o1 + j * 14 + 6, none⟩ = some (.int .i64 fw.token) := by have := hy 6 (by decide); rwa [← Nat.add_assoc] at this
                  have y7 : wr.cell? ⟨b1, o1 + j * 14 + 7, none⟩ = some (.int .i64 fw.ba) := by have := hy 7 (by decide); rwa [← Nat.add_assoc] at this
                  have y8 : wr.cell? ⟨b1, o1 + j * 14 + 8, none⟩ = some (.int .i64 fw.bi) := by have := hy 8 (by decide); rwa [← Nat.add_assoc] at this
                  have y9 : wr.cell? ⟨b1, o1 + j * 14 + 9, none⟩ = some (.slice fw.ms.a fw.ms.n fw.ms.c) := by have := hy 9 (by decide); rwa [← Nat.add_assoc] at this
                  have y10 : wr.cell? ⟨b1, o1 + j * 14 + 10, none⟩ = some (.slice fw.fs.a fw.fs.n fw.fs.c) := by have := hy 10 (by decide); rwa [← Nat.add_assoc] at this
                  have y11 : wr.cell? ⟨b1, o1 + j * 14 + 11, none⟩ = some (.slice fw.rs.a fw.rs.n fw.rs.c) := by have := hy 11 (by decide); rwa [← Nat.add_assoc] at this
                  have y12 : wr.cell? ⟨b1, o1 + j * 14 + 12, none⟩ = some (.slice fw.cs.a fw.cs.n fw.cs.c) := by have := hy 12 (by decide); rwa [← Nat.add_assoc] at this
                  have y13 : wr.cell? ⟨b1, o1 + j * 14 + 13, none⟩ = some (.slice fw.ss.a fw.ss.n fw.ss.c) := by have := hy 13 (by decide); rwa [← Nat.add_assoc] at this
                  clear hy
                  go_wp2_with fail
                  refine (known17 fw _).mono ?_
                  rintro e w8 ⟨rfl, hb8⟩
                  have HB8 := Lib.hid (HB.out.trans (hb8.mono HB.out.size))
                  clear hb8 y0 y1 y2 y3 y4 y5 y6 y7 y8 y9 y10 y11 y12 y13
                  have hK2 := HK.out
                  generalize fw.known = kb at hK2 ⊢
                  have HK2 := Lib.hid hK2
                  clear hK2 HK
                  cases kb
                  · go_wp2_with fail
                    go_roundw
                    case rel => exact ⟨j, (j : Int) - 1, f0, by omega, by go_num, rfl, Lib.hid rfl, HB8, Lib.hid (HF.out.no (by simpa using hj) HK2.out.symm)⟩
                    case measure => simp only [intOf]; omega
                  · go_wp2_with fail
                    go_roundw
                    case rel => exact ⟨j, (j : Int) - 1, j, by omega, by go_num, rfl, Lib.hid rfl, HB8, Lib.hid (From.yes (by simpa using hj) HK2.out.symm)⟩
                    case measure => simp only [intOf]; omega
          · as_aux_lemma =>
              have h0b : (kd == 0) = false := by simpa using h0
              go_wp2_with fail
              refine (take_deep P B v n xs wr HOne.out.nt HOne.out.bx).mono ?_
              rintro e w5 ⟨v2, lo2, hi2, rfl, hT, hN, hX, -⟩
              have hO := HOne.out.turn hT hN hX
              clear hT hN hX
              clear x0 x1 x2 x3 x4 x5 x6 x7 x8 x9 x10 x11 x12 x13 x14
              go_wp2_with fail
              go_roundw
              case rel => exact ⟨k + 1, v2, _, _, by omega, by go_num, hO, HM.out⟩
              case measure => simp only [intOf]; omega
        · as_aux_lemma =>
            obtain rfl : k = l1.length := by omega
            have hfin := hO.below
            rw [HP.out] at hfin
            clear hm hO
            go_wp2_with fail
            go_ret
            exact ⟨rfl, hfin⟩
  · clear hg1 hb0 hb1
    go_wp2_with fail
    refine (works_any _).mono ?_
    rintro e w3 ⟨rfl, hb3⟩
    go_wp2_with fail
    go_ret
    exact ⟨rfl, then_below hba hb3⟩
end Go.Proofs.Ytjdhdmljchnidaa
