/-
  The document's Put.
-/
import Derived.Test.YtjdhdmljchnidaaRefTake
namespace Go.Proofs.Ytjdhdmljchnidaa
open Go.RowKit
set_option linter.unusedVariables false
set_option linter.unusedSimpArgs false
attribute [local go_sem ↓] Go.wp_at_zero Go.wp_at_succ
theorem known17 (f : Fr) (w : World) : Calls Try.prog 17 #[f.val] w fun e w' => e = .returned (.bool f.known) ∧ Below w.heap.size w w' := by
  unfold Fr.known
  obtain ⟨k, fa, fi, ta, ti, n, tk, ba, bi, ⟨a1, n1, c1⟩, ⟨a2, n2, c2⟩, ⟨a3, n3, c3⟩, ⟨a4, n4, c4⟩, ⟨a5, n5, c5⟩⟩ := f
  simp only [Fr.val, Fr.cells]
  by_cases h3 : k = 3
  · subst h3
    go_enter Try.func17, Try.ntmps17
    go_wp2
    go_ret
    exact ⟨ret_b (by simp), (Below.refl _ _).alloc (Nat.le_refl _) _⟩
  · have h3b : (k == 3) = false := by simpa using h3
    go_enter Try.func17, Try.ntmps17
    go_wp2
    go_ret
    refine ⟨ret_b ?_, (Below.refl _ _).alloc (Nat.le_refl _) _⟩
    simp [h3]
    try rfl
theorem putT_len (m : Int) (ds : List Dat) (d : Dat) (h : ¬ (ds.length : Int) = m) : putT m ds d = ds ++ [d] ∧ outT m ds d = .zero := by simp [putT, outT, h]
theorem putT_none (m : Int) (ds : List Dat) (d : Dat) (h : (ds.length : Int) = m) (hf : ds.findIdx? Dat.known = none) : putT m ds d = ds ∧ outT m ds d = d := by simp [putT, outT, h, hf]
theorem putT_some (m : Int) (ds : List Dat) (d : Dat) (h : (ds.length : Int) = m) {p : Nat} (hp : p < ds.length) (hf : ds.findIdx? Dat.known = some p) : putT m ds d = ds.eraseIdx p ++ [d] ∧ outT m ds d = ds[p] := by simp [putT, outT, h, hf, hp]
section
variable {P : Program} {ops : Array Oper} {Q : Exit → Act → World → Prop} {md : Region.Mode} {S : World → Prop} {k : Nat}
/-- Number i or number j comes up; neither is k. -/
theorem wpTill_fork2 {i j : Nat} {o o' : Oper} {fuel : Nat} {listed : Array Bool} {a : Act} {w : World} (hr : Region.ready md ops listed = [i, j]) (ho : ops[i]? = some o) (ho' : ops[j]? = some o') (hik : (i != k) = true) (hjk : (j != k) = true)
    (h : ∀ K' : Act → World → Prop, Shut (∀ a w, S w → wpTill P md ops Q S k fuel (listed.setIfInBounds i true) a w → K' a w) → if Region.wanted o (yielded ops a.tmps) = true then Oper.wp P o a w K' Q else K' (a.put o.dst undef) w)
    (h' : ∀ K' : Act → World → Prop, Shut (∀ a w, S w → wpTill P md ops Q S k fuel (listed.setIfInBounds j true) a w → K' a w) → if Region.wanted o' (yielded ops a.tmps) = true then Oper.wp P o' a w K' Q else K' (a.put o'.dst undef) w) :
    wpTill P md ops Q S k (fuel + 1) listed a w := by
  have hik : i ≠ k := by simpa using hik
  have hjk : j ≠ k := by simpa using hjk
  refine ⟨fun h0 => (by rw [hr] at h0; cases h0), fun x hx => ?_⟩
  rw [hr] at hx
  simp only [List.mem_cons, List.not_mem_nil, or_false] at hx
  rcases hx with rfl | rfl
  · exact wpOp_step ho (fun K' hK => h K' (fun a w hS hW => hK a w ⟨fun e => absurd e hik, fun _ => ⟨hS, hW⟩⟩))
  · exact wpOp_step ho' (fun K' hK => h' K' (fun a w hS hW => hK a w ⟨fun e => absurd e hjk, fun _ => ⟨hS, hW⟩⟩))
end
theorem World.ownsRow.lower {b1 b2 e k n : Nat} {v : Value} {xs : List Value} {w : World} (h : w.ownsRow b1 e k v n xs) (hb : b2 ≤ b1) : w.ownsRow b2 e k v n xs := by
  refine ⟨h.1, ?_⟩
  rcases h.2 with hn | ⟨g, cap, cur, e, hbb, rest⟩
  · exact .inl hn
  · exact .inr ⟨g, cap, cur, e, by omega, rest⟩
set_option maxRecDepth 100000 in
set_option maxHeartbeats 4000000 in
theorem without_own {P lo hi : Nat} (b o n c p : Nat) (l : List Fr) (w : World) (h : Rd elF P lo hi ⟨some ⟨b, o, none⟩, n, c⟩ l w) (hp : p < n) (hl : l.length ≤ 100000) :
    Calls Try.prog 36 #[.slice (some ⟨b, o, none⟩) n c, .int .i64 p] w fun e w' => ∃ (a' : Option Addr) (m' c' : Nat), e = .returned (.slice a' m' c') ∧ w'.ownsRow w.heap.size 38 14 (.slice a' m' c') (l.eraseIdx p).length (elF.rows (l.eraseIdx p)) ∧ Below w.heap.size w w' := by
  obtain ⟨i0, hi0, hz0, hz1, hz2⟩ := info_parts info38
  have hn : n = l.length := h.n
  have hnc : n ≤ c := h.le
  have hcm : c ≤ 9223372036854775807 := h.c
  obtain ⟨A, hA⟩ : ∃ A, (if c = p + 1 then some (⟨b, o, none⟩ : Addr) else some ⟨b, o + (p + 1) * 14, none⟩) = A := ⟨_, rfl⟩
  have h1 := h.take p (by omega) (by simp)
  have h2 := h.drop (p + 1) (by omega)
  have h2 : Rd elF P lo hi ⟨A, n - (p + 1), c - (p + 1)⟩ (l.drop (p + 1)) w := by rw [← hA]; exact h2
  have hb0 : Below w.heap.size w (w.alloc (.cells #[] 38)) := (Below.refl w.heap.size w).alloc (Nat.le_refl _) _
  have hrow := World.ownsRow_made (base := w.heap.size) (e := 38) (size := 14) w #[] 0 (Nat.le_refl _) (by decide) rfl
  obtain ⟨r1, w1, hrun1, hown1, hg1, -, -⟩ := app_run (h1.below hb0) i0 _ 45 38 14 rfl rfl hrow Try.underlying45 hi0 hz0 hz1 rfl (by rw [hz2]; decide) (by simp; omega) hb0.size 45
  have hb1 := Below.grow hb0 hg1 (fun q hq => (World.ownsRow.lt hrow q hq).1) hb0.size
  obtain ⟨r2, w2, hrun2, hown2, hg2, -, -⟩ := app_run (h2.below hb1) i0 _ 45 38 14 rfl rfl hown1 Try.underlying45 hi0 hz0 hz1 rfl (by rw [hz2]; decide) (by simp; omega) hb1.size 45
  have hb2 := Below.grow hb1 hg2 (fun q hq => (World.ownsRow.lt hown1 q hq).1) hb1.size
  have e1 : (l.eraseIdx p).length = 0 + (l.take p).length + (l.drop (p + 1)).length := by simp [List.eraseIdx_eq_take_drop_succ]
  have e2 : elF.rows (l.eraseIdx p) = [] ++ elF.rows (l.take p) ++ elF.rows (l.drop (p + 1)) := by simp [List.eraseIdx_eq_take_drop_succ, El.rows_append]
  rw [← e1, ← e2] at hown2
  obtain ⟨a', c', rfl, hR⟩ := rd_of_row (E := elF) (P := P) hown2
  have HH := Lib.hid (And.intro hown2 hb2)
  have h0i : (0 : Int) ≤ (p : Int) + 1 := by omega
  have hjc : p + 1 ≤ c := by omega
  have hjn : p + 1 ≤ n := by omega
  have hpc : p ≤ c := by omega
  have hi1 : (p : Int) + 1 ≤ n := by omega
  have hwp : IntKind.i64.wrap ((p : Int) + 1) = (p : Int) + 1 := IntWalk.i64_in _ (by omega)
  clear h h1 h2 hb0 hrow hown1 hg1 hb1 hown2 hg2 hb2 e1 e2 hR hn
  go_enter Try.func36, Try.ntmps36
  go_wp2_with (first | (at_builtin; first | (refine wpList_append_run rfl (.tmp 6) (.tmp 9) 45 rfl hrun1 ?_) | (refine wpList_append_run rfl (.tmp 11) (.tmp 15) 45 rfl hrun2 ?_)) | fail)
  go_ret
  exact ⟨a', _, c', rfl, HH.out.1, HH.out.2⟩
theorem Fr.laid_heap (g : Fr) (W : World) (q k : Nat) (hk : k ≠ q) : (g.laid W q).heap[k]? = W.heap[k]? := by
  unfold Fr.laid
  iterate 14 rw [Below.heap_setCell _ _ _ _ (by simp only; omega)]
/-- Behind the store of the new slice. -/
structure RMid (P R : Nat) (m : Int) (l2 : List Fr) (ds2 : List Dat) (w W : World) : Prop where
  rb : ∃ (a : Option Addr) (n c : Nat), RB P R m (.slice a n c) l2 ds2 W ∧ Rd elF P (w.heap.size + 2) W.heap.size ⟨a, n, c⟩ l2 W
  kept : Kept R w W
  lt : R < w.heap.size
  res : W.heap[w.heap.size + 1]? = some (.cells Fr.zero.cells 38 (0, 0))
section
variable {P R : Nat} {m : Int} {v : Value} {l l2 : List Fr} {ds ds2 : List Dat} {w w1 W : World}
theorem RMid.of (h : RB P R m v l ds w) (hb : Below w.heap.size w w1) {a : Option Addr} {n c : Nat} (hr : Rd elF P (w.heap.size + 2) w1.heap.size ⟨a, n, c⟩ l2 w1) (hl : l2.length = ds2.length)
    (hd : ∀ j (h1 : j < l2.length) (h2 : j < ds2.length), Deep P 0 P ds2[j] l2[j] w) (hle : (l2.length : Int) ≤ m) (hq : w1.heap[w.heap.size + 1]? = some (.cells Fr.zero.cells 38 (0, 0))) : RMid P R m l2 ds2 w (w1.setCell ⟨R, 1, none⟩ (.slice a n c)) := by
  have hlt := h.lt
  have hs := hb.size
  refine ⟨⟨a, n, c, RB.set h hb (hr.wide (by omega) (Nat.le_refl _)) hl (fun j h1 h2 => (hd j h1 h2).below hb) hle, ?_⟩, ⟨hb.os, hb.tape, hb.output, by simpa [World.setCell] using hb.size, fun k hk hR => ?_⟩, hlt, ?_⟩
  · exact (hr.stay (q := R) (.inl (by omega)) 1 (.slice a n c)).wide (Nat.le_refl _) (by simp [World.setCell])
  · rw [Below.heap_setCell _ _ _ _ (by simp only; omega)]
    exact hb.block k hk
  · rw [Below.heap_setCell _ _ _ _ (by simp only; omega)]
    exact hq
theorem RMid.laid (h : RMid P R m l2 ds2 w W) (g : Fr) : ∃ v2, RB P R m v2 l2 ds2 (g.laid W (w.heap.size + 1)) ∧ Kept R w (g.laid W (w.heap.size + 1)) ∧ (g.laid W (w.heap.size + 1)).heap[w.heap.size + 1]? = some (.cells g.cells 38 (0, 0)) ∧ Fresh l2 v2 w.heap.size := by
  obtain ⟨a, n, c, hR, hr⟩ := h.rb
  have hst := Fr.laid_stay0 g W (w.heap.size + 1)
  have hlt := h.lt
  have hpR := hR.pR
  have hb := Fr.laid_below g (Below.refl (w.heap.size + 1) W) (Nat.le_refl _)
  have hbk : ∀ k, k < W.heap.size → k ≠ w.heap.size + 1 → (g.laid W (w.heap.size + 1)).heap[k]? = W.heap[k]? := fun k _ h2 => g.laid_heap W _ k h2
  refine ⟨.slice a n c, ⟨(hbk R hR.lt (by omega)).trans hR.here, ⟨a, n, c, rfl, ?_⟩, hR.len, fun j a1 a2 => ?_, hR.pR, hR.m1, hR.m2, hR.le⟩, ⟨hb.os.trans h.kept.os, hb.tape.trans h.kept.tape, hb.output.trans h.kept.output, Nat.le_trans h.kept.size hb.size, fun k hk hkR => (hbk k (Nat.lt_of_lt_of_le hk h.kept.size) (by omega)).trans (h.kept.block k hk hkR)⟩, Fr.laid_row g W _ h.res, hr.fresh (Nat.le_add_right _ _)⟩
  · exact (hr.same hst.size fun k a1 _ a2 _ => hbk k a2 (by omega)).wide (by omega) hst.size
  · exact (hR.at_ j a1 a2).same hst.size fun k _ a2 a3 _ => hbk k a3 (by omega)
theorem RMid.laid0 (h : RB P R m v l ds w) (hb : Below w.heap.size w W) (g : Fr) (hq : W.heap[w.heap.size + 1]? = some (.cells Fr.zero.cells 38 (0, 0))) : RB P R m v l ds (g.laid W (w.heap.size + 1)) ∧ Kept R w (g.laid W (w.heap.size + 1)) ∧ (g.laid W (w.heap.size + 1)).heap[w.heap.size + 1]? = some (.cells g.cells 38 (0, 0)) := by
  have h1 := Fr.laid_below g hb (Nat.le_succ w.heap.size)
  exact ⟨h.below h1, Kept.of_below h1, Fr.laid_row g W _ hq⟩
theorem deep_snoc (h : RB P R m v l ds w) {f : Fr} {d : Dat} (hf : Deep P 0 P d f w) : (l ++ [f]).length = (ds ++ [d]).length ∧ ∀ j (h1 : j < (l ++ [f]).length) (h2 : j < (ds ++ [d]).length), Deep P 0 P (ds ++ [d])[j] (l ++ [f])[j] w := by
  have hlen := h.len
  refine ⟨by simp [hlen], fun j h1 h2 => ?_⟩
  by_cases hj : j < l.length
  · rw [List.getElem_append_left hj, List.getElem_append_left (by omega)]
    exact h.at_ j hj (by omega)
  · have e : j = l.length := by simp at h1; omega
    subst e
    have e1 : (l ++ [f])[l.length]'h1 = f := by simp
    have e2 : (ds ++ [d])[l.length]'h2 = d := by rw [List.getElem_append_right (by omega)]; simp [hlen]
    rw [e1, e2]
    exact hf
theorem deep_change (h : RB P R m v l ds w) {f : Fr} {d : Dat} (hf : Deep P 0 P d f w) (p : Nat) (hp : p < l.length) : (l.eraseIdx p ++ [f]).length = (ds.eraseIdx p ++ [d]).length ∧ ∀ j (h1 : j < (l.eraseIdx p ++ [f]).length) (h2 : j < (ds.eraseIdx p ++ [d]).length), Deep P 0 P (ds.eraseIdx p ++ [d])[j] (l.eraseIdx p ++ [f])[j] w := by
  have hlen := h.len
  have hel : (l.eraseIdx p).length = (ds.eraseIdx p).length := by simp [List.length_eraseIdx, hlen]
  have hel2 : (l.eraseIdx p).length = l.length - 1 := by simp [List.length_eraseIdx, hp]
  refine ⟨by simp [hel], fun j h1 h2 => ?_⟩
  by_cases hj : j < (l.eraseIdx p).length
  · rw [List.getElem_append_left hj, List.getElem_append_left (by omega)]
    simp only [List.getElem_eraseIdx]
    by_cases hjp : j < p
    · simp only [hjp, dif_pos]
      exact h.at_ j (by omega) (by omega)
    · simp only [hjp, dif_neg, not_false_eq_true]
      exact h.at_ (j + 1) (by omega) (by omega)
  · have e : j = (l.eraseIdx p).length := by rw [List.length_append, List.length_singleton] at h1; omega
    subst e
    have e1 : (l.eraseIdx p ++ [f])[(l.eraseIdx p).length]'h1 = f := by simp
    have e2 : (ds.eraseIdx p ++ [d])[(l.eraseIdx p).length]'h2 = d := by rw [List.getElem_append_right (by omega)]; simp [hel]
    rw [e1, e2]
    exact hf
end
/-- What Put leaves. -/
def RPut (P R : Nat) (m : Int) (v : Value) (l : List Fr) (ds : List Dat) (d : Dat) (w : World) (e : Ending) (w' : World) : Prop :=
  ∃ (v2 : Value) (l2 : List Fr) (g : Fr), e = .returned (.tuple #[g.val, .bool (decide ((ds.length : Int) = m))]) ∧ RB P R m v2 l2 (putT m ds d) w' ∧ Kept R w w' ∧ Deep P 0 P (outT m ds d) g w' ∧ ((v2 = v ∧ l2 = l) ∨ Fresh l2 v2 w.heap.size)
theorem Kept.deep {P R : Nat} {d : Dat} {f : Fr} {w w' : World} (h : Kept R w w') (hR : P ≤ R) (hf : Deep P 0 P d f w) : Deep P 0 P d f w' := hf.same h.size fun k _ hk hk2 _ => h.block k hk2 (by omega)
set_option maxRecDepth 100000 in
set_option maxHeartbeats 4000000 in
theorem rput_free {P R : Nat} {m : Int} {v : Value} {l : List Fr} {ds : List Dat} {w : World} (f : Fr) (d : Dat) (h : RB P R m v l ds w) (hf : Deep P 0 P d f w) (hfree : (l.length : Int) < m) : Calls Try.prog 25 #[.pointer (some ⟨R, 0, none⟩), .agg #[.int .u8 f.kind, .int .i64 f.fa, .int .i64 f.fi, .int .i64 f.ta, .int .i64 f.ti, .int .i64 f.n, .int .i64 f.token, .int .i64 f.ba, .int .i64 f.bi, .slice f.ms.a f.ms.n f.ms.c, .slice f.fs.a f.fs.n f.fs.c, .slice f.rs.a f.rs.n f.rs.c, .slice f.cs.a f.cs.n f.cs.c, .slice f.ss.a f.ss.n f.ss.c]] w (RPut P R m v l ds d w) := by
  have fR := h.free 1
  obtain ⟨c0, c1⟩ := h.reads
  have hlt := h.lt
  obtain ⟨a, n, c, rfl, hR⟩ := h.rd
  obtain rfl : n = l.length := hR.n
  have hm1 := h.m1
  have hm2 := h.m2
  have hle := h.le
  have hlen := h.len
  have HH := Lib.hid (And.intro h hf)
  have HL := Lib.hid hlen
  obtain ⟨q0, q1⟩ := both_new w (.cells #[.int .u8 f.kind, .int .i64 f.fa, .int .i64 f.fi, .int .i64 f.ta, .int .i64 f.ti, .int .i64 f.n, .int .i64 f.token, .int .i64 f.ba, .int .i64 f.bi, .slice f.ms.a f.ms.n f.ms.c, .slice f.fs.a f.fs.n f.fs.c, .slice f.rs.a f.rs.n f.rs.c, .slice f.cs.a f.cs.n f.cs.c, .slice f.ss.a f.ss.n f.ss.c] 38) (.cells #[.int .u8 0, .int .i64 0, .int .i64 0, .int .i64 0, .int .i64 0, .int .i64 0, .int .i64 0, .int .i64 0, .int .i64 0, .slice none 0 0, .slice none 0 0, .slice none 0 0, .slice none 0 0, .slice none 0 0] 38)
  have hbA : Below w.heap.size w ((w.alloc (.cells #[.int .u8 f.kind, .int .i64 f.fa, .int .i64 f.fi, .int .i64 f.ta, .int .i64 f.ti, .int .i64 f.n, .int .i64 f.token, .int .i64 f.ba, .int .i64 f.bi, .slice f.ms.a f.ms.n f.ms.c, .slice f.fs.a f.fs.n f.fs.c, .slice f.rs.a f.rs.n f.rs.c, .slice f.cs.a f.cs.n f.cs.c, .slice f.ss.a f.ss.n f.ss.c] 38)).alloc (.cells #[.int .u8 0, .int .i64 0, .int .i64 0, .int .i64 0, .int .i64 0, .int .i64 0, .int .i64 0, .int .i64 0, .int .i64 0, .slice none 0 0, .slice none 0 0, .slice none 0 0, .slice none 0 0, .slice none 0 0] 38)) := ((Below.refl _ _).alloc (Nat.le_refl _) _).alloc (by simp) _
  have hsA : ((w.alloc (.cells #[.int .u8 f.kind, .int .i64 f.fa, .int .i64 f.fi, .int .i64 f.ta, .int .i64 f.ti, .int .i64 f.n, .int .i64 f.token, .int .i64 f.ba, .int .i64 f.bi, .slice f.ms.a f.ms.n f.ms.c, .slice f.fs.a f.fs.n f.fs.c, .slice f.rs.a f.rs.n f.rs.c, .slice f.cs.a f.cs.n f.cs.c, .slice f.ss.a f.ss.n f.ss.c] 38)).alloc (.cells #[.int .u8 0, .int .i64 0, .int .i64 0, .int .i64 0, .int .i64 0, .int .i64 0, .int .i64 0, .int .i64 0, .int .i64 0, .slice none 0 0, .slice none 0 0, .slice none 0 0, .slice none 0 0, .slice none 0 0] 38)).heap.size = w.heap.size + 2 := by simp
  have hsA := Nat.le_of_eq hsA.symm
  have HN := Lib.hid (putT_len m ds d (by omega))
  have HD : decide ((ds.length : Int) = m) = false := by simp; omega
  have HD := Lib.hid HD
  clear h hf hlen
  go_enter Try.func25, Try.ntmps25
  go_wp2_with fail
  go_quiet (fail)
  go_wp2_with fail
  obtain ⟨wr, hwr⟩ : ∃ wr, wr = ((w.alloc (.cells #[.int .u8 f.kind, .int .i64 f.fa, .int .i64 f.fi, .int .i64 f.ta, .int .i64 f.ti, .int .i64 f.n, .int .i64 f.token, .int .i64 f.ba, .int .i64 f.bi, .slice f.ms.a f.ms.n f.ms.c, .slice f.fs.a f.fs.n f.fs.c, .slice f.rs.a f.rs.n f.rs.c, .slice f.cs.a f.cs.n f.cs.c, .slice f.ss.a f.ss.n f.ss.c] 38)).alloc (.cells #[.int .u8 0, .int .i64 0, .int .i64 0, .int .i64 0, .int .i64 0, .int .i64 0, .int .i64 0, .int .i64 0, .int .i64 0, .slice none 0 0, .slice none 0 0, .slice none 0 0, .slice none 0 0, .slice none 0 0] 38)).drewN nq := ⟨_, rfl⟩
  have hbA : Below w.heap.size w wr := by rw [hwr]; exact ⟨hbA.os, hbA.tape, hbA.output, hbA.size, hbA.block⟩
  have hsA : w.heap.size + 2 ≤ wr.heap.size := by rw [hwr]; exact hsA
  have q0 : wr.heap[w.heap.size]? = some (.cells #[.int .u8 f.kind, .int .i64 f.fa, .int .i64 f.fi, .int .i64 f.ta, .int .i64 f.ti, .int .i64 f.n, .int .i64 f.token, .int .i64 f.ba, .int .i64 f.bi, .slice f.ms.a f.ms.n f.ms.c, .slice f.fs.a f.fs.n f.fs.c, .slice f.rs.a f.rs.n f.rs.c, .slice f.cs.a f.cs.n f.cs.c, .slice f.ss.a f.ss.n f.ss.c] 38 (0, 0)) := by rw [hwr]; exact q0
  have q1 : wr.heap[w.heap.size + 1]? = some (.cells #[.int .u8 0, .int .i64 0, .int .i64 0, .int .i64 0, .int .i64 0, .int .i64 0, .int .i64 0, .int .i64 0, .int .i64 0, .slice none 0 0, .slice none 0 0, .slice none 0 0, .slice none 0 0, .slice none 0 0] 38 (0, 0)) := by rw [hwr]; exact q1
  rw [← hwr]
  clear hwr
  have c1 : wr.cell? ⟨R, 1, none⟩ = _ := (hbA.cell (p := ⟨R, 1, none⟩) hlt).trans c1
  have fR : wr.frozen? ⟨R, 1, none⟩ = false := (World.frozen?_of_block (w := w) (a := ⟨R, 1, none⟩) (hbA.block R hlt)).trans fR
  have hltR : R < wr.drew.heap.size := Nat.lt_of_lt_of_le hlt hbA.size
  have hltQ : w.heap.size < wr.drew.heap.size := by show _ < wr.heap.size; omega
  have HA := Lib.hid (And.intro hbA (And.intro hsA (And.intro q0 q1)))
  have HR1 : Hid (Rd elF P _ _ ⟨a, l.length, c⟩ l wr.drew) := Lib.hid ((hR.below hbA).same (w' := wr.drew) (Nat.le_refl _) fun _ _ _ _ _ => rfl)
  have hl5 : l.length ≤ 100000 := by omega
  obtain ⟨i0, hi0, hz0, hz1, hz2⟩ := info_parts info38
  have x0 : wr.cell? ⟨w.heap.size, 0, none⟩ = some (.int .u8 f.kind) := (cell_of_row _ _ _ _ _ _ q0).trans rfl
  have x1 : wr.cell? ⟨w.heap.size, 1, none⟩ = some (.int .i64 f.fa) := (cell_of_row _ _ _ _ _ _ q0).trans rfl
  have x2 : wr.cell? ⟨w.heap.size, 2, none⟩ = some (.int .i64 f.fi) := (cell_of_row _ _ _ _ _ _ q0).trans rfl
  have x3 : wr.cell? ⟨w.heap.size, 3, none⟩ = some (.int .i64 f.ta) := (cell_of_row _ _ _ _ _ _ q0).trans rfl
  have x4 : wr.cell? ⟨w.heap.size, 4, none⟩ = some (.int .i64 f.ti) := (cell_of_row _ _ _ _ _ _ q0).trans rfl
  have x5 : wr.cell? ⟨w.heap.size, 5, none⟩ = some (.int .i64 f.n) := (cell_of_row _ _ _ _ _ _ q0).trans rfl
  have x6 : wr.cell? ⟨w.heap.size, 6, none⟩ = some (.int .i64 f.token) := (cell_of_row _ _ _ _ _ _ q0).trans rfl
  have x7 : wr.cell? ⟨w.heap.size, 7, none⟩ = some (.int .i64 f.ba) := (cell_of_row _ _ _ _ _ _ q0).trans rfl
  have x8 : wr.cell? ⟨w.heap.size, 8, none⟩ = some (.int .i64 f.bi) := (cell_of_row _ _ _ _ _ _ q0).trans rfl
  have x9 : wr.cell? ⟨w.heap.size, 9, none⟩ = some (.slice f.ms.a f.ms.n f.ms.c) := (cell_of_row _ _ _ _ _ _ q0).trans rfl
  have x10 : wr.cell? ⟨w.heap.size, 10, none⟩ = some (.slice f.fs.a f.fs.n f.fs.c) := (cell_of_row _ _ _ _ _ _ q0).trans rfl
  have x11 : wr.cell? ⟨w.heap.size, 11, none⟩ = some (.slice f.rs.a f.rs.n f.rs.c) := (cell_of_row _ _ _ _ _ _ q0).trans rfl
  have x12 : wr.cell? ⟨w.heap.size, 12, none⟩ = some (.slice f.cs.a f.cs.n f.cs.c) := (cell_of_row _ _ _ _ _ _ q0).trans rfl
  have x13 : wr.cell? ⟨w.heap.size, 13, none⟩ = some (.slice f.ss.a f.ss.n f.ss.c) := (cell_of_row _ _ _ _ _ _ q0).trans rfl
  clear hbA hsA q0 q1 hR c0 hlt
  go_upto_region 2 with fail
  go_cut [18] (fun _ wx => RMid P R m (l ++ [f]) (ds ++ [d]) w wx)
  case first =>
    refine wp_region_any (by kernel_rfl) ?_
    try (change wpAny _ _ _ _ _ _ _ (World.drew _))
    refine wpAny_take (i := 0) (v := ?_) rfl (by kernel_rfl) (by kernel_rfl) (by kernel_rfl) (fun _ _ _ h => h) (Or.inl ⟨by kernel_rfl, ?_⟩) ?_
    rotate_left
    · (intro w; go_simp) <;> with_reducible rfl
    refine wpAny_take (i := 2) (v := ?_) rfl (by kernel_rfl) (by kernel_rfl) (by kernel_rfl) (fun _ _ _ h => h) (Or.inl ⟨by kernel_rfl, ?_⟩) ?_
    rotate_left
    · (intro w; go_simp) <;> with_reducible rfl
    refine wpAny_take (i := 3) (v := ?_) rfl (by kernel_rfl) (by kernel_rfl) (by kernel_rfl) (fun _ _ _ h => h) (Or.inl ⟨by kernel_rfl, ?_⟩) ?_
    rotate_left
    · (intro w; go_simp) <;> with_reducible rfl
    refine wpAny_take (i := 4) (v := ?_) rfl (by kernel_rfl) (by kernel_rfl) (by kernel_rfl) (fun _ _ _ h => h) (Or.inl ⟨by kernel_rfl, ?_⟩) ?_
    rotate_left
    · (intro w; go_simp) <;> with_reducible rfl
    refine wpAny_of_till (S := fun x => x.cell? ⟨R, 1, none⟩ = some (.slice a l.length c) ∧ x.cell? ⟨w.heap.size, 0, none⟩ = some (.int .u8 f.kind) ∧ x.cell? ⟨w.heap.size, 1, none⟩ = some (.int .i64 f.fa) ∧ x.cell? ⟨w.heap.size, 2, none⟩ = some (.int .i64 f.fi) ∧ x.cell? ⟨w.heap.size, 3, none⟩ = some (.int .i64 f.ta) ∧ x.cell? ⟨w.heap.size, 4, none⟩ = some (.int .i64 f.ti) ∧ x.cell? ⟨w.heap.size, 5, none⟩ = some (.int .i64 f.n) ∧ x.cell? ⟨w.heap.size, 6, none⟩ = some (.int .i64 f.token) ∧ x.cell? ⟨w.heap.size, 7, none⟩ = some (.int .i64 f.ba) ∧ x.cell? ⟨w.heap.size, 8, none⟩ = some (.int .i64 f.bi) ∧ x.cell? ⟨w.heap.size, 9, none⟩ = some (.slice f.ms.a f.ms.n f.ms.c) ∧ x.cell? ⟨w.heap.size, 10, none⟩ = some (.slice f.fs.a f.fs.n f.fs.c) ∧ x.cell? ⟨w.heap.size, 11, none⟩ = some (.slice f.rs.a f.rs.n f.rs.c) ∧ x.cell? ⟨w.heap.size, 12, none⟩ = some (.slice f.cs.a f.cs.n f.cs.c) ∧ x.cell? ⟨w.heap.size, 13, none⟩ = some (.slice f.ss.a f.ss.n f.ss.c)) (k := 12) _ _ _ _ ?_
    have hS : (fun x : World => x.cell? ⟨R, 1, none⟩ = some (.slice a l.length c) ∧ x.cell? ⟨w.heap.size, 0, none⟩ = some (.int .u8 f.kind) ∧ x.cell? ⟨w.heap.size, 1, none⟩ = some (.int .i64 f.fa) ∧ x.cell? ⟨w.heap.size, 2, none⟩ = some (.int .i64 f.fi) ∧ x.cell? ⟨w.heap.size, 3, none⟩ = some (.int .i64 f.ta) ∧ x.cell? ⟨w.heap.size, 4, none⟩ = some (.int .i64 f.ti) ∧ x.cell? ⟨w.heap.size, 5, none⟩ = some (.int .i64 f.n) ∧ x.cell? ⟨w.heap.size, 6, none⟩ = some (.int .i64 f.token) ∧ x.cell? ⟨w.heap.size, 7, none⟩ = some (.int .i64 f.ba) ∧ x.cell? ⟨w.heap.size, 8, none⟩ = some (.int .i64 f.bi) ∧ x.cell? ⟨w.heap.size, 9, none⟩ = some (.slice f.ms.a f.ms.n f.ms.c) ∧ x.cell? ⟨w.heap.size, 10, none⟩ = some (.slice f.fs.a f.fs.n f.fs.c) ∧ x.cell? ⟨w.heap.size, 11, none⟩ = some (.slice f.rs.a f.rs.n f.rs.c) ∧ x.cell? ⟨w.heap.size, 12, none⟩ = some (.slice f.cs.a f.cs.n f.cs.c) ∧ x.cell? ⟨w.heap.size, 13, none⟩ = some (.slice f.ss.a f.ss.n f.ss.c)) _ := ⟨c1, x0, x1, x2, x3, x4, x5, x6, x7, x8, x9, x10, x11, x12, x13⟩
    refine wpTill_take (i := 5) (v := (.slice a l.length c)) rfl (by kernel_rfl) (by kernel_rfl) (by kernel_rfl) (by kernel_rfl) (fun _ _ _ h => h) (Or.inl ⟨by kernel_rfl, ?_⟩) hS ?_
    · intro w hSw; (try dsimp only at hSw); (try obtain ⟨x0, x1, x2, x3, x4, x5, x6, x7, x8, x9, x10, x11, x12, x13, x14⟩ := hSw); go_simp
    try simp only [Act.put, List.setIfInBounds_toArray, List.set_cons_zero, List.set_cons_succ]
    refine wpTill_take (i := 7) (v := (.agg #[.int .u8 f.kind, .int .i64 f.fa, .int .i64 f.fi, .int .i64 f.ta, .int .i64 f.ti, .int .i64 f.n, .int .i64 f.token, .int .i64 f.ba, .int .i64 f.bi, .slice f.ms.a f.ms.n f.ms.c, .slice f.fs.a f.fs.n f.fs.c, .slice f.rs.a f.rs.n f.rs.c, .slice f.cs.a f.cs.n f.cs.c, .slice f.ss.a f.ss.n f.ss.c])) rfl (by kernel_rfl) (by kernel_rfl) (by kernel_rfl) (by kernel_rfl) (fun _ _ _ h => h) (Or.inl ⟨by kernel_rfl, ?_⟩) hS ?_
    · intro w hSw; (try dsimp only at hSw); (try obtain ⟨x0, x1, x2, x3, x4, x5, x6, x7, x8, x9, x10, x11, x12, x13, x14⟩ := hSw); go_simp
    try simp only [Act.put, List.setIfInBounds_toArray, List.set_cons_zero, List.set_cons_succ]
    clear hS
    have hb : Below wr.drew.heap.size wr.drew wr.drew := Below.refl _ _
    refine wpTill_fork2 (i := 1) (j := 8) (by kernel_rfl) rfl rfl (by kernel_rfl) (by kernel_rfl) (fun K hK => ?_) (fun K hK => ?_)
    · go_simp
      have hrow := World.ownsRow_made (base := wr.drew.heap.size) (e := 38) (size := 14) (wr.drew) #[] 0 hb.size (by decide) rfl
      have hb := hb.alloc hb.size (.cells #[] 38)
      have hS : (fun x : World => x.cell? ⟨R, 1, none⟩ = some (.slice a l.length c) ∧ x.cell? ⟨w.heap.size, 0, none⟩ = some (.int .u8 f.kind) ∧ x.cell? ⟨w.heap.size, 1, none⟩ = some (.int .i64 f.fa) ∧ x.cell? ⟨w.heap.size, 2, none⟩ = some (.int .i64 f.fi) ∧ x.cell? ⟨w.heap.size, 3, none⟩ = some (.int .i64 f.ta) ∧ x.cell? ⟨w.heap.size, 4, none⟩ = some (.int .i64 f.ti) ∧ x.cell? ⟨w.heap.size, 5, none⟩ = some (.int .i64 f.n) ∧ x.cell? ⟨w.heap.size, 6, none⟩ = some (.int .i64 f.token) ∧ x.cell? ⟨w.heap.size, 7, none⟩ = some (.int .i64 f.ba) ∧ x.cell? ⟨w.heap.size, 8, none⟩ = some (.int .i64 f.bi) ∧ x.cell? ⟨w.heap.size, 9, none⟩ = some (.slice f.ms.a f.ms.n f.ms.c) ∧ x.cell? ⟨w.heap.size, 10, none⟩ = some (.slice f.fs.a f.fs.n f.fs.c) ∧ x.cell? ⟨w.heap.size, 11, none⟩ = some (.slice f.rs.a f.rs.n f.rs.c) ∧ x.cell? ⟨w.heap.size, 12, none⟩ = some (.slice f.cs.a f.cs.n f.cs.c) ∧ x.cell? ⟨w.heap.size, 13, none⟩ = some (.slice f.ss.a f.ss.n f.ss.c)) ((wr.drew).alloc (.cells #[] 38)) := ⟨(hb.cell (p := ⟨R, 1, none⟩) hltR).trans c1, (hb.cell (p := ⟨w.heap.size, 0, none⟩) hltQ).trans x0, (hb.cell (p := ⟨w.heap.size, 1, none⟩) hltQ).trans x1, (hb.cell (p := ⟨w.heap.size, 2, none⟩) hltQ).trans x2, (hb.cell (p := ⟨w.heap.size, 3, none⟩) hltQ).trans x3, (hb.cell (p := ⟨w.heap.size, 4, none⟩) hltQ).trans x4, (hb.cell (p := ⟨w.heap.size, 5, none⟩) hltQ).trans x5, (hb.cell (p := ⟨w.heap.size, 6, none⟩) hltQ).trans x6, (hb.cell (p := ⟨w.heap.size, 7, none⟩) hltQ).trans x7, (hb.cell (p := ⟨w.heap.size, 8, none⟩) hltQ).trans x8, (hb.cell (p := ⟨w.heap.size, 9, none⟩) hltQ).trans x9, (hb.cell (p := ⟨w.heap.size, 10, none⟩) hltQ).trans x10, (hb.cell (p := ⟨w.heap.size, 11, none⟩) hltQ).trans x11, (hb.cell (p := ⟨w.heap.size, 12, none⟩) hltQ).trans x12, (hb.cell (p := ⟨w.heap.size, 13, none⟩) hltQ).trans x13⟩
      refine hK.out _ _ hS ?_; clear hK K
      try simp only [Act.put, List.setIfInBounds_toArray, List.set_cons_zero, List.set_cons_succ]
      refine wpTill_fork2 (i := 6) (j := 8) (by kernel_rfl) rfl rfl (by kernel_rfl) (by kernel_rfl) (fun K hK => ?_) (fun K hK => ?_)
      · obtain ⟨r1, wv1, hrun1, hown1, hg1, hat1, -⟩ := app_run (HR1.out.below hb) i0 _ 45 38 14 rfl rfl hrow Try.underlying45 hi0 hz0 hz1 rfl (by rw [hz2]; decide) (by simp; omega) hb.size 45
        refine step_append_run rfl (.tmp 19) (.tmp 23) 45 rfl hrun1 ?_
        try go_simp
        have hb := Below.grow hb hg1 (fun q hq => (World.ownsRow.lt hrow q hq).1) hb.size
        have hrow := hown1
        clear hrun1 hown1 hg1 hat1
        have hS : (fun x : World => x.cell? ⟨R, 1, none⟩ = some (.slice a l.length c) ∧ x.cell? ⟨w.heap.size, 0, none⟩ = some (.int .u8 f.kind) ∧ x.cell? ⟨w.heap.size, 1, none⟩ = some (.int .i64 f.fa) ∧ x.cell? ⟨w.heap.size, 2, none⟩ = some (.int .i64 f.fi) ∧ x.cell? ⟨w.heap.size, 3, none⟩ = some (.int .i64 f.ta) ∧ x.cell? ⟨w.heap.size, 4, none⟩ = some (.int .i64 f.ti) ∧ x.cell? ⟨w.heap.size, 5, none⟩ = some (.int .i64 f.n) ∧ x.cell? ⟨w.heap.size, 6, none⟩ = some (.int .i64 f.token) ∧ x.cell? ⟨w.heap.size, 7, none⟩ = some (.int .i64 f.ba) ∧ x.cell? ⟨w.heap.size, 8, none⟩ = some (.int .i64 f.bi) ∧ x.cell? ⟨w.heap.size, 9, none⟩ = some (.slice f.ms.a f.ms.n f.ms.c) ∧ x.cell? ⟨w.heap.size, 10, none⟩ = some (.slice f.fs.a f.fs.n f.fs.c) ∧ x.cell? ⟨w.heap.size, 11, none⟩ = some (.slice f.rs.a f.rs.n f.rs.c) ∧ x.cell? ⟨w.heap.size, 12, none⟩ = some (.slice f.cs.a f.cs.n f.cs.c) ∧ x.cell? ⟨w.heap.size, 13, none⟩ = some (.slice f.ss.a f.ss.n f.ss.c)) (wv1) := ⟨(hb.cell (p := ⟨R, 1, none⟩) hltR).trans c1, (hb.cell (p := ⟨w.heap.size, 0, none⟩) hltQ).trans x0, (hb.cell (p := ⟨w.heap.size, 1, none⟩) hltQ).trans x1, (hb.cell (p := ⟨w.heap.size, 2, none⟩) hltQ).trans x2, (hb.cell (p := ⟨w.heap.size, 3, none⟩) hltQ).trans x3, (hb.cell (p := ⟨w.heap.size, 4, none⟩) hltQ).trans x4, (hb.cell (p := ⟨w.heap.size, 5, none⟩) hltQ).trans x5, (hb.cell (p := ⟨w.heap.size, 6, none⟩) hltQ).trans x6, (hb.cell (p := ⟨w.heap.size, 7, none⟩) hltQ).trans x7, (hb.cell (p := ⟨w.heap.size, 8, none⟩) hltQ).trans x8, (hb.cell (p := ⟨w.heap.size, 9, none⟩) hltQ).trans x9, (hb.cell (p := ⟨w.heap.size, 10, none⟩) hltQ).trans x10, (hb.cell (p := ⟨w.heap.size, 11, none⟩) hltQ).trans x11, (hb.cell (p := ⟨w.heap.size, 12, none⟩) hltQ).trans x12, (hb.cell (p := ⟨w.heap.size, 13, none⟩) hltQ).trans x13⟩
        refine hK.out _ _ hS ?_; clear hK K
        try simp only [Act.put, List.setIfInBounds_toArray, List.set_cons_zero, List.set_cons_succ]
        refine wpTill_one (i := 8) (by kernel_rfl) rfl (by kernel_rfl) (fun K hK => ?_)
        go_simp
        obtain ⟨C, hCd⟩ : ∃ C, C = (wv1).heap.size := ⟨_, rfl⟩
        have hCd2 : C = wv1.heap.size := by rw [hCd]; try simp
        have hC : ((wv1).alloc (.cells f.cells 38)).heap[C]? = some (.cells f.cells 38 (0, 0)) := by rw [hCd]; exact heap_alloc_new _ _
        have hCl : C < ((wv1).alloc (.cells f.cells 38)).heap.size := (Array.getElem?_eq_some_iff.1 hC).1
        have hb := hb.alloc hb.size (.cells f.cells 38)
        have hCn : ∀ q, (r1 : Value).ownBlock = some q → q ≠ C := fun q hq => by have := (World.ownsRow.lt hrow q hq).2; omega
        have hrow := hrow.alloc (.cells f.cells 38)
        have hS : (fun x : World => x.cell? ⟨R, 1, none⟩ = some (.slice a l.length c) ∧ x.cell? ⟨w.heap.size, 0, none⟩ = some (.int .u8 f.kind) ∧ x.cell? ⟨w.heap.size, 1, none⟩ = some (.int .i64 f.fa) ∧ x.cell? ⟨w.heap.size, 2, none⟩ = some (.int .i64 f.fi) ∧ x.cell? ⟨w.heap.size, 3, none⟩ = some (.int .i64 f.ta) ∧ x.cell? ⟨w.heap.size, 4, none⟩ = some (.int .i64 f.ti) ∧ x.cell? ⟨w.heap.size, 5, none⟩ = some (.int .i64 f.n) ∧ x.cell? ⟨w.heap.size, 6, none⟩ = some (.int .i64 f.token) ∧ x.cell? ⟨w.heap.size, 7, none⟩ = some (.int .i64 f.ba) ∧ x.cell? ⟨w.heap.size, 8, none⟩ = some (.int .i64 f.bi) ∧ x.cell? ⟨w.heap.size, 9, none⟩ = some (.slice f.ms.a f.ms.n f.ms.c) ∧ x.cell? ⟨w.heap.size, 10, none⟩ = some (.slice f.fs.a f.fs.n f.fs.c) ∧ x.cell? ⟨w.heap.size, 11, none⟩ = some (.slice f.rs.a f.rs.n f.rs.c) ∧ x.cell? ⟨w.heap.size, 12, none⟩ = some (.slice f.cs.a f.cs.n f.cs.c) ∧ x.cell? ⟨w.heap.size, 13, none⟩ = some (.slice f.ss.a f.ss.n f.ss.c)) ((wv1).alloc (.cells f.cells 38)) := ⟨(hb.cell (p := ⟨R, 1, none⟩) hltR).trans c1, (hb.cell (p := ⟨w.heap.size, 0, none⟩) hltQ).trans x0, (hb.cell (p := ⟨w.heap.size, 1, none⟩) hltQ).trans x1, (hb.cell (p := ⟨w.heap.size, 2, none⟩) hltQ).trans x2, (hb.cell (p := ⟨w.heap.size, 3, none⟩) hltQ).trans x3, (hb.cell (p := ⟨w.heap.size, 4, none⟩) hltQ).trans x4, (hb.cell (p := ⟨w.heap.size, 5, none⟩) hltQ).trans x5, (hb.cell (p := ⟨w.heap.size, 6, none⟩) hltQ).trans x6, (hb.cell (p := ⟨w.heap.size, 7, none⟩) hltQ).trans x7, (hb.cell (p := ⟨w.heap.size, 8, none⟩) hltQ).trans x8, (hb.cell (p := ⟨w.heap.size, 9, none⟩) hltQ).trans x9, (hb.cell (p := ⟨w.heap.size, 10, none⟩) hltQ).trans x10, (hb.cell (p := ⟨w.heap.size, 11, none⟩) hltQ).trans x11, (hb.cell (p := ⟨w.heap.size, 12, none⟩) hltQ).trans x12, (hb.cell (p := ⟨w.heap.size, 13, none⟩) hltQ).trans x13⟩
        refine hK.out _ _ hS ?_; clear hK K
        try simp only [Act.put, List.setIfInBounds_toArray, List.set_cons_zero, List.set_cons_succ]
        refine wpTill_one (i := 9) (by kernel_rfl) rfl (by kernel_rfl) (fun K hK => ?_)
        obtain ⟨r2, wv2, hrun2, hown2, hg2, hat2, -⟩ := app_run ((rd_one (P := P) hC)) i0 _ 45 38 14 rfl rfl hrow Try.underlying45 hi0 hz0 hz1 rfl (by rw [hz2]; decide) (by simp; omega) hb.size 45
        rw [hCd2] at hrun2
        refine step_append_run rfl (.tmp 24) (.tmp 26) 45 rfl hrun2 ?_
        try go_simp
        have hb := Below.grow hb hg2 (fun q hq => (World.ownsRow.lt hrow q hq).1) hb.size
        have hrow := hown2
        clear hrun2 hown2 hg2 hat2
        have hS : (fun x : World => x.cell? ⟨R, 1, none⟩ = some (.slice a l.length c) ∧ x.cell? ⟨w.heap.size, 0, none⟩ = some (.int .u8 f.kind) ∧ x.cell? ⟨w.heap.size, 1, none⟩ = some (.int .i64 f.fa) ∧ x.cell? ⟨w.heap.size, 2, none⟩ = some (.int .i64 f.fi) ∧ x.cell? ⟨w.heap.size, 3, none⟩ = some (.int .i64 f.ta) ∧ x.cell? ⟨w.heap.size, 4, none⟩ = some (.int .i64 f.ti) ∧ x.cell? ⟨w.heap.size, 5, none⟩ = some (.int .i64 f.n) ∧ x.cell? ⟨w.heap.size, 6, none⟩ = some (.int .i64 f.token) ∧ x.cell? ⟨w.heap.size, 7, none⟩ = some (.int .i64 f.ba) ∧ x.cell? ⟨w.heap.size, 8, none⟩ = some (.int .i64 f.bi) ∧ x.cell? ⟨w.heap.size, 9, none⟩ = some (.slice f.ms.a f.ms.n f.ms.c) ∧ x.cell? ⟨w.heap.size, 10, none⟩ = some (.slice f.fs.a f.fs.n f.fs.c) ∧ x.cell? ⟨w.heap.size, 11, none⟩ = some (.slice f.rs.a f.rs.n f.rs.c) ∧ x.cell? ⟨w.heap.size, 12, none⟩ = some (.slice f.cs.a f.cs.n f.cs.c) ∧ x.cell? ⟨w.heap.size, 13, none⟩ = some (.slice f.ss.a f.ss.n f.ss.c)) (wv2) := ⟨(hb.cell (p := ⟨R, 1, none⟩) hltR).trans c1, (hb.cell (p := ⟨w.heap.size, 0, none⟩) hltQ).trans x0, (hb.cell (p := ⟨w.heap.size, 1, none⟩) hltQ).trans x1, (hb.cell (p := ⟨w.heap.size, 2, none⟩) hltQ).trans x2, (hb.cell (p := ⟨w.heap.size, 3, none⟩) hltQ).trans x3, (hb.cell (p := ⟨w.heap.size, 4, none⟩) hltQ).trans x4, (hb.cell (p := ⟨w.heap.size, 5, none⟩) hltQ).trans x5, (hb.cell (p := ⟨w.heap.size, 6, none⟩) hltQ).trans x6, (hb.cell (p := ⟨w.heap.size, 7, none⟩) hltQ).trans x7, (hb.cell (p := ⟨w.heap.size, 8, none⟩) hltQ).trans x8, (hb.cell (p := ⟨w.heap.size, 9, none⟩) hltQ).trans x9, (hb.cell (p := ⟨w.heap.size, 10, none⟩) hltQ).trans x10, (hb.cell (p := ⟨w.heap.size, 11, none⟩) hltQ).trans x11, (hb.cell (p := ⟨w.heap.size, 12, none⟩) hltQ).trans x12, (hb.cell (p := ⟨w.heap.size, 13, none⟩) hltQ).trans x13⟩
        refine hK.out _ _ hS ?_; clear hK K
        try simp only [Act.put, List.setIfInBounds_toArray, List.set_cons_zero, List.set_cons_succ]
        have hrow : wv2.ownsRow wr.drew.heap.size 38 14 r2 (l ++ [f]).length (elF.rows (l ++ [f])) := by
          have e1 : (l ++ [f]).length = 0 + l.length + [f].length := by simp
          have e2 : elF.rows (l ++ [f]) = [] ++ elF.rows l ++ elF.rows [f] := by simp [El.rows_append]
          rw [e1, e2]; exact hrow
        obtain ⟨aq, nq, cq, rfl, hQ⟩ : ∃ (aq : Option Addr) (nq cq : Nat), r2 = .slice aq nq cq ∧ Rd elF P wr.drew.heap.size wv2.heap.size ⟨aq, nq, cq⟩ (l ++ [f]) wv2 := by
          obtain ⟨aq, cq, e, hQ⟩ := rd_of_row (E := elF) (P := P) hrow
          exact ⟨aq, _, cq, e, hQ⟩
        have HQ := Lib.hid hQ
        clear hQ
        refine wpTill_one (i := 10) (by kernel_rfl) rfl (by kernel_rfl) (fun K hK => ?_)
        go_simp
        refine hK.out _ _ hS ?_; clear hK K
        try simp only [Act.put, List.setIfInBounds_toArray, List.set_cons_zero, List.set_cons_succ]
        refine wpTill_one (i := 11) (by kernel_rfl) rfl (by kernel_rfl) (fun K hK => ?_)
        go_simp
        refine hK.out _ _ hS ?_; clear hK K
        try simp only [Act.put, List.setIfInBounds_toArray, List.set_cons_zero, List.set_cons_succ]
        have fR2 : wv2.frozen? ⟨R, 1, none⟩ = false := (World.frozen?_of_block (w := wr) (a := ⟨R, 1, none⟩) (hb.block R hltR)).trans fR
        have cR2 : wv2.cell? ⟨R, 1, none⟩ = some (.slice a l.length c) := (hb.cell (p := ⟨R, 1, none⟩) hltR).trans c1
        have HRow := Lib.hid hrow
        have HBe := Lib.hid hb
        clear hS hrow hb hC hCl hCn hCd hCd2 x0 x1 x2 x3 x4 x5 x6 x7 x8 x9 x10 x11 x12 x13
        refine wpTill_end (by kernel_rfl) rfl (fun K hK => ?_)
        go_simp
        refine hK.out _ _ ?_; clear hK K
        refine wpAny_done (by kernel_rfl) ?_ _
        go_simp
        go_wp2_with fail
        go_meet
        case rel =>
          have hw := undrew HBe.out
          have hbw := HA.out.1.trans (hw.mono HA.out.1.size)
          have hs := deep_snoc HH.out.1 HH.out.2
          exact RMid.of HH.out.1 hbw (HQ.out.wide (by have := HA.out.2.1; show w.heap.size + 2 ≤ wr.heap.size; omega) (Nat.le_refl _)) hs.1 hs.2 (by simp; omega) ((hw.block _ (by have := HA.out.2.1; omega)).trans HA.out.2.2.2)
      · go_simp
        obtain ⟨C, hCd⟩ : ∃ C, C = ((wr.drew).alloc (.cells #[] 38)).heap.size := ⟨_, rfl⟩
        have hCd2 : C = wr.heap.size + 1 := by rw [hCd]; try simp
        have hC : (((wr.drew).alloc (.cells #[] 38)).alloc (.cells f.cells 38)).heap[C]? = some (.cells f.cells 38 (0, 0)) := by rw [hCd]; exact heap_alloc_new _ _
        have hCl : C < (((wr.drew).alloc (.cells #[] 38)).alloc (.cells f.cells 38)).heap.size := (Array.getElem?_eq_some_iff.1 hC).1
        have hb := hb.alloc hb.size (.cells f.cells 38)
        have hCn : ∀ q, (Value.slice (some ⟨wr.heap.size, 0, none⟩) 0 0 : Value).ownBlock = some q → q ≠ C := fun q hq => by have := (World.ownsRow.lt hrow q hq).2; omega
        have hrow := hrow.alloc (.cells f.cells 38)
        have hS : (fun x : World => x.cell? ⟨R, 1, none⟩ = some (.slice a l.length c) ∧ x.cell? ⟨w.heap.size, 0, none⟩ = some (.int .u8 f.kind) ∧ x.cell? ⟨w.heap.size, 1, none⟩ = some (.int .i64 f.fa) ∧ x.cell? ⟨w.heap.size, 2, none⟩ = some (.int .i64 f.fi) ∧ x.cell? ⟨w.heap.size, 3, none⟩ = some (.int .i64 f.ta) ∧ x.cell? ⟨w.heap.size, 4, none⟩ = some (.int .i64 f.ti) ∧ x.cell? ⟨w.heap.size, 5, none⟩ = some (.int .i64 f.n) ∧ x.cell? ⟨w.heap.size, 6, none⟩ = some (.int .i64 f.token) ∧ x.cell? ⟨w.heap.size, 7, none⟩ = some (.int .i64 f.ba) ∧ x.cell? ⟨w.heap.size, 8, none⟩ = some (.int .i64 f.bi) ∧ x.cell? ⟨w.heap.size, 9, none⟩ = some (.slice f.ms.a f.ms.n f.ms.c) ∧ x.cell? ⟨w.heap.size, 10, none⟩ = some (.slice f.fs.a f.fs.n f.fs.c) ∧ x.cell? ⟨w.heap.size, 11, none⟩ = some (.slice f.rs.a f.rs.n f.rs.c) ∧ x.cell? ⟨w.heap.size, 12, none⟩ = some (.slice f.cs.a f.cs.n f.cs.c) ∧ x.cell? ⟨w.heap.size, 13, none⟩ = some (.slice f.ss.a f.ss.n f.ss.c)) (((wr.drew).alloc (.cells #[] 38)).alloc (.cells f.cells 38)) := ⟨(hb.cell (p := ⟨R, 1, none⟩) hltR).trans c1, (hb.cell (p := ⟨w.heap.size, 0, none⟩) hltQ).trans x0, (hb.cell (p := ⟨w.heap.size, 1, none⟩) hltQ).trans x1, (hb.cell (p := ⟨w.heap.size, 2, none⟩) hltQ).trans x2, (hb.cell (p := ⟨w.heap.size, 3, none⟩) hltQ).trans x3, (hb.cell (p := ⟨w.heap.size, 4, none⟩) hltQ).trans x4, (hb.cell (p := ⟨w.heap.size, 5, none⟩) hltQ).trans x5, (hb.cell (p := ⟨w.heap.size, 6, none⟩) hltQ).trans x6, (hb.cell (p := ⟨w.heap.size, 7, none⟩) hltQ).trans x7, (hb.cell (p := ⟨w.heap.size, 8, none⟩) hltQ).trans x8, (hb.cell (p := ⟨w.heap.size, 9, none⟩) hltQ).trans x9, (hb.cell (p := ⟨w.heap.size, 10, none⟩) hltQ).trans x10, (hb.cell (p := ⟨w.heap.size, 11, none⟩) hltQ).trans x11, (hb.cell (p := ⟨w.heap.size, 12, none⟩) hltQ).trans x12, (hb.cell (p := ⟨w.heap.size, 13, none⟩) hltQ).trans x13⟩
        refine hK.out _ _ hS ?_; clear hK K
        try simp only [Act.put, List.setIfInBounds_toArray, List.set_cons_zero, List.set_cons_succ]
        refine wpTill_one (i := 6) (by kernel_rfl) rfl (by kernel_rfl) (fun K hK => ?_)
        obtain ⟨r1, wv1, hrun1, hown1, hg1, hat1, -⟩ := app_run (HR1.out.below hb) i0 _ 45 38 14 rfl rfl hrow Try.underlying45 hi0 hz0 hz1 rfl (by rw [hz2]; decide) (by simp; omega) hb.size 45
        refine step_append_run rfl (.tmp 19) (.tmp 23) 45 rfl hrun1 ?_
        try go_simp
        have hC : wv1.heap[C]? = some (.cells f.cells 38 (0, 0)) := (hg1.block C hCl (fun e => hCn C e.symm rfl)).trans hC
        have hCn : ∀ q, r1.ownBlock = some q → q ≠ C := fun q hq => by
          rcases hat1 with e | e
          · exact hCn q (e.symm.trans hq)
          · rw [e] at hq; cases hq; omega
        have hCl : C < wv1.heap.size := Nat.lt_of_lt_of_le hCl hg1.size
        have hb := Below.grow hb hg1 (fun q hq => (World.ownsRow.lt hrow q hq).1) hb.size
        have hrow := hown1
        clear hrun1 hown1 hg1 hat1
        have hS : (fun x : World => x.cell? ⟨R, 1, none⟩ = some (.slice a l.length c) ∧ x.cell? ⟨w.heap.size, 0, none⟩ = some (.int .u8 f.kind) ∧ x.cell? ⟨w.heap.size, 1, none⟩ = some (.int .i64 f.fa) ∧ x.cell? ⟨w.heap.size, 2, none⟩ = some (.int .i64 f.fi) ∧ x.cell? ⟨w.heap.size, 3, none⟩ = some (.int .i64 f.ta) ∧ x.cell? ⟨w.heap.size, 4, none⟩ = some (.int .i64 f.ti) ∧ x.cell? ⟨w.heap.size, 5, none⟩ = some (.int .i64 f.n) ∧ x.cell? ⟨w.heap.size, 6, none⟩ = some (.int .i64 f.token) ∧ x.cell? ⟨w.heap.size, 7, none⟩ = some (.int .i64 f.ba) ∧ x.cell? ⟨w.heap.size, 8, none⟩ = some (.int .i64 f.bi) ∧ x.cell? ⟨w.heap.size, 9, none⟩ = some (.slice f.ms.a f.ms.n f.ms.c) ∧ x.cell? ⟨w.heap.size, 10, none⟩ = some (.slice f.fs.a f.fs.n f.fs.c) ∧ x.cell? ⟨w.heap.size, 11, none⟩ = some (.slice f.rs.a f.rs.n f.rs.c) ∧ x.cell? ⟨w.heap.size, 12, none⟩ = some (.slice f.cs.a f.cs.n f.cs.c) ∧ x.cell? ⟨w.heap.size, 13, none⟩ = some (.slice f.ss.a f.ss.n f.ss.c)) (wv1) := ⟨(hb.cell (p := ⟨R, 1, none⟩) hltR).trans c1, (hb.cell (p := ⟨w.heap.size, 0, none⟩) hltQ).trans x0, (hb.cell (p := ⟨w.heap.size, 1, none⟩) hltQ).trans x1, (hb.cell (p := ⟨w.heap.size, 2, none⟩) hltQ).trans x2, (hb.cell (p := ⟨w.heap.size, 3, none⟩) hltQ).trans x3, (hb.cell (p := ⟨w.heap.size, 4, none⟩) hltQ).trans x4, (hb.cell (p := ⟨w.heap.size, 5, none⟩) hltQ).trans x5, (hb.cell (p := ⟨w.heap.size, 6, none⟩) hltQ).trans x6, (hb.cell (p := ⟨w.heap.size, 7, none⟩) hltQ).trans x7, (hb.cell (p := ⟨w.heap.size, 8, none⟩) hltQ).trans x8, (hb.cell (p := ⟨w.heap.size, 9, none⟩) hltQ).trans x9, (hb.cell (p := ⟨w.heap.size, 10, none⟩) hltQ).trans x10, (hb.cell (p := ⟨w.heap.size, 11, none⟩) hltQ).trans x11, (hb.cell (p := ⟨w.heap.size, 12, none⟩) hltQ).trans x12, (hb.cell (p := ⟨w.heap.size, 13, none⟩) hltQ).trans x13⟩
        refine hK.out _ _ hS ?_; clear hK K
        try simp only [Act.put, List.setIfInBounds_toArray, List.set_cons_zero, List.set_cons_succ]
        refine wpTill_one (i := 9) (by kernel_rfl) rfl (by kernel_rfl) (fun K hK => ?_)
        obtain ⟨r2, wv2, hrun2, hown2, hg2, hat2, -⟩ := app_run ((rd_one (P := P) hC)) i0 _ 45 38 14 rfl rfl hrow Try.underlying45 hi0 hz0 hz1 rfl (by rw [hz2]; decide) (by simp; omega) hb.size 45
        rw [hCd2] at hrun2
        refine step_append_run rfl (.tmp 24) (.tmp 26) 45 rfl hrun2 ?_
        try go_simp
        have hb := Below.grow hb hg2 (fun q hq => (World.ownsRow.lt hrow q hq).1) hb.size
        have hrow := hown2
        clear hrun2 hown2 hg2 hat2
        have hS : (fun x : World => x.cell? ⟨R, 1, none⟩ = some (.slice a l.length c) ∧ x.cell? ⟨w.heap.size, 0, none⟩ = some (.int .u8 f.kind) ∧ x.cell? ⟨w.heap.size, 1, none⟩ = some (.int .i64 f.fa) ∧ x.cell? ⟨w.heap.size, 2, none⟩ = some (.int .i64 f.fi) ∧ x.cell? ⟨w.heap.size, 3, none⟩ = some (.int .i64 f.ta) ∧ x.cell? ⟨w.heap.size, 4, none⟩ = some (.int .i64 f.ti) ∧ x.cell? ⟨w.heap.size, 5, none⟩ = some (.int .i64 f.n) ∧ x.cell? ⟨w.heap.size, 6, none⟩ = some (.int .i64 f.token) ∧ x.cell? ⟨w.heap.size, 7, none⟩ = some (.int .i64 f.ba) ∧ x.cell? ⟨w.heap.size, 8, none⟩ = some (.int .i64 f.bi) ∧ x.cell? ⟨w.heap.size, 9, none⟩ = some (.slice f.ms.a f.ms.n f.ms.c) ∧ x.cell? ⟨w.heap.size, 10, none⟩ = some (.slice f.fs.a f.fs.n f.fs.c) ∧ x.cell? ⟨w.heap.size, 11, none⟩ = some (.slice f.rs.a f.rs.n f.rs.c) ∧ x.cell? ⟨w.heap.size, 12, none⟩ = some (.slice f.cs.a f.cs.n f.cs.c) ∧ x.cell? ⟨w.heap.size, 13, none⟩ = some (.slice f.ss.a f.ss.n f.ss.c)) (wv2) := ⟨(hb.cell (p := ⟨R, 1, none⟩) hltR).trans c1, (hb.cell (p := ⟨w.heap.size, 0, none⟩) hltQ).trans x0, (hb.cell (p := ⟨w.heap.size, 1, none⟩) hltQ).trans x1, (hb.cell (p := ⟨w.heap.size, 2, none⟩) hltQ).trans x2, (hb.cell (p := ⟨w.heap.size, 3, none⟩) hltQ).trans x3, (hb.cell (p := ⟨w.heap.size, 4, none⟩) hltQ).trans x4, (hb.cell (p := ⟨w.heap.size, 5, none⟩) hltQ).trans x5, (hb.cell (p := ⟨w.heap.size, 6, none⟩) hltQ).trans x6, (hb.cell (p := ⟨w.heap.size, 7, none⟩) hltQ).trans x7, (hb.cell (p := ⟨w.heap.size, 8, none⟩) hltQ).trans x8, (hb.cell (p := ⟨w.heap.size, 9, none⟩) hltQ).trans x9, (hb.cell (p := ⟨w.heap.size, 10, none⟩) hltQ).trans x10, (hb.cell (p := ⟨w.heap.size, 11, none⟩) hltQ).trans x11, (hb.cell (p := ⟨w.heap.size, 12, none⟩) hltQ).trans x12, (hb.cell (p := ⟨w.heap.size, 13, none⟩) hltQ).trans x13⟩
        refine hK.out _ _ hS ?_; clear hK K
        try simp only [Act.put, List.setIfInBounds_toArray, List.set_cons_zero, List.set_cons_succ]
        have hrow : wv2.ownsRow wr.drew.heap.size 38 14 r2 (l ++ [f]).length (elF.rows (l ++ [f])) := by
          have e1 : (l ++ [f]).length = 0 + l.length + [f].length := by simp
          have e2 : elF.rows (l ++ [f]) = [] ++ elF.rows l ++ elF.rows [f] := by simp [El.rows_append]
          rw [e1, e2]; exact hrow
        obtain ⟨aq, nq, cq, rfl, hQ⟩ : ∃ (aq : Option Addr) (nq cq : Nat), r2 = .slice aq nq cq ∧ Rd elF P wr.drew.heap.size wv2.heap.size ⟨aq, nq, cq⟩ (l ++ [f]) wv2 := by
          obtain ⟨aq, cq, e, hQ⟩ := rd_of_row (E := elF) (P := P) hrow
          exact ⟨aq, _, cq, e, hQ⟩
        have HQ := Lib.hid hQ
        clear hQ
        refine wpTill_one (i := 10) (by kernel_rfl) rfl (by kernel_rfl) (fun K hK => ?_)
        go_simp
        refine hK.out _ _ hS ?_; clear hK K
        try simp only [Act.put, List.setIfInBounds_toArray, List.set_cons_zero, List.set_cons_succ]
        refine wpTill_one (i := 11) (by kernel_rfl) rfl (by kernel_rfl) (fun K hK => ?_)
        go_simp
        refine hK.out _ _ hS ?_; clear hK K
        try simp only [Act.put, List.setIfInBounds_toArray, List.set_cons_zero, List.set_cons_succ]
        have fR2 : wv2.frozen? ⟨R, 1, none⟩ = false := (World.frozen?_of_block (w := wr) (a := ⟨R, 1, none⟩) (hb.block R hltR)).trans fR
        have cR2 : wv2.cell? ⟨R, 1, none⟩ = some (.slice a l.length c) := (hb.cell (p := ⟨R, 1, none⟩) hltR).trans c1
        have HRow := Lib.hid hrow
        have HBe := Lib.hid hb
        clear hS hrow hb hC hCl hCn hCd hCd2 x0 x1 x2 x3 x4 x5 x6 x7 x8 x9 x10 x11 x12 x13
        refine wpTill_end (by kernel_rfl) rfl (fun K hK => ?_)
        go_simp
        refine hK.out _ _ ?_; clear hK K
        refine wpAny_done (by kernel_rfl) ?_ _
        go_simp
        go_wp2_with fail
        go_meet
        case rel =>
          have hw := undrew HBe.out
          have hbw := HA.out.1.trans (hw.mono HA.out.1.size)
          have hs := deep_snoc HH.out.1 HH.out.2
          exact RMid.of HH.out.1 hbw (HQ.out.wide (by have := HA.out.2.1; show w.heap.size + 2 ≤ wr.heap.size; omega) (Nat.le_refl _)) hs.1 hs.2 (by simp; omega) ((hw.block _ (by have := HA.out.2.1; omega)).trans HA.out.2.2.2)
    · go_simp
      obtain ⟨C, hCd⟩ : ∃ C, C = (wr.drew).heap.size := ⟨_, rfl⟩
      have hCd2 : C = wr.heap.size := by rw [hCd]; try simp
      have hC : ((wr.drew).alloc (.cells f.cells 38)).heap[C]? = some (.cells f.cells 38 (0, 0)) := by rw [hCd]; exact heap_alloc_new _ _
      have hCl : C < ((wr.drew).alloc (.cells f.cells 38)).heap.size := (Array.getElem?_eq_some_iff.1 hC).1
      have hb := hb.alloc hb.size (.cells f.cells 38)
      have hS : (fun x : World => x.cell? ⟨R, 1, none⟩ = some (.slice a l.length c) ∧ x.cell? ⟨w.heap.size, 0, none⟩ = some (.int .u8 f.kind) ∧ x.cell? ⟨w.heap.size, 1, none⟩ = some (.int .i64 f.fa) ∧ x.cell? ⟨w.heap.size, 2, none⟩ = some (.int .i64 f.fi) ∧ x.cell? ⟨w.heap.size, 3, none⟩ = some (.int .i64 f.ta) ∧ x.cell? ⟨w.heap.size, 4, none⟩ = some (.int .i64 f.ti) ∧ x.cell? ⟨w.heap.size, 5, none⟩ = some (.int .i64 f.n) ∧ x.cell? ⟨w.heap.size, 6, none⟩ = some (.int .i64 f.token) ∧ x.cell? ⟨w.heap.size, 7, none⟩ = some (.int .i64 f.ba) ∧ x.cell? ⟨w.heap.size, 8, none⟩ = some (.int .i64 f.bi) ∧ x.cell? ⟨w.heap.size, 9, none⟩ = some (.slice f.ms.a f.ms.n f.ms.c) ∧ x.cell? ⟨w.heap.size, 10, none⟩ = some (.slice f.fs.a f.fs.n f.fs.c) ∧ x.cell? ⟨w.heap.size, 11, none⟩ = some (.slice f.rs.a f.rs.n f.rs.c) ∧ x.cell? ⟨w.heap.size, 12, none⟩ = some (.slice f.cs.a f.cs.n f.cs.c) ∧ x.cell? ⟨w.heap.size, 13, none⟩ = some (.slice f.ss.a f.ss.n f.ss.c)) ((wr.drew).alloc (.cells f.cells 38)) := ⟨(hb.cell (p := ⟨R, 1, none⟩) hltR).trans c1, (hb.cell (p := ⟨w.heap.size, 0, none⟩) hltQ).trans x0, (hb.cell (p := ⟨w.heap.size, 1, none⟩) hltQ).trans x1, (hb.cell (p := ⟨w.heap.size, 2, none⟩) hltQ).trans x2, (hb.cell (p := ⟨w.heap.size, 3, none⟩) hltQ).trans x3, (hb.cell (p := ⟨w.heap.size, 4, none⟩) hltQ).trans x4, (hb.cell (p := ⟨w.heap.size, 5, none⟩) hltQ).trans x5, (hb.cell (p := ⟨w.heap.size, 6, none⟩) hltQ).trans x6, (hb.cell (p := ⟨w.heap.size, 7, none⟩) hltQ).trans x7, (hb.cell (p := ⟨w.heap.size, 8, none⟩) hltQ).trans x8, (hb.cell (p := ⟨w.heap.size, 9, none⟩) hltQ).trans x9, (hb.cell (p := ⟨w.heap.size, 10, none⟩) hltQ).trans x10, (hb.cell (p := ⟨w.heap.size, 11, none⟩) hltQ).trans x11, (hb.cell (p := ⟨w.heap.size, 12, none⟩) hltQ).trans x12, (hb.cell (p := ⟨w.heap.size, 13, none⟩) hltQ).trans x13⟩
      refine hK.out _ _ hS ?_; clear hK K
      try simp only [Act.put, List.setIfInBounds_toArray, List.set_cons_zero, List.set_cons_succ]
      refine wpTill_one (i := 1) (by kernel_rfl) rfl (by kernel_rfl) (fun K hK => ?_)
      go_simp
      have hrow := World.ownsRow_made (base := wr.drew.heap.size) (e := 38) (size := 14) ((wr.drew).alloc (.cells f.cells 38)) #[] 0 hb.size (by decide) rfl
      rw [show ((wr.drew).alloc (.cells f.cells 38)).heap.size = wr.heap.size + 1 by simp] at hrow
      have hb := hb.alloc hb.size (.cells #[] 38)
      have hC : (((wr.drew).alloc (.cells f.cells 38)).alloc (.cells #[] 38)).heap[C]? = some (.cells f.cells 38 (0, 0)) := (Below.heap_alloc _ _ _ hCl).trans hC
      have hCl : C < (((wr.drew).alloc (.cells f.cells 38)).alloc (.cells #[] 38)).heap.size := Nat.lt_of_lt_of_le hCl (by simp)
      have hCo : wr.heap.size + 1 ≠ C := by rw [hCd2]; omega
      have hCn : ∀ q, (Value.slice (some ⟨wr.heap.size + 1, 0, none⟩) 0 0).ownBlock = some q → q ≠ C := fun q hq e => hCo ((show wr.heap.size + 1 = q by simpa [Value.ownBlock] using hq).trans e)
      have hS : (fun x : World => x.cell? ⟨R, 1, none⟩ = some (.slice a l.length c) ∧ x.cell? ⟨w.heap.size, 0, none⟩ = some (.int .u8 f.kind) ∧ x.cell? ⟨w.heap.size, 1, none⟩ = some (.int .i64 f.fa) ∧ x.cell? ⟨w.heap.size, 2, none⟩ = some (.int .i64 f.fi) ∧ x.cell? ⟨w.heap.size, 3, none⟩ = some (.int .i64 f.ta) ∧ x.cell? ⟨w.heap.size, 4, none⟩ = some (.int .i64 f.ti) ∧ x.cell? ⟨w.heap.size, 5, none⟩ = some (.int .i64 f.n) ∧ x.cell? ⟨w.heap.size, 6, none⟩ = some (.int .i64 f.token) ∧ x.cell? ⟨w.heap.size, 7, none⟩ = some (.int .i64 f.ba) ∧ x.cell? ⟨w.heap.size, 8, none⟩ = some (.int .i64 f.bi) ∧ x.cell? ⟨w.heap.size, 9, none⟩ = some (.slice f.ms.a f.ms.n f.ms.c) ∧ x.cell? ⟨w.heap.size, 10, none⟩ = some (.slice f.fs.a f.fs.n f.fs.c) ∧ x.cell? ⟨w.heap.size, 11, none⟩ = some (.slice f.rs.a f.rs.n f.rs.c) ∧ x.cell? ⟨w.heap.size, 12, none⟩ = some (.slice f.cs.a f.cs.n f.cs.c) ∧ x.cell? ⟨w.heap.size, 13, none⟩ = some (.slice f.ss.a f.ss.n f.ss.c)) (((wr.drew).alloc (.cells f.cells 38)).alloc (.cells #[] 38)) := ⟨(hb.cell (p := ⟨R, 1, none⟩) hltR).trans c1, (hb.cell (p := ⟨w.heap.size, 0, none⟩) hltQ).trans x0, (hb.cell (p := ⟨w.heap.size, 1, none⟩) hltQ).trans x1, (hb.cell (p := ⟨w.heap.size, 2, none⟩) hltQ).trans x2, (hb.cell (p := ⟨w.heap.size, 3, none⟩) hltQ).trans x3, (hb.cell (p := ⟨w.heap.size, 4, none⟩) hltQ).trans x4, (hb.cell (p := ⟨w.heap.size, 5, none⟩) hltQ).trans x5, (hb.cell (p := ⟨w.heap.size, 6, none⟩) hltQ).trans x6, (hb.cell (p := ⟨w.heap.size, 7, none⟩) hltQ).trans x7, (hb.cell (p := ⟨w.heap.size, 8, none⟩) hltQ).trans x8, (hb.cell (p := ⟨w.heap.size, 9, none⟩) hltQ).trans x9, (hb.cell (p := ⟨w.heap.size, 10, none⟩) hltQ).trans x10, (hb.cell (p := ⟨w.heap.size, 11, none⟩) hltQ).trans x11, (hb.cell (p := ⟨w.heap.size, 12, none⟩) hltQ).trans x12, (hb.cell (p := ⟨w.heap.size, 13, none⟩) hltQ).trans x13⟩
      refine hK.out _ _ hS ?_; clear hK K
      try simp only [Act.put, List.setIfInBounds_toArray, List.set_cons_zero, List.set_cons_succ]
      refine wpTill_one (i := 6) (by kernel_rfl) rfl (by kernel_rfl) (fun K hK => ?_)
      obtain ⟨r1, wv1, hrun1, hown1, hg1, hat1, -⟩ := app_run (HR1.out.below hb) i0 _ 45 38 14 rfl rfl hrow Try.underlying45 hi0 hz0 hz1 rfl (by rw [hz2]; decide) (by simp; omega) hb.size 45
      refine step_append_run rfl (.tmp 19) (.tmp 23) 45 rfl hrun1 ?_
      try go_simp
      have hC : wv1.heap[C]? = some (.cells f.cells 38 (0, 0)) := (hg1.block C hCl (fun e => hCn C e.symm rfl)).trans hC
      have hCn : ∀ q, r1.ownBlock = some q → q ≠ C := fun q hq => by
        rcases hat1 with e | e
        · exact hCn q (e.symm.trans hq)
        · rw [e] at hq; cases hq; omega
      have hCl : C < wv1.heap.size := Nat.lt_of_lt_of_le hCl hg1.size
      have hb := Below.grow hb hg1 (fun q hq => (World.ownsRow.lt hrow q hq).1) hb.size
      have hrow := hown1
      clear hrun1 hown1 hg1 hat1
      have hS : (fun x : World => x.cell? ⟨R, 1, none⟩ = some (.slice a l.length c) ∧ x.cell? ⟨w.heap.size, 0, none⟩ = some (.int .u8 f.kind) ∧ x.cell? ⟨w.heap.size, 1, none⟩ = some (.int .i64 f.fa) ∧ x.cell? ⟨w.heap.size, 2, none⟩ = some (.int .i64 f.fi) ∧ x.cell? ⟨w.heap.size, 3, none⟩ = some (.int .i64 f.ta) ∧ x.cell? ⟨w.heap.size, 4, none⟩ = some (.int .i64 f.ti) ∧ x.cell? ⟨w.heap.size, 5, none⟩ = some (.int .i64 f.n) ∧ x.cell? ⟨w.heap.size, 6, none⟩ = some (.int .i64 f.token) ∧ x.cell? ⟨w.heap.size, 7, none⟩ = some (.int .i64 f.ba) ∧ x.cell? ⟨w.heap.size, 8, none⟩ = some (.int .i64 f.bi) ∧ x.cell? ⟨w.heap.size, 9, none⟩ = some (.slice f.ms.a f.ms.n f.ms.c) ∧ x.cell? ⟨w.heap.size, 10, none⟩ = some (.slice f.fs.a f.fs.n f.fs.c) ∧ x.cell? ⟨w.heap.size, 11, none⟩ = some (.slice f.rs.a f.rs.n f.rs.c) ∧ x.cell? ⟨w.heap.size, 12, none⟩ = some (.slice f.cs.a f.cs.n f.cs.c) ∧ x.cell? ⟨w.heap.size, 13, none⟩ = some (.slice f.ss.a f.ss.n f.ss.c)) (wv1) := ⟨(hb.cell (p := ⟨R, 1, none⟩) hltR).trans c1, (hb.cell (p := ⟨w.heap.size, 0, none⟩) hltQ).trans x0, (hb.cell (p := ⟨w.heap.size, 1, none⟩) hltQ).trans x1, (hb.cell (p := ⟨w.heap.size, 2, none⟩) hltQ).trans x2, (hb.cell (p := ⟨w.heap.size, 3, none⟩) hltQ).trans x3, (hb.cell (p := ⟨w.heap.size, 4, none⟩) hltQ).trans x4, (hb.cell (p := ⟨w.heap.size, 5, none⟩) hltQ).trans x5, (hb.cell (p := ⟨w.heap.size, 6, none⟩) hltQ).trans x6, (hb.cell (p := ⟨w.heap.size, 7, none⟩) hltQ).trans x7, (hb.cell (p := ⟨w.heap.size, 8, none⟩) hltQ).trans x8, (hb.cell (p := ⟨w.heap.size, 9, none⟩) hltQ).trans x9, (hb.cell (p := ⟨w.heap.size, 10, none⟩) hltQ).trans x10, (hb.cell (p := ⟨w.heap.size, 11, none⟩) hltQ).trans x11, (hb.cell (p := ⟨w.heap.size, 12, none⟩) hltQ).trans x12, (hb.cell (p := ⟨w.heap.size, 13, none⟩) hltQ).trans x13⟩
      refine hK.out _ _ hS ?_; clear hK K
      try simp only [Act.put, List.setIfInBounds_toArray, List.set_cons_zero, List.set_cons_succ]
      refine wpTill_one (i := 9) (by kernel_rfl) rfl (by kernel_rfl) (fun K hK => ?_)
      obtain ⟨r2, wv2, hrun2, hown2, hg2, hat2, -⟩ := app_run ((rd_one (P := P) hC)) i0 _ 45 38 14 rfl rfl hrow Try.underlying45 hi0 hz0 hz1 rfl (by rw [hz2]; decide) (by simp; omega) hb.size 45
      rw [hCd2] at hrun2
      refine step_append_run rfl (.tmp 24) (.tmp 26) 45 rfl hrun2 ?_
      try go_simp
      have hb := Below.grow hb hg2 (fun q hq => (World.ownsRow.lt hrow q hq).1) hb.size
      have hrow := hown2
      clear hrun2 hown2 hg2 hat2
      have hS : (fun x : World => x.cell? ⟨R, 1, none⟩ = some (.slice a l.length c) ∧ x.cell? ⟨w.heap.size, 0, none⟩ = some (.int .u8 f.kind) ∧ x.cell? ⟨w.heap.size, 1, none⟩ = some (.int .i64 f.fa) ∧ x.cell? ⟨w.heap.size, 2, none⟩ = some (.int .i64 f.fi) ∧ x.cell? ⟨w.heap.size, 3, none⟩ = some (.int .i64 f.ta) ∧ x.cell? ⟨w.heap.size, 4, none⟩ = some (.int .i64 f.ti) ∧ x.cell? ⟨w.heap.size, 5, none⟩ = some (.int .i64 f.n) ∧ x.cell? ⟨w.heap.size, 6, none⟩ = some (.int .i64 f.token) ∧ x.cell? ⟨w.heap.size, 7, none⟩ = some (.int .i64 f.ba) ∧ x.cell? ⟨w.heap.size, 8, none⟩ = some (.int .i64 f.bi) ∧ x.cell? ⟨w.heap.size, 9, none⟩ = some (.slice f.ms.a f.ms.n f.ms.c) ∧ x.cell? ⟨w.heap.size, 10, none⟩ = some (.slice f.fs.a f.fs.n f.fs.c) ∧ x.cell? ⟨w.heap.size, 11, none⟩ = some (.slice f.rs.a f.rs.n f.rs.c) ∧ x.cell? ⟨w.heap.size, 12, none⟩ = some (.slice f.cs.a f.cs.n f.cs.c) ∧ x.cell? ⟨w.heap.size, 13, none⟩ = some (.slice f.ss.a f.ss.n f.ss.c)) (wv2) := ⟨(hb.cell (p := ⟨R, 1, none⟩) hltR).trans c1, (hb.cell (p := ⟨w.heap.size, 0, none⟩) hltQ).trans x0, (hb.cell (p := ⟨w.heap.size, 1, none⟩) hltQ).trans x1, (hb.cell (p := ⟨w.heap.size, 2, none⟩) hltQ).trans x2, (hb.cell (p := ⟨w.heap.size, 3, none⟩) hltQ).trans x3, (hb.cell (p := ⟨w.heap.size, 4, none⟩) hltQ).trans x4, (hb.cell (p := ⟨w.heap.size, 5, none⟩) hltQ).trans x5, (hb.cell (p := ⟨w.heap.size, 6, none⟩) hltQ).trans x6, (hb.cell (p := ⟨w.heap.size, 7, none⟩) hltQ).trans x7, (hb.cell (p := ⟨w.heap.size, 8, none⟩) hltQ).trans x8, (hb.cell (p := ⟨w.heap.size, 9, none⟩) hltQ).trans x9, (hb.cell (p := ⟨w.heap.size, 10, none⟩) hltQ).trans x10, (hb.cell (p := ⟨w.heap.size, 11, none⟩) hltQ).trans x11, (hb.cell (p := ⟨w.heap.size, 12, none⟩) hltQ).trans x12, (hb.cell (p := ⟨w.heap.size, 13, none⟩) hltQ).trans x13⟩
      refine hK.out _ _ hS ?_; clear hK K
      try simp only [Act.put, List.setIfInBounds_toArray, List.set_cons_zero, List.set_cons_succ]
      have hrow : wv2.ownsRow wr.drew.heap.size 38 14 r2 (l ++ [f]).length (elF.rows (l ++ [f])) := by
        have e1 : (l ++ [f]).length = 0 + l.length + [f].length := by simp
        have e2 : elF.rows (l ++ [f]) = [] ++ elF.rows l ++ elF.rows [f] := by simp [El.rows_append]
        rw [e1, e2]; exact hrow
      obtain ⟨aq, nq, cq, rfl, hQ⟩ : ∃ (aq : Option Addr) (nq cq : Nat), r2 = .slice aq nq cq ∧ Rd elF P wr.drew.heap.size wv2.heap.size ⟨aq, nq, cq⟩ (l ++ [f]) wv2 := by
        obtain ⟨aq, cq, e, hQ⟩ := rd_of_row (E := elF) (P := P) hrow
        exact ⟨aq, _, cq, e, hQ⟩
      have HQ := Lib.hid hQ
      clear hQ
      refine wpTill_one (i := 10) (by kernel_rfl) rfl (by kernel_rfl) (fun K hK => ?_)
      go_simp
      refine hK.out _ _ hS ?_; clear hK K
      try simp only [Act.put, List.setIfInBounds_toArray, List.set_cons_zero, List.set_cons_succ]
      refine wpTill_one (i := 11) (by kernel_rfl) rfl (by kernel_rfl) (fun K hK => ?_)
      go_simp
      refine hK.out _ _ hS ?_; clear hK K
      try simp only [Act.put, List.setIfInBounds_toArray, List.set_cons_zero, List.set_cons_succ]
      have fR2 : wv2.frozen? ⟨R, 1, none⟩ = false := (World.frozen?_of_block (w := wr) (a := ⟨R, 1, none⟩) (hb.block R hltR)).trans fR
      have cR2 : wv2.cell? ⟨R, 1, none⟩ = some (.slice a l.length c) := (hb.cell (p := ⟨R, 1, none⟩) hltR).trans c1
      have HRow := Lib.hid hrow
      have HBe := Lib.hid hb
      clear hS hrow hb hC hCl hCn hCd hCd2 x0 x1 x2 x3 x4 x5 x6 x7 x8 x9 x10 x11 x12 x13
      refine wpTill_end (by kernel_rfl) rfl (fun K hK => ?_)
      go_simp
      refine hK.out _ _ ?_; clear hK K
      refine wpAny_done (by kernel_rfl) ?_ _
      go_simp
      go_wp2_with fail
      go_meet
      case rel =>
        have hw := undrew HBe.out
        have hbw := HA.out.1.trans (hw.mono HA.out.1.size)
        have hs := deep_snoc HH.out.1 HH.out.2
        exact RMid.of HH.out.1 hbw (HQ.out.wide (by have := HA.out.2.1; show w.heap.size + 2 ≤ wr.heap.size; omega) (Nat.le_refl _)) hs.1 hs.2 (by simp; omega) ((hw.block _ (by have := HA.out.2.1; omega)).trans HA.out.2.2.2)
  case rest =>
    have HM := Lib.hid hcut
    have hq := hcut.res
    clear hcut x0 x1 x2 x3 x4 x5 x6 x7 x8 x9 x10 x11 x12 x13 c1 fR hltR hltQ
    have y0 : wc.cell? ⟨w.heap.size + 1, 0, none⟩ = some (.int .u8 0) := (cell_of_row _ _ _ _ _ _ hq).trans rfl
    have y1 : wc.cell? ⟨w.heap.size + 1, 1, none⟩ = some (.int .i64 0) := (cell_of_row _ _ _ _ _ _ hq).trans rfl
    have y2 : wc.cell? ⟨w.heap.size + 1, 2, none⟩ = some (.int .i64 0) := (cell_of_row _ _ _ _ _ _ hq).trans rfl
    have y3 : wc.cell? ⟨w.heap.size + 1, 3, none⟩ = some (.int .i64 0) := (cell_of_row _ _ _ _ _ _ hq).trans rfl
    have y4 : wc.cell? ⟨w.heap.size + 1, 4, none⟩ = some (.int .i64 0) := (cell_of_row _ _ _ _ _ _ hq).trans rfl
    have y5 : wc.cell? ⟨w.heap.size + 1, 5, none⟩ = some (.int .i64 0) := (cell_of_row _ _ _ _ _ _ hq).trans rfl
    have y6 : wc.cell? ⟨w.heap.size + 1, 6, none⟩ = some (.int .i64 0) := (cell_of_row _ _ _ _ _ _ hq).trans rfl
    have y7 : wc.cell? ⟨w.heap.size + 1, 7, none⟩ = some (.int .i64 0) := (cell_of_row _ _ _ _ _ _ hq).trans rfl
    have y8 : wc.cell? ⟨w.heap.size + 1, 8, none⟩ = some (.int .i64 0) := (cell_of_row _ _ _ _ _ _ hq).trans rfl
    have y9 : wc.cell? ⟨w.heap.size + 1, 9, none⟩ = some (.slice none 0 0) := (cell_of_row _ _ _ _ _ _ hq).trans rfl
    have y10 : wc.cell? ⟨w.heap.size + 1, 10, none⟩ = some (.slice none 0 0) := (cell_of_row _ _ _ _ _ _ hq).trans rfl
    have y11 : wc.cell? ⟨w.heap.size + 1, 11, none⟩ = some (.slice none 0 0) := (cell_of_row _ _ _ _ _ _ hq).trans rfl
    have y12 : wc.cell? ⟨w.heap.size + 1, 12, none⟩ = some (.slice none 0 0) := (cell_of_row _ _ _ _ _ _ hq).trans rfl
    have y13 : wc.cell? ⟨w.heap.size + 1, 13, none⟩ = some (.slice none 0 0) := (cell_of_row _ _ _ _ _ _ hq).trans rfl
    have fq := fun o => frozen_of_row wc (w.heap.size + 1) o _ _ hq
    clear hq
    go_wp2_with fail
    obtain ⟨v2, hB, hK, hZ1, hFr⟩ := HM.out.laid .zero
    have HFr := Lib.hid hFr
    clear hFr
    change bodyPost _ _ _ _ _ (Fr.laid .zero wc (w.heap.size + 1))
    clear y0 y1 y2 y3 y4 y5 y6 y7 y8 y9 y10 y11 y12 y13 fq HM
    generalize Fr.laid .zero wc (w.heap.size + 1) = Z at hB hK hZ1 ⊢
    have y0 : Z.cell? ⟨w.heap.size + 1, 0, none⟩ = some (.int .u8 0) := (cell_of_row _ _ _ _ _ _ hZ1).trans rfl
    have y1 : Z.cell? ⟨w.heap.size + 1, 1, none⟩ = some (.int .i64 0) := (cell_of_row _ _ _ _ _ _ hZ1).trans rfl
    have y2 : Z.cell? ⟨w.heap.size + 1, 2, none⟩ = some (.int .i64 0) := (cell_of_row _ _ _ _ _ _ hZ1).trans rfl
    have y3 : Z.cell? ⟨w.heap.size + 1, 3, none⟩ = some (.int .i64 0) := (cell_of_row _ _ _ _ _ _ hZ1).trans rfl
    have y4 : Z.cell? ⟨w.heap.size + 1, 4, none⟩ = some (.int .i64 0) := (cell_of_row _ _ _ _ _ _ hZ1).trans rfl
    have y5 : Z.cell? ⟨w.heap.size + 1, 5, none⟩ = some (.int .i64 0) := (cell_of_row _ _ _ _ _ _ hZ1).trans rfl
    have y6 : Z.cell? ⟨w.heap.size + 1, 6, none⟩ = some (.int .i64 0) := (cell_of_row _ _ _ _ _ _ hZ1).trans rfl
    have y7 : Z.cell? ⟨w.heap.size + 1, 7, none⟩ = some (.int .i64 0) := (cell_of_row _ _ _ _ _ _ hZ1).trans rfl
    have y8 : Z.cell? ⟨w.heap.size + 1, 8, none⟩ = some (.int .i64 0) := (cell_of_row _ _ _ _ _ _ hZ1).trans rfl
    have y9 : Z.cell? ⟨w.heap.size + 1, 9, none⟩ = some (.slice none 0 0) := (cell_of_row _ _ _ _ _ _ hZ1).trans rfl
    have y10 : Z.cell? ⟨w.heap.size + 1, 10, none⟩ = some (.slice none 0 0) := (cell_of_row _ _ _ _ _ _ hZ1).trans rfl
    have y11 : Z.cell? ⟨w.heap.size + 1, 11, none⟩ = some (.slice none 0 0) := (cell_of_row _ _ _ _ _ _ hZ1).trans rfl
    have y12 : Z.cell? ⟨w.heap.size + 1, 12, none⟩ = some (.slice none 0 0) := (cell_of_row _ _ _ _ _ _ hZ1).trans rfl
    have y13 : Z.cell? ⟨w.heap.size + 1, 13, none⟩ = some (.slice none 0 0) := (cell_of_row _ _ _ _ _ _ hZ1).trans rfl
    exact bodyPost_ret (v := .tuple #[.agg #[.int .u8 0, .int .i64 0, .int .i64 0, .int .i64 0, .int .i64 0, .int .i64 0, .int .i64 0, .int .i64 0, .int .i64 0, .slice none 0 0, .slice none 0 0, .slice none 0 0, .slice none 0 0, .slice none 0 0], .bool false]) (by simp [results, Try.results25, go_sem, y0, y1, y2, y3, y4, y5, y6, y7, y8, y9, y10, y11, y12, y13]) rfl ⟨v2, _, .zero, by rw [HD.out]; rfl, by rw [HN.out.1]; exact hB, hK, by rw [HN.out.2]; exact Deep.zero _ _ _ _, .inr HFr.out⟩
set_option maxRecDepth 100000 in
set_option maxHeartbeats 4000000 in
theorem rput_full {P R : Nat} {m : Int} {v : Value} {l : List Fr} {ds : List Dat} {w : World} (f : Fr) (d : Dat) (h : RB P R m v l ds w) (hf : Deep P 0 P d f w) (hfull : ¬ (l.length : Int) < m) : Calls Try.prog 25 #[.pointer (some ⟨R, 0, none⟩), .agg #[.int .u8 f.kind, .int .i64 f.fa, .int .i64 f.fi, .int .i64 f.ta, .int .i64 f.ti, .int .i64 f.n, .int .i64 f.token, .int .i64 f.ba, .int .i64 f.bi, .slice f.ms.a f.ms.n f.ms.c, .slice f.fs.a f.fs.n f.fs.c, .slice f.rs.a f.rs.n f.rs.c, .slice f.cs.a f.cs.n f.cs.c, .slice f.ss.a f.ss.n f.ss.c]] w (RPut P R m v l ds d w) := by
  have fR := h.free 1
  obtain ⟨c0, c1⟩ := h.reads
  have hlt := h.lt
  obtain ⟨a, n, c, rfl, hR⟩ := h.rd
  obtain rfl : n = l.length := hR.n
  have hm1 := h.m1
  have hm2 := h.m2
  have hle := h.le
  have hlen := h.len
  have HH := Lib.hid (And.intro h hf)
  have HL := Lib.hid hlen
  obtain ⟨q0, q1⟩ := both_new w (.cells #[.int .u8 f.kind, .int .i64 f.fa, .int .i64 f.fi, .int .i64 f.ta, .int .i64 f.ti, .int .i64 f.n, .int .i64 f.token, .int .i64 f.ba, .int .i64 f.bi, .slice f.ms.a f.ms.n f.ms.c, .slice f.fs.a f.fs.n f.fs.c, .slice f.rs.a f.rs.n f.rs.c, .slice f.cs.a f.cs.n f.cs.c, .slice f.ss.a f.ss.n f.ss.c] 38) (.cells #[.int .u8 0, .int .i64 0, .int .i64 0, .int .i64 0, .int .i64 0, .int .i64 0, .int .i64 0, .int .i64 0, .int .i64 0, .slice none 0 0, .slice none 0 0, .slice none 0 0, .slice none 0 0, .slice none 0 0] 38)
  have hbA : Below w.heap.size w ((w.alloc (.cells #[.int .u8 f.kind, .int .i64 f.fa, .int .i64 f.fi, .int .i64 f.ta, .int .i64 f.ti, .int .i64 f.n, .int .i64 f.token, .int .i64 f.ba, .int .i64 f.bi, .slice f.ms.a f.ms.n f.ms.c, .slice f.fs.a f.fs.n f.fs.c, .slice f.rs.a f.rs.n f.rs.c, .slice f.cs.a f.cs.n f.cs.c, .slice f.ss.a f.ss.n f.ss.c] 38)).alloc (.cells #[.int .u8 0, .int .i64 0, .int .i64 0, .int .i64 0, .int .i64 0, .int .i64 0, .int .i64 0, .int .i64 0, .int .i64 0, .slice none 0 0, .slice none 0 0, .slice none 0 0, .slice none 0 0, .slice none 0 0] 38)) := ((Below.refl _ _).alloc (Nat.le_refl _) _).alloc (by simp) _
  have hsA : ((w.alloc (.cells #[.int .u8 f.kind, .int .i64 f.fa, .int .i64 f.fi, .int .i64 f.ta, .int .i64 f.ti, .int .i64 f.n, .int .i64 f.token, .int .i64 f.ba, .int .i64 f.bi, .slice f.ms.a f.ms.n f.ms.c, .slice f.fs.a f.fs.n f.fs.c, .slice f.rs.a f.rs.n f.rs.c, .slice f.cs.a f.cs.n f.cs.c, .slice f.ss.a f.ss.n f.ss.c] 38)).alloc (.cells #[.int .u8 0, .int .i64 0, .int .i64 0, .int .i64 0, .int .i64 0, .int .i64 0, .int .i64 0, .int .i64 0, .int .i64 0, .slice none 0 0, .slice none 0 0, .slice none 0 0, .slice none 0 0, .slice none 0 0] 38)).heap.size = w.heap.size + 2 := by simp
  have hsA := Nat.le_of_eq hsA.symm
  have heq : (ds.length : Int) = m := by omega
  have HQ0 := Lib.hid heq
  have HD : decide ((ds.length : Int) = m) = true := by simpa using heq
  have HD := Lib.hid HD
  have g : decide ((l.length : Int) < m) = false := by simpa using hfull
  clear h hf hlen heq
  go_enter Try.func25, Try.ntmps25
  go_wp2_with fail
  go_quiet (fail)
  go_wp2_with fail
  obtain ⟨wo, hwo⟩ : ∃ wo, wo = ((w.alloc (.cells #[.int .u8 f.kind, .int .i64 f.fa, .int .i64 f.fi, .int .i64 f.ta, .int .i64 f.ti, .int .i64 f.n, .int .i64 f.token, .int .i64 f.ba, .int .i64 f.bi, .slice f.ms.a f.ms.n f.ms.c, .slice f.fs.a f.fs.n f.fs.c, .slice f.rs.a f.rs.n f.rs.c, .slice f.cs.a f.cs.n f.cs.c, .slice f.ss.a f.ss.n f.ss.c] 38)).alloc (.cells #[.int .u8 0, .int .i64 0, .int .i64 0, .int .i64 0, .int .i64 0, .int .i64 0, .int .i64 0, .int .i64 0, .int .i64 0, .slice none 0 0, .slice none 0 0, .slice none 0 0, .slice none 0 0, .slice none 0 0] 38)).drewN nq := ⟨_, rfl⟩
  have hbA : Below w.heap.size w wo := by rw [hwo]; exact ⟨hbA.os, hbA.tape, hbA.output, hbA.size, hbA.block⟩
  have hsA : w.heap.size + 2 ≤ wo.heap.size := by rw [hwo]; exact hsA
  have q0 : wo.heap[w.heap.size]? = some (.cells #[.int .u8 f.kind, .int .i64 f.fa, .int .i64 f.fi, .int .i64 f.ta, .int .i64 f.ti, .int .i64 f.n, .int .i64 f.token, .int .i64 f.ba, .int .i64 f.bi, .slice f.ms.a f.ms.n f.ms.c, .slice f.fs.a f.fs.n f.fs.c, .slice f.rs.a f.rs.n f.rs.c, .slice f.cs.a f.cs.n f.cs.c, .slice f.ss.a f.ss.n f.ss.c] 38 (0, 0)) := by rw [hwo]; exact q0
  have q1 : wo.heap[w.heap.size + 1]? = some (.cells #[.int .u8 0, .int .i64 0, .int .i64 0, .int .i64 0, .int .i64 0, .int .i64 0, .int .i64 0, .int .i64 0, .int .i64 0, .slice none 0 0, .slice none 0 0, .slice none 0 0, .slice none 0 0, .slice none 0 0] 38 (0, 0)) := by rw [hwo]; exact q1
  rw [← hwo]
  clear hwo
  have c1 : wo.cell? ⟨R, 1, none⟩ = _ := (hbA.cell (p := ⟨R, 1, none⟩) hlt).trans c1
  have fR : wo.frozen? ⟨R, 1, none⟩ = false := (World.frozen?_of_block (w := w) (a := ⟨R, 1, none⟩) (hbA.block R hlt)).trans fR
  have hltR : R < wo.heap.size := Nat.lt_of_lt_of_le hlt hbA.size
  have hltQ : w.heap.size < wo.heap.size := by show _ < wo.heap.size; omega
  have HA := Lib.hid (And.intro hbA (And.intro hsA (And.intro q0 q1)))
  have HR0 : Hid (Rd elF P _ _ ⟨a, l.length, c⟩ l wo) := Lib.hid (hR.below hbA)
  have hl5 : l.length ≤ 100000 := by omega
  obtain ⟨i0, hi0, hz0, hz1, hz2⟩ := info_parts info38
  clear hbA hsA q0 q1 hR c0 hlt g hfull
  go_loopw [6] (fun i wx => ∃ (k : Nat), k ≤ l.length ∧ i = .int .i64 k ∧ Hid (Below wo.heap.size wo wx) ∧ Hid (∀ j, j < k → ∀ h : j < ds.length, ds[j].known = false)) (fun i _ => l.length - (intOf i).toNat)
  case atStart => exact ⟨0, by omega, rfl, Lib.hid (Below.refl _ _), Lib.hid (fun j hj => by omega)⟩
  case round =>
    obtain ⟨p, hk, rfl, HB, HF⟩ := hrel
    have c1 : wr.cell? ⟨R, 1, none⟩ = _ := (HB.out.cell (p := ⟨R, 1, none⟩) hltR).trans c1
    by_cases hpl : p < l.length
    · have hpd : p < ds.length := by have := HL.out; omega
      have hpR := HH.out.1.pR
      have HP := Lib.hid hpR
      obtain ⟨bb, oo, e, -, -, hbl, -, hc⟩ := (HR0.out.below HB.out).cell hpl
      simp only at e
      subst e
      have hdp := HH.out.1.at_ p hpl hpd
      have HFK := Lib.hid (rfl : l[p] = l[p])
      generalize hfk : l[p] = fk at hc hdp
      have HDP := Lib.hid hdp
      have HK := Lib.hid hdp.known
      clear hdp hfk HFK hpR
      have y0 : wr.cell? ⟨bb, oo + p * 14, none⟩ = some (.int .u8 fk.kind) := hc 0 (by decide)
      have y1 : wr.cell? ⟨bb, oo + p * 14 + 1, none⟩ = some (.int .i64 fk.fa) := by have := hc 1 (by decide); rwa [← Nat.add_assoc] at this
      have y2 : wr.cell? ⟨bb, oo + p * 14 + 2, none⟩ = some (.int .i64 fk.fi) := by have := hc 2 (by decide); rwa [← Nat.add_assoc] at this
      have y3 : wr.cell? ⟨bb, oo + p * 14 + 3, none⟩ = some (.int .i64 fk.ta) := by have := hc 3 (by decide); rwa [← Nat.add_assoc] at this
      have y4 : wr.cell? ⟨bb, oo + p * 14 + 4, none⟩ = some (.int .i64 fk.ti) := by have := hc 4 (by decide); rwa [← Nat.add_assoc] at this
      have y5 : wr.cell? ⟨bb, oo + p * 14 + 5, none⟩ = some (.int .i64 fk.n) := by have := hc 5 (by decide); rwa [← Nat.add_assoc] at this
      have y6 : wr.cell? ⟨bb, oo + p * 14 + 6, none⟩ = some (.int .i64 fk.token) := by have := hc 6 (by decide); rwa [← Nat.add_assoc] at this
      have y7 : wr.cell? ⟨bb, oo + p * 14 + 7, none⟩ = some (.int .i64 fk.ba) := by have := hc 7 (by decide); rwa [← Nat.add_assoc] at this
      have y8 : wr.cell? ⟨bb, oo + p * 14 + 8, none⟩ = some (.int .i64 fk.bi) := by have := hc 8 (by decide); rwa [← Nat.add_assoc] at this
      have y9 : wr.cell? ⟨bb, oo + p * 14 + 9, none⟩ = some (.slice fk.ms.a fk.ms.n fk.ms.c) := by have := hc 9 (by decide); rwa [← Nat.add_assoc] at this
      have y10 : wr.cell? ⟨bb, oo + p * 14 + 10, none⟩ = some (.slice fk.fs.a fk.fs.n fk.fs.c) := by have := hc 10 (by decide); rwa [← Nat.add_assoc] at this
      have y11 : wr.cell? ⟨bb, oo + p * 14 + 11, none⟩ = some (.slice fk.rs.a fk.rs.n fk.rs.c) := by have := hc 11 (by decide); rwa [← Nat.add_assoc] at this
      have y12 : wr.cell? ⟨bb, oo + p * 14 + 12, none⟩ = some (.slice fk.cs.a fk.cs.n fk.cs.c) := by have := hc 12 (by decide); rwa [← Nat.add_assoc] at this
      have y13 : wr.cell? ⟨bb, oo + p * 14 + 13, none⟩ = some (.slice fk.ss.a fk.ss.n fk.ss.c) := by have := hc 13 (by decide); rwa [← Nat.add_assoc] at this
      clear hc
      go_wp2_with fail
      refine (known17 fk _).mono ?_
      rintro e w8 ⟨rfl, hb8⟩
      have y0 := (hb8.cell (p := ⟨bb, oo + p * 14, none⟩) hbl).trans y0
      have y1 := (hb8.cell (p := ⟨bb, oo + p * 14 + 1, none⟩) hbl).trans y1
      have y2 := (hb8.cell (p := ⟨bb, oo + p * 14 + 2, none⟩) hbl).trans y2
      have y3 := (hb8.cell (p := ⟨bb, oo + p * 14 + 3, none⟩) hbl).trans y3
      have y4 := (hb8.cell (p := ⟨bb, oo + p * 14 + 4, none⟩) hbl).trans y4
      have y5 := (hb8.cell (p := ⟨bb, oo + p * 14 + 5, none⟩) hbl).trans y5
      have y6 := (hb8.cell (p := ⟨bb, oo + p * 14 + 6, none⟩) hbl).trans y6
      have y7 := (hb8.cell (p := ⟨bb, oo + p * 14 + 7, none⟩) hbl).trans y7
      have y8 := (hb8.cell (p := ⟨bb, oo + p * 14 + 8, none⟩) hbl).trans y8
      have y9 := (hb8.cell (p := ⟨bb, oo + p * 14 + 9, none⟩) hbl).trans y9
      have y10 := (hb8.cell (p := ⟨bb, oo + p * 14 + 10, none⟩) hbl).trans y10
      have y11 := (hb8.cell (p := ⟨bb, oo + p * 14 + 11, none⟩) hbl).trans y11
      have y12 := (hb8.cell (p := ⟨bb, oo + p * 14 + 12, none⟩) hbl).trans y12
      have y13 := (hb8.cell (p := ⟨bb, oo + p * 14 + 13, none⟩) hbl).trans y13
      have c1 : w8.cell? ⟨R, 1, none⟩ = _ := (hb8.cell (p := ⟨R, 1, none⟩) (Nat.lt_of_lt_of_le hltR HB.out.size)).trans c1
      have hbl : bb < w8.heap.size := Nat.lt_of_lt_of_le hbl hb8.size
      have HB8 := Lib.hid (HB.out.trans (hb8.mono HB.out.size))
      clear hb8
      have hK2 := HK.out
      generalize fk.known = kb at hK2 ⊢
      have HK2 := Lib.hid hK2
      clear hK2 HK
      cases kb
      · clear y0 y1 y2 y3 y4 y5 y6 y7 y8 y9 y10 y11 y12 y13
        go_wp2_with fail
        go_roundw
        case rel => exact ⟨p + 1, by omega, by go_num, HB8, Lib.hid (fun j hj h => by
          by_cases e : j = p
          · subst e; exact HK2.out.symm
          · exact HF.out j (by omega) h)⟩
        case measure => simp only [intOf]; omega
      · go_upto_region 9 with fail
        obtain ⟨wq, hwq⟩ : ∃ wq, wq = w8.alloc (.cells #[.int .u8 fk.kind, .int .i64 fk.fa, .int .i64 fk.fi, .int .i64 fk.ta, .int .i64 fk.ti, .int .i64 fk.n, .int .i64 fk.token, .int .i64 fk.ba, .int .i64 fk.bi, .slice fk.ms.a fk.ms.n fk.ms.c, .slice fk.fs.a fk.fs.n fk.fs.c, .slice fk.rs.a fk.rs.n fk.rs.c, .slice fk.cs.a fk.cs.n fk.cs.c, .slice fk.ss.a fk.ss.n fk.ss.c] 38) := ⟨_, rfl⟩
        rw [← hwq]
        have hbq : Below w8.heap.size w8 wq := by rw [hwq]; exact (Below.refl _ _).alloc (Nat.le_refl _) _
        have hrq : wq.heap[w8.heap.size]? = some (.cells #[.int .u8 fk.kind, .int .i64 fk.fa, .int .i64 fk.fi, .int .i64 fk.ta, .int .i64 fk.ti, .int .i64 fk.n, .int .i64 fk.token, .int .i64 fk.ba, .int .i64 fk.bi, .slice fk.ms.a fk.ms.n fk.ms.c, .slice fk.fs.a fk.fs.n fk.fs.c, .slice fk.rs.a fk.rs.n fk.rs.c, .slice fk.cs.a fk.cs.n fk.cs.c, .slice fk.ss.a fk.ss.n fk.ss.c] 38 (0, 0)) := by rw [hwq]; exact heap_alloc_new _ _
        have hbo := HB8.out.trans (hbq.mono HB8.out.size)
        have hlq : w8.heap.size < wq.heap.size := (Array.getElem?_eq_some_iff.1 hrq).1
        have h8 := HB8.out.size
        have hl6 : (l.eraseIdx p).length ≤ 100000 := by rw [List.length_eraseIdx]; split <;> omega
        clear hwq y0 y1 y2 y3 y4 y5 y6 y7 y8 y9 y10 y11 y12 y13
        have hbA := HA.out.1.trans (hbo.mono HA.out.1.size)
        have hsA := Nat.le_trans HA.out.2.1 hbo.size
        have q0 := (hbo.block _ (by have := HA.out.2.1; omega)).trans HA.out.2.2.1
        have q1 := (hbo.block _ (by have := HA.out.2.1; omega)).trans HA.out.2.2.2
        have HA := Lib.hid (And.intro hbA (And.intro hsA (And.intro q0 q1)))
        have c1 : wq.cell? ⟨R, 1, none⟩ = _ := (hbq.cell (p := ⟨R, 1, none⟩) (Nat.lt_of_lt_of_le hltR h8)).trans c1
        have fR : wq.frozen? ⟨R, 1, none⟩ = false := (World.frozen?_of_block (w := wo) (a := ⟨R, 1, none⟩) (hbo.block R hltR)).trans fR
        have hltQ : w.heap.size < wq.drew.heap.size := Nat.lt_of_lt_of_le hltQ hbo.size
        have hltR : R < wq.drew.heap.size := Nat.lt_of_lt_of_le hltR hbo.size
        have HR1 : Hid (Rd elF P _ _ ⟨some ⟨bb, oo, none⟩, l.length, c⟩ l wq.drew) := Lib.hid ((HR0.out.below hbo).same (w' := wq.drew) (Nat.le_refl _) fun _ _ _ _ _ => rfl)
        have x0 : wq.cell? ⟨w.heap.size, 0, none⟩ = some (.int .u8 f.kind) := (cell_of_row _ _ _ _ _ _ q0).trans rfl
        have x1 : wq.cell? ⟨w.heap.size, 1, none⟩ = some (.int .i64 f.fa) := (cell_of_row _ _ _ _ _ _ q0).trans rfl
        have x2 : wq.cell? ⟨w.heap.size, 2, none⟩ = some (.int .i64 f.fi) := (cell_of_row _ _ _ _ _ _ q0).trans rfl
        have x3 : wq.cell? ⟨w.heap.size, 3, none⟩ = some (.int .i64 f.ta) := (cell_of_row _ _ _ _ _ _ q0).trans rfl
        have x4 : wq.cell? ⟨w.heap.size, 4, none⟩ = some (.int .i64 f.ti) := (cell_of_row _ _ _ _ _ _ q0).trans rfl
        have x5 : wq.cell? ⟨w.heap.size, 5, none⟩ = some (.int .i64 f.n) := (cell_of_row _ _ _ _ _ _ q0).trans rfl
        have x6 : wq.cell? ⟨w.heap.size, 6, none⟩ = some (.int .i64 f.token) := (cell_of_row _ _ _ _ _ _ q0).trans rfl
        have x7 : wq.cell? ⟨w.heap.size, 7, none⟩ = some (.int .i64 f.ba) := (cell_of_row _ _ _ _ _ _ q0).trans rfl
        have x8 : wq.cell? ⟨w.heap.size, 8, none⟩ = some (.int .i64 f.bi) := (cell_of_row _ _ _ _ _ _ q0).trans rfl
        have x9 : wq.cell? ⟨w.heap.size, 9, none⟩ = some (.slice f.ms.a f.ms.n f.ms.c) := (cell_of_row _ _ _ _ _ _ q0).trans rfl
        have x10 : wq.cell? ⟨w.heap.size, 10, none⟩ = some (.slice f.fs.a f.fs.n f.fs.c) := (cell_of_row _ _ _ _ _ _ q0).trans rfl
        have x11 : wq.cell? ⟨w.heap.size, 11, none⟩ = some (.slice f.rs.a f.rs.n f.rs.c) := (cell_of_row _ _ _ _ _ _ q0).trans rfl
        have x12 : wq.cell? ⟨w.heap.size, 12, none⟩ = some (.slice f.cs.a f.cs.n f.cs.c) := (cell_of_row _ _ _ _ _ _ q0).trans rfl
        have x13 : wq.cell? ⟨w.heap.size, 13, none⟩ = some (.slice f.ss.a f.ss.n f.ss.c) := (cell_of_row _ _ _ _ _ _ q0).trans rfl
        have HRQ := Lib.hid hrq
        clear hbA hsA q0 q1 hbo hbq hrq
        go_cut [55] (fun _ wx => Hid (RMid P R m (l.eraseIdx p ++ [f]) (ds.eraseIdx p ++ [d]) w wx) ∧ wx.heap[w8.heap.size]? = some (.cells #[.int .u8 fk.kind, .int .i64 fk.fa, .int .i64 fk.fi, .int .i64 fk.ta, .int .i64 fk.ti, .int .i64 fk.n, .int .i64 fk.token, .int .i64 fk.ba, .int .i64 fk.bi, .slice fk.ms.a fk.ms.n fk.ms.c, .slice fk.fs.a fk.fs.n fk.fs.c, .slice fk.rs.a fk.rs.n fk.rs.c, .slice fk.cs.a fk.cs.n fk.cs.c, .slice fk.ss.a fk.ss.n fk.ss.c] 38 (0, 0)))
        case first =>
          refine wp_region_any (by kernel_rfl) ?_
          try (change wpAny _ _ _ _ _ _ _ (World.drew _))
          refine wpAny_take (i := 0) (v := ?_) rfl (by kernel_rfl) (by kernel_rfl) (by kernel_rfl) (fun _ _ _ h => h) (Or.inl ⟨by kernel_rfl, ?_⟩) ?_
          rotate_left
          · (intro w; go_simp) <;> with_reducible rfl
          refine wpAny_take (i := 1) (v := ?_) rfl (by kernel_rfl) (by kernel_rfl) (by kernel_rfl) (fun _ _ _ h => h) (Or.inl ⟨by kernel_rfl, ?_⟩) ?_
          rotate_left
          · (intro w; go_simp) <;> with_reducible rfl
          refine wpAny_take (i := 2) (v := ?_) rfl (by kernel_rfl) (by kernel_rfl) (by kernel_rfl) (fun _ _ _ h => h) (Or.inl ⟨by kernel_rfl, ?_⟩) ?_
          rotate_left
          · (intro w; go_simp) <;> with_reducible rfl
          refine wpAny_take (i := 3) (v := ?_) rfl (by kernel_rfl) (by kernel_rfl) (by kernel_rfl) (fun _ _ _ h => h) (Or.inl ⟨by kernel_rfl, ?_⟩) ?_
          rotate_left
          · (intro w; go_simp) <;> with_reducible rfl
          refine wpAny_take (i := 5) (v := ?_) rfl (by kernel_rfl) (by kernel_rfl) (by kernel_rfl) (fun _ _ _ h => h) (Or.inl ⟨by kernel_rfl, ?_⟩) ?_
          rotate_left
          · (intro w; go_simp) <;> with_reducible rfl
          refine wpAny_of_till (S := fun x => x.cell? ⟨R, 1, none⟩ = some (.slice (some ⟨bb, oo, none⟩) l.length c) ∧ x.cell? ⟨w.heap.size, 0, none⟩ = some (.int .u8 f.kind) ∧ x.cell? ⟨w.heap.size, 1, none⟩ = some (.int .i64 f.fa) ∧ x.cell? ⟨w.heap.size, 2, none⟩ = some (.int .i64 f.fi) ∧ x.cell? ⟨w.heap.size, 3, none⟩ = some (.int .i64 f.ta) ∧ x.cell? ⟨w.heap.size, 4, none⟩ = some (.int .i64 f.ti) ∧ x.cell? ⟨w.heap.size, 5, none⟩ = some (.int .i64 f.n) ∧ x.cell? ⟨w.heap.size, 6, none⟩ = some (.int .i64 f.token) ∧ x.cell? ⟨w.heap.size, 7, none⟩ = some (.int .i64 f.ba) ∧ x.cell? ⟨w.heap.size, 8, none⟩ = some (.int .i64 f.bi) ∧ x.cell? ⟨w.heap.size, 9, none⟩ = some (.slice f.ms.a f.ms.n f.ms.c) ∧ x.cell? ⟨w.heap.size, 10, none⟩ = some (.slice f.fs.a f.fs.n f.fs.c) ∧ x.cell? ⟨w.heap.size, 11, none⟩ = some (.slice f.rs.a f.rs.n f.rs.c) ∧ x.cell? ⟨w.heap.size, 12, none⟩ = some (.slice f.cs.a f.cs.n f.cs.c) ∧ x.cell? ⟨w.heap.size, 13, none⟩ = some (.slice f.ss.a f.ss.n f.ss.c)) (k := 12) _ _ _ _ ?_
          have hS : (fun x : World => x.cell? ⟨R, 1, none⟩ = some (.slice (some ⟨bb, oo, none⟩) l.length c) ∧ x.cell? ⟨w.heap.size, 0, none⟩ = some (.int .u8 f.kind) ∧ x.cell? ⟨w.heap.size, 1, none⟩ = some (.int .i64 f.fa) ∧ x.cell? ⟨w.heap.size, 2, none⟩ = some (.int .i64 f.fi) ∧ x.cell? ⟨w.heap.size, 3, none⟩ = some (.int .i64 f.ta) ∧ x.cell? ⟨w.heap.size, 4, none⟩ = some (.int .i64 f.ti) ∧ x.cell? ⟨w.heap.size, 5, none⟩ = some (.int .i64 f.n) ∧ x.cell? ⟨w.heap.size, 6, none⟩ = some (.int .i64 f.token) ∧ x.cell? ⟨w.heap.size, 7, none⟩ = some (.int .i64 f.ba) ∧ x.cell? ⟨w.heap.size, 8, none⟩ = some (.int .i64 f.bi) ∧ x.cell? ⟨w.heap.size, 9, none⟩ = some (.slice f.ms.a f.ms.n f.ms.c) ∧ x.cell? ⟨w.heap.size, 10, none⟩ = some (.slice f.fs.a f.fs.n f.fs.c) ∧ x.cell? ⟨w.heap.size, 11, none⟩ = some (.slice f.rs.a f.rs.n f.rs.c) ∧ x.cell? ⟨w.heap.size, 12, none⟩ = some (.slice f.cs.a f.cs.n f.cs.c) ∧ x.cell? ⟨w.heap.size, 13, none⟩ = some (.slice f.ss.a f.ss.n f.ss.c)) _ := ⟨c1, x0, x1, x2, x3, x4, x5, x6, x7, x8, x9, x10, x11, x12, x13⟩
          refine wpTill_take (i := 4) (v := (.slice (some ⟨bb, oo, none⟩) l.length c)) rfl (by kernel_rfl) (by kernel_rfl) (by kernel_rfl) (by kernel_rfl) (fun _ _ _ h => h) (Or.inl ⟨by kernel_rfl, ?_⟩) hS ?_
          · intro w hSw; (try dsimp only at hSw); (try obtain ⟨x0, x1, x2, x3, x4, x5, x6, x7, x8, x9, x10, x11, x12, x13, x14⟩ := hSw); go_simp
          try simp only [Act.put, List.setIfInBounds_toArray, List.set_cons_zero, List.set_cons_succ]
          refine wpTill_take (i := 7) (v := (.agg #[.int .u8 f.kind, .int .i64 f.fa, .int .i64 f.fi, .int .i64 f.ta, .int .i64 f.ti, .int .i64 f.n, .int .i64 f.token, .int .i64 f.ba, .int .i64 f.bi, .slice f.ms.a f.ms.n f.ms.c, .slice f.fs.a f.fs.n f.fs.c, .slice f.rs.a f.rs.n f.rs.c, .slice f.cs.a f.cs.n f.cs.c, .slice f.ss.a f.ss.n f.ss.c])) rfl (by kernel_rfl) (by kernel_rfl) (by kernel_rfl) (by kernel_rfl) (fun _ _ _ h => h) (Or.inl ⟨by kernel_rfl, ?_⟩) hS ?_
          · intro w hSw; (try dsimp only at hSw); (try obtain ⟨x0, x1, x2, x3, x4, x5, x6, x7, x8, x9, x10, x11, x12, x13, x14⟩ := hSw); go_simp
          try simp only [Act.put, List.setIfInBounds_toArray, List.set_cons_zero, List.set_cons_succ]
          clear hS
          have hb : Below wq.drew.heap.size wq.drew wq.drew := Below.refl _ _
          refine wpTill_fork2 (i := 6) (j := 8) (by kernel_rfl) rfl rfl (by kernel_rfl) (by kernel_rfl) (fun K hK => ?_) (fun K hK => ?_)
          · go_simp
            refine (without_own bb oo l.length c p l (wq.drew) (HR1.out.below hb) hpl hl5).mono ?_
            rintro e w8 ⟨a', m', c', rfl, hrow, hbw⟩
            go_wp2_with fail
            have hrow := World.ownsRow.lower hrow hb.size
            have hb := hb.trans (hbw.mono hb.size)
            clear hbw
            have hS : (fun x : World => x.cell? ⟨R, 1, none⟩ = some (.slice (some ⟨bb, oo, none⟩) l.length c) ∧ x.cell? ⟨w.heap.size, 0, none⟩ = some (.int .u8 f.kind) ∧ x.cell? ⟨w.heap.size, 1, none⟩ = some (.int .i64 f.fa) ∧ x.cell? ⟨w.heap.size, 2, none⟩ = some (.int .i64 f.fi) ∧ x.cell? ⟨w.heap.size, 3, none⟩ = some (.int .i64 f.ta) ∧ x.cell? ⟨w.heap.size, 4, none⟩ = some (.int .i64 f.ti) ∧ x.cell? ⟨w.heap.size, 5, none⟩ = some (.int .i64 f.n) ∧ x.cell? ⟨w.heap.size, 6, none⟩ = some (.int .i64 f.token) ∧ x.cell? ⟨w.heap.size, 7, none⟩ = some (.int .i64 f.ba) ∧ x.cell? ⟨w.heap.size, 8, none⟩ = some (.int .i64 f.bi) ∧ x.cell? ⟨w.heap.size, 9, none⟩ = some (.slice f.ms.a f.ms.n f.ms.c) ∧ x.cell? ⟨w.heap.size, 10, none⟩ = some (.slice f.fs.a f.fs.n f.fs.c) ∧ x.cell? ⟨w.heap.size, 11, none⟩ = some (.slice f.rs.a f.rs.n f.rs.c) ∧ x.cell? ⟨w.heap.size, 12, none⟩ = some (.slice f.cs.a f.cs.n f.cs.c) ∧ x.cell? ⟨w.heap.size, 13, none⟩ = some (.slice f.ss.a f.ss.n f.ss.c)) (w8) := ⟨(hb.cell (p := ⟨R, 1, none⟩) hltR).trans c1, (hb.cell (p := ⟨w.heap.size, 0, none⟩) hltQ).trans x0, (hb.cell (p := ⟨w.heap.size, 1, none⟩) hltQ).trans x1, (hb.cell (p := ⟨w.heap.size, 2, none⟩) hltQ).trans x2, (hb.cell (p := ⟨w.heap.size, 3, none⟩) hltQ).trans x3, (hb.cell (p := ⟨w.heap.size, 4, none⟩) hltQ).trans x4, (hb.cell (p := ⟨w.heap.size, 5, none⟩) hltQ).trans x5, (hb.cell (p := ⟨w.heap.size, 6, none⟩) hltQ).trans x6, (hb.cell (p := ⟨w.heap.size, 7, none⟩) hltQ).trans x7, (hb.cell (p := ⟨w.heap.size, 8, none⟩) hltQ).trans x8, (hb.cell (p := ⟨w.heap.size, 9, none⟩) hltQ).trans x9, (hb.cell (p := ⟨w.heap.size, 10, none⟩) hltQ).trans x10, (hb.cell (p := ⟨w.heap.size, 11, none⟩) hltQ).trans x11, (hb.cell (p := ⟨w.heap.size, 12, none⟩) hltQ).trans x12, (hb.cell (p := ⟨w.heap.size, 13, none⟩) hltQ).trans x13⟩
            refine hK.out _ _ hS ?_; clear hK K
            try simp only [Act.put, List.setIfInBounds_toArray, List.set_cons_zero, List.set_cons_succ]
            refine wpTill_one (i := 8) (by kernel_rfl) rfl (by kernel_rfl) (fun K hK => ?_)
            go_simp
            obtain ⟨C, hCd⟩ : ∃ C, C = (w8).heap.size := ⟨_, rfl⟩
            have hCd2 : C = w8.heap.size := by rw [hCd]; try simp
            have hC : ((w8).alloc (.cells f.cells 38)).heap[C]? = some (.cells f.cells 38 (0, 0)) := by rw [hCd]; exact heap_alloc_new _ _
            have hCl : C < ((w8).alloc (.cells f.cells 38)).heap.size := (Array.getElem?_eq_some_iff.1 hC).1
            have hb := hb.alloc hb.size (.cells f.cells 38)
            have hCn : ∀ q, (Value.slice a' m' c' : Value).ownBlock = some q → q ≠ C := fun q hq => by have := (World.ownsRow.lt hrow q hq).2; omega
            have hrow := hrow.alloc (.cells f.cells 38)
            have hS : (fun x : World => x.cell? ⟨R, 1, none⟩ = some (.slice (some ⟨bb, oo, none⟩) l.length c) ∧ x.cell? ⟨w.heap.size, 0, none⟩ = some (.int .u8 f.kind) ∧ x.cell? ⟨w.heap.size, 1, none⟩ = some (.int .i64 f.fa) ∧ x.cell? ⟨w.heap.size, 2, none⟩ = some (.int .i64 f.fi) ∧ x.cell? ⟨w.heap.size, 3, none⟩ = some (.int .i64 f.ta) ∧ x.cell? ⟨w.heap.size, 4, none⟩ = some (.int .i64 f.ti) ∧ x.cell? ⟨w.heap.size, 5, none⟩ = some (.int .i64 f.n) ∧ x.cell? ⟨w.heap.size, 6, none⟩ = some (.int .i64 f.token) ∧ x.cell? ⟨w.heap.size, 7, none⟩ = some (.int .i64 f.ba) ∧ x.cell? ⟨w.heap.size, 8, none⟩ = some (.int .i64 f.bi) ∧ x.cell? ⟨w.heap.size, 9, none⟩ = some (.slice f.ms.a f.ms.n f.ms.c) ∧ x.cell? ⟨w.heap.size, 10, none⟩ = some (.slice f.fs.a f.fs.n f.fs.c) ∧ x.cell? ⟨w.heap.size, 11, none⟩ = some (.slice f.rs.a f.rs.n f.rs.c) ∧ x.cell? ⟨w.heap.size, 12, none⟩ = some (.slice f.cs.a f.cs.n f.cs.c) ∧ x.cell? ⟨w.heap.size, 13, none⟩ = some (.slice f.ss.a f.ss.n f.ss.c)) ((w8).alloc (.cells f.cells 38)) := ⟨(hb.cell (p := ⟨R, 1, none⟩) hltR).trans c1, (hb.cell (p := ⟨w.heap.size, 0, none⟩) hltQ).trans x0, (hb.cell (p := ⟨w.heap.size, 1, none⟩) hltQ).trans x1, (hb.cell (p := ⟨w.heap.size, 2, none⟩) hltQ).trans x2, (hb.cell (p := ⟨w.heap.size, 3, none⟩) hltQ).trans x3, (hb.cell (p := ⟨w.heap.size, 4, none⟩) hltQ).trans x4, (hb.cell (p := ⟨w.heap.size, 5, none⟩) hltQ).trans x5, (hb.cell (p := ⟨w.heap.size, 6, none⟩) hltQ).trans x6, (hb.cell (p := ⟨w.heap.size, 7, none⟩) hltQ).trans x7, (hb.cell (p := ⟨w.heap.size, 8, none⟩) hltQ).trans x8, (hb.cell (p := ⟨w.heap.size, 9, none⟩) hltQ).trans x9, (hb.cell (p := ⟨w.heap.size, 10, none⟩) hltQ).trans x10, (hb.cell (p := ⟨w.heap.size, 11, none⟩) hltQ).trans x11, (hb.cell (p := ⟨w.heap.size, 12, none⟩) hltQ).trans x12, (hb.cell (p := ⟨w.heap.size, 13, none⟩) hltQ).trans x13⟩
            refine hK.out _ _ hS ?_; clear hK K
            try simp only [Act.put, List.setIfInBounds_toArray, List.set_cons_zero, List.set_cons_succ]
            refine wpTill_one (i := 9) (by kernel_rfl) rfl (by kernel_rfl) (fun K hK => ?_)
            obtain ⟨r2, wv2, hrun2, hown2, hg2, hat2, -⟩ := app_run ((rd_one (P := P) hC)) i0 _ 45 38 14 rfl rfl hrow Try.underlying45 hi0 hz0 hz1 rfl (by rw [hz2]; decide) (by simp; omega) hb.size 45
            rw [hCd2] at hrun2
            refine step_append_run rfl (.tmp 61) (.tmp 63) 45 rfl hrun2 ?_
            try go_simp
            have hb := Below.grow hb hg2 (fun q hq => (World.ownsRow.lt hrow q hq).1) hb.size
            have hrow := hown2
            clear hrun2 hown2 hg2 hat2
            have hS : (fun x : World => x.cell? ⟨R, 1, none⟩ = some (.slice (some ⟨bb, oo, none⟩) l.length c) ∧ x.cell? ⟨w.heap.size, 0, none⟩ = some (.int .u8 f.kind) ∧ x.cell? ⟨w.heap.size, 1, none⟩ = some (.int .i64 f.fa) ∧ x.cell? ⟨w.heap.size, 2, none⟩ = some (.int .i64 f.fi) ∧ x.cell? ⟨w.heap.size, 3, none⟩ = some (.int .i64 f.ta) ∧ x.cell? ⟨w.heap.size, 4, none⟩ = some (.int .i64 f.ti) ∧ x.cell? ⟨w.heap.size, 5, none⟩ = some (.int .i64 f.n) ∧ x.cell? ⟨w.heap.size, 6, none⟩ = some (.int .i64 f.token) ∧ x.cell? ⟨w.heap.size, 7, none⟩ = some (.int .i64 f.ba) ∧ x.cell? ⟨w.heap.size, 8, none⟩ = some (.int .i64 f.bi) ∧ x.cell? ⟨w.heap.size, 9, none⟩ = some (.slice f.ms.a f.ms.n f.ms.c) ∧ x.cell? ⟨w.heap.size, 10, none⟩ = some (.slice f.fs.a f.fs.n f.fs.c) ∧ x.cell? ⟨w.heap.size, 11, none⟩ = some (.slice f.rs.a f.rs.n f.rs.c) ∧ x.cell? ⟨w.heap.size, 12, none⟩ = some (.slice f.cs.a f.cs.n f.cs.c) ∧ x.cell? ⟨w.heap.size, 13, none⟩ = some (.slice f.ss.a f.ss.n f.ss.c)) (wv2) := ⟨(hb.cell (p := ⟨R, 1, none⟩) hltR).trans c1, (hb.cell (p := ⟨w.heap.size, 0, none⟩) hltQ).trans x0, (hb.cell (p := ⟨w.heap.size, 1, none⟩) hltQ).trans x1, (hb.cell (p := ⟨w.heap.size, 2, none⟩) hltQ).trans x2, (hb.cell (p := ⟨w.heap.size, 3, none⟩) hltQ).trans x3, (hb.cell (p := ⟨w.heap.size, 4, none⟩) hltQ).trans x4, (hb.cell (p := ⟨w.heap.size, 5, none⟩) hltQ).trans x5, (hb.cell (p := ⟨w.heap.size, 6, none⟩) hltQ).trans x6, (hb.cell (p := ⟨w.heap.size, 7, none⟩) hltQ).trans x7, (hb.cell (p := ⟨w.heap.size, 8, none⟩) hltQ).trans x8, (hb.cell (p := ⟨w.heap.size, 9, none⟩) hltQ).trans x9, (hb.cell (p := ⟨w.heap.size, 10, none⟩) hltQ).trans x10, (hb.cell (p := ⟨w.heap.size, 11, none⟩) hltQ).trans x11, (hb.cell (p := ⟨w.heap.size, 12, none⟩) hltQ).trans x12, (hb.cell (p := ⟨w.heap.size, 13, none⟩) hltQ).trans x13⟩
            refine hK.out _ _ hS ?_; clear hK K
            try simp only [Act.put, List.setIfInBounds_toArray, List.set_cons_zero, List.set_cons_succ]
            have hrow : wv2.ownsRow wq.drew.heap.size 38 14 r2 (l.eraseIdx p ++ [f]).length (elF.rows (l.eraseIdx p ++ [f])) := by
              have e1 : (l.eraseIdx p ++ [f]).length = (l.eraseIdx p).length + [f].length := by simp
              have e2 : elF.rows (l.eraseIdx p ++ [f]) = elF.rows (l.eraseIdx p) ++ elF.rows [f] := by simp [El.rows_append]
              rw [e1, e2]; exact hrow
            obtain ⟨aq, nq, cq, rfl, hQ⟩ : ∃ (aq : Option Addr) (nq cq : Nat), r2 = .slice aq nq cq ∧ Rd elF P wq.drew.heap.size wv2.heap.size ⟨aq, nq, cq⟩ (l.eraseIdx p ++ [f]) wv2 := by
              obtain ⟨aq, cq, e, hQ⟩ := rd_of_row (E := elF) (P := P) hrow
              exact ⟨aq, _, cq, e, hQ⟩
            have HQ := Lib.hid hQ
            clear hQ
            refine wpTill_one (i := 10) (by kernel_rfl) rfl (by kernel_rfl) (fun K hK => ?_)
            go_simp
            refine hK.out _ _ hS ?_; clear hK K
            try simp only [Act.put, List.setIfInBounds_toArray, List.set_cons_zero, List.set_cons_succ]
            refine wpTill_one (i := 11) (by kernel_rfl) rfl (by kernel_rfl) (fun K hK => ?_)
            go_simp
            refine hK.out _ _ hS ?_; clear hK K
            try simp only [Act.put, List.setIfInBounds_toArray, List.set_cons_zero, List.set_cons_succ]
            have fR2 : wv2.frozen? ⟨R, 1, none⟩ = false := (World.frozen?_of_block (w := wq) (a := ⟨R, 1, none⟩) (hb.block R hltR)).trans fR
            have cR2 : wv2.cell? ⟨R, 1, none⟩ = some (.slice (some ⟨bb, oo, none⟩) l.length c) := (hb.cell (p := ⟨R, 1, none⟩) hltR).trans c1
            have HRow := Lib.hid hrow
            have HBe := Lib.hid hb
            clear hS hrow hb hC hCl hCn hCd hCd2 x0 x1 x2 x3 x4 x5 x6 x7 x8 x9 x10 x11 x12 x13
            refine wpTill_end (by kernel_rfl) rfl (fun K hK => ?_)
            go_simp
            refine hK.out _ _ ?_; clear hK K
            refine wpAny_done (by kernel_rfl) ?_ _
            go_simp
            go_wp2_with fail
            go_meet
            case rel =>
              have hw := undrew HBe.out
              have hbw := HA.out.1.trans (hw.mono HA.out.1.size)
              have hs := deep_change HH.out.1 HH.out.2 p hpl
              refine ⟨Lib.hid (RMid.of HH.out.1 hbw (HQ.out.wide (by have := HA.out.2.1; show w.heap.size + 2 ≤ wq.heap.size; omega) (Nat.le_refl _)) hs.1 hs.2 (by simp [List.length_eraseIdx, hpl]; omega) ((hw.block _ (by have := HA.out.2.1; omega)).trans HA.out.2.2.2)), ?_⟩
              rw [Below.heap_setCell _ _ _ _ (by have := HH.out.1.lt; have := HA.out.1.size; simp only; omega)]
              exact (hw.block _ hlq).trans HRQ.out
          · go_simp
            obtain ⟨C, hCd⟩ : ∃ C, C = (wq.drew).heap.size := ⟨_, rfl⟩
            have hCd2 : C = wq.heap.size := by rw [hCd]; try simp
            have hC : ((wq.drew).alloc (.cells f.cells 38)).heap[C]? = some (.cells f.cells 38 (0, 0)) := by rw [hCd]; exact heap_alloc_new _ _
            have hCl : C < ((wq.drew).alloc (.cells f.cells 38)).heap.size := (Array.getElem?_eq_some_iff.1 hC).1
            have hb := hb.alloc hb.size (.cells f.cells 38)
            have hS : (fun x : World => x.cell? ⟨R, 1, none⟩ = some (.slice (some ⟨bb, oo, none⟩) l.length c) ∧ x.cell? ⟨w.heap.size, 0, none⟩ = some (.int .u8 f.kind) ∧ x.cell? ⟨w.heap.size, 1, none⟩ = some (.int .i64 f.fa) ∧ x.cell? ⟨w.heap.size, 2, none⟩ = some (.int .i64 f.fi) ∧ x.cell? ⟨w.heap.size, 3, none⟩ = some (.int .i64 f.ta) ∧ x.cell? ⟨w.heap.size, 4, none⟩ = some (.int .i64 f.ti) ∧ x.cell? ⟨w.heap.size, 5, none⟩ = some (.int .i64 f.n) ∧ x.cell? ⟨w.heap.size, 6, none⟩ = some (.int .i64 f.token) ∧ x.cell? ⟨w.heap.size, 7, none⟩ = some (.int .i64 f.ba) ∧ x.cell? ⟨w.heap.size, 8, none⟩ = some (.int .i64 f.bi) ∧ x.cell? ⟨w.heap.size, 9, none⟩ = some (.slice f.ms.a f.ms.n f.ms.c) ∧ x.cell? ⟨w.heap.size, 10, none⟩ = some (.slice f.fs.a f.fs.n f.fs.c) ∧ x.cell? ⟨w.heap.size, 11, none⟩ = some (.slice f.rs.a f.rs.n f.rs.c) ∧ x.cell? ⟨w.heap.size, 12, none⟩ = some (.slice f.cs.a f.cs.n f.cs.c) ∧ x.cell? ⟨w.heap.size, 13, none⟩ = some (.slice f.ss.a f.ss.n f.ss.c)) ((wq.drew).alloc (.cells f.cells 38)) := ⟨(hb.cell (p := ⟨R, 1, none⟩) hltR).trans c1, (hb.cell (p := ⟨w.heap.size, 0, none⟩) hltQ).trans x0, (hb.cell (p := ⟨w.heap.size, 1, none⟩) hltQ).trans x1, (hb.cell (p := ⟨w.heap.size, 2, none⟩) hltQ).trans x2, (hb.cell (p := ⟨w.heap.size, 3, none⟩) hltQ).trans x3, (hb.cell (p := ⟨w.heap.size, 4, none⟩) hltQ).trans x4, (hb.cell (p := ⟨w.heap.size, 5, none⟩) hltQ).trans x5, (hb.cell (p := ⟨w.heap.size, 6, none⟩) hltQ).trans x6, (hb.cell (p := ⟨w.heap.size, 7, none⟩) hltQ).trans x7, (hb.cell (p := ⟨w.heap.size, 8, none⟩) hltQ).trans x8, (hb.cell (p := ⟨w.heap.size, 9, none⟩) hltQ).trans x9, (hb.cell (p := ⟨w.heap.size, 10, none⟩) hltQ).trans x10, (hb.cell (p := ⟨w.heap.size, 11, none⟩) hltQ).trans x11, (hb.cell (p := ⟨w.heap.size, 12, none⟩) hltQ).trans x12, (hb.cell (p := ⟨w.heap.size, 13, none⟩) hltQ).trans x13⟩
            refine hK.out _ _ hS ?_; clear hK K
            try simp only [Act.put, List.setIfInBounds_toArray, List.set_cons_zero, List.set_cons_succ]
            refine wpTill_one (i := 6) (by kernel_rfl) rfl (by kernel_rfl) (fun K hK => ?_)
            go_simp
            refine (without_own bb oo l.length c p l ((wq.drew).alloc (.cells f.cells 38)) (HR1.out.below hb) hpl hl5).mono ?_
            rintro e w8 ⟨a', m', c', rfl, hrow, hbw⟩
            go_wp2_with fail
            have hC : w8.heap[C]? = some (.cells f.cells 38 (0, 0)) := (hbw.block C hCl).trans hC
            have hCn : ∀ q, (Value.slice a' m' c').ownBlock = some q → q ≠ C := fun q hq => by have := (World.ownsRow.lt hrow q hq).1; simp at this; omega
            have hCl : C < w8.heap.size := Nat.lt_of_lt_of_le hCl hbw.size
            have hrow := World.ownsRow.lower hrow hb.size
            have hb := hb.trans (hbw.mono hb.size)
            clear hbw
            have hS : (fun x : World => x.cell? ⟨R, 1, none⟩ = some (.slice (some ⟨bb, oo, none⟩) l.length c) ∧ x.cell? ⟨w.heap.size, 0, none⟩ = some (.int .u8 f.kind) ∧ x.cell? ⟨w.heap.size, 1, none⟩ = some (.int .i64 f.fa) ∧ x.cell? ⟨w.heap.size, 2, none⟩ = some (.int .i64 f.fi) ∧ x.cell? ⟨w.heap.size, 3, none⟩ = some (.int .i64 f.ta) ∧ x.cell? ⟨w.heap.size, 4, none⟩ = some (.int .i64 f.ti) ∧ x.cell? ⟨w.heap.size, 5, none⟩ = some (.int .i64 f.n) ∧ x.cell? ⟨w.heap.size, 6, none⟩ = some (.int .i64 f.token) ∧ x.cell? ⟨w.heap.size, 7, none⟩ = some (.int .i64 f.ba) ∧ x.cell? ⟨w.heap.size, 8, none⟩ = some (.int .i64 f.bi) ∧ x.cell? ⟨w.heap.size, 9, none⟩ = some (.slice f.ms.a f.ms.n f.ms.c) ∧ x.cell? ⟨w.heap.size, 10, none⟩ = some (.slice f.fs.a f.fs.n f.fs.c) ∧ x.cell? ⟨w.heap.size, 11, none⟩ = some (.slice f.rs.a f.rs.n f.rs.c) ∧ x.cell? ⟨w.heap.size, 12, none⟩ = some (.slice f.cs.a f.cs.n f.cs.c) ∧ x.cell? ⟨w.heap.size, 13, none⟩ = some (.slice f.ss.a f.ss.n f.ss.c)) (w8) := ⟨(hb.cell (p := ⟨R, 1, none⟩) hltR).trans c1, (hb.cell (p := ⟨w.heap.size, 0, none⟩) hltQ).trans x0, (hb.cell (p := ⟨w.heap.size, 1, none⟩) hltQ).trans x1, (hb.cell (p := ⟨w.heap.size, 2, none⟩) hltQ).trans x2, (hb.cell (p := ⟨w.heap.size, 3, none⟩) hltQ).trans x3, (hb.cell (p := ⟨w.heap.size, 4, none⟩) hltQ).trans x4, (hb.cell (p := ⟨w.heap.size, 5, none⟩) hltQ).trans x5, (hb.cell (p := ⟨w.heap.size, 6, none⟩) hltQ).trans x6, (hb.cell (p := ⟨w.heap.size, 7, none⟩) hltQ).trans x7, (hb.cell (p := ⟨w.heap.size, 8, none⟩) hltQ).trans x8, (hb.cell (p := ⟨w.heap.size, 9, none⟩) hltQ).trans x9, (hb.cell (p := ⟨w.heap.size, 10, none⟩) hltQ).trans x10, (hb.cell (p := ⟨w.heap.size, 11, none⟩) hltQ).trans x11, (hb.cell (p := ⟨w.heap.size, 12, none⟩) hltQ).trans x12, (hb.cell (p := ⟨w.heap.size, 13, none⟩) hltQ).trans x13⟩
            refine hK.out _ _ hS ?_; clear hK K
            try simp only [Act.put, List.setIfInBounds_toArray, List.set_cons_zero, List.set_cons_succ]
            refine wpTill_one (i := 9) (by kernel_rfl) rfl (by kernel_rfl) (fun K hK => ?_)
            obtain ⟨r2, wv2, hrun2, hown2, hg2, hat2, -⟩ := app_run ((rd_one (P := P) hC)) i0 _ 45 38 14 rfl rfl hrow Try.underlying45 hi0 hz0 hz1 rfl (by rw [hz2]; decide) (by simp; omega) hb.size 45
            rw [hCd2] at hrun2
            refine step_append_run rfl (.tmp 61) (.tmp 63) 45 rfl hrun2 ?_
            try go_simp
            have hb := Below.grow hb hg2 (fun q hq => (World.ownsRow.lt hrow q hq).1) hb.size
            have hrow := hown2
            clear hrun2 hown2 hg2 hat2
            have hS : (fun x : World => x.cell? ⟨R, 1, none⟩ = some (.slice (some ⟨bb, oo, none⟩) l.length c) ∧ x.cell? ⟨w.heap.size, 0, none⟩ = some (.int .u8 f.kind) ∧ x.cell? ⟨w.heap.size, 1, none⟩ = some (.int .i64 f.fa) ∧ x.cell? ⟨w.heap.size, 2, none⟩ = some (.int .i64 f.fi) ∧ x.cell? ⟨w.heap.size, 3, none⟩ = some (.int .i64 f.ta) ∧ x.cell? ⟨w.heap.size, 4, none⟩ = some (.int .i64 f.ti) ∧ x.cell? ⟨w.heap.size, 5, none⟩ = some (.int .i64 f.n) ∧ x.cell? ⟨w.heap.size, 6, none⟩ = some (.int .i64 f.token) ∧ x.cell? ⟨w.heap.size, 7, none⟩ = some (.int .i64 f.ba) ∧ x.cell? ⟨w.heap.size, 8, none⟩ = some (.int .i64 f.bi) ∧ x.cell? ⟨w.heap.size, 9, none⟩ = some (.slice f.ms.a f.ms.n f.ms.c) ∧ x.cell? ⟨w.heap.size, 10, none⟩ = some (.slice f.fs.a f.fs.n f.fs.c) ∧ x.cell? ⟨w.heap.size, 11, none⟩ = some (.slice f.rs.a f.rs.n f.rs.c) ∧ x.cell? ⟨w.heap.size, 12, none⟩ = some (.slice f.cs.a f.cs.n f.cs.c) ∧ x.cell? ⟨w.heap.size, 13, none⟩ = some (.slice f.ss.a f.ss.n f.ss.c)) (wv2) := ⟨(hb.cell (p := ⟨R, 1, none⟩) hltR).trans c1, (hb.cell (p := ⟨w.heap.size, 0, none⟩) hltQ).trans x0, (hb.cell (p := ⟨w.heap.size, 1, none⟩) hltQ).trans x1, (hb.cell (p := ⟨w.heap.size, 2, none⟩) hltQ).trans x2, (hb.cell (p := ⟨w.heap.size, 3, none⟩) hltQ).trans x3, (hb.cell (p := ⟨w.heap.size, 4, none⟩) hltQ).trans x4, (hb.cell (p := ⟨w.heap.size, 5, none⟩) hltQ).trans x5, (hb.cell (p := ⟨w.heap.size, 6, none⟩) hltQ).trans x6, (hb.cell (p := ⟨w.heap.size, 7, none⟩) hltQ).trans x7, (hb.cell (p := ⟨w.heap.size, 8, none⟩) hltQ).trans x8, (hb.cell (p := ⟨w.heap.size, 9, none⟩) hltQ).trans x9, (hb.cell (p := ⟨w.heap.size, 10, none⟩) hltQ).trans x10, (hb.cell (p := ⟨w.heap.size, 11, none⟩) hltQ).trans x11, (hb.cell (p := ⟨w.heap.size, 12, none⟩) hltQ).trans x12, (hb.cell (p := ⟨w.heap.size, 13, none⟩) hltQ).trans x13⟩
            refine hK.out _ _ hS ?_; clear hK K
            try simp only [Act.put, List.setIfInBounds_toArray, List.set_cons_zero, List.set_cons_succ]
            have hrow : wv2.ownsRow wq.drew.heap.size 38 14 r2 (l.eraseIdx p ++ [f]).length (elF.rows (l.eraseIdx p ++ [f])) := by
              have e1 : (l.eraseIdx p ++ [f]).length = (l.eraseIdx p).length + [f].length := by simp
              have e2 : elF.rows (l.eraseIdx p ++ [f]) = elF.rows (l.eraseIdx p) ++ elF.rows [f] := by simp [El.rows_append]
              rw [e1, e2]; exact hrow
            obtain ⟨aq, nq, cq, rfl, hQ⟩ : ∃ (aq : Option Addr) (nq cq : Nat), r2 = .slice aq nq cq ∧ Rd elF P wq.drew.heap.size wv2.heap.size ⟨aq, nq, cq⟩ (l.eraseIdx p ++ [f]) wv2 := by
              obtain ⟨aq, cq, e, hQ⟩ := rd_of_row (E := elF) (P := P) hrow
              exact ⟨aq, _, cq, e, hQ⟩
            have HQ := Lib.hid hQ
            clear hQ
            refine wpTill_one (i := 10) (by kernel_rfl) rfl (by kernel_rfl) (fun K hK => ?_)
            go_simp
            refine hK.out _ _ hS ?_; clear hK K
            try simp only [Act.put, List.setIfInBounds_toArray, List.set_cons_zero, List.set_cons_succ]
            refine wpTill_one (i := 11) (by kernel_rfl) rfl (by kernel_rfl) (fun K hK => ?_)
            go_simp
            refine hK.out _ _ hS ?_; clear hK K
            try simp only [Act.put, List.setIfInBounds_toArray, List.set_cons_zero, List.set_cons_succ]
            have fR2 : wv2.frozen? ⟨R, 1, none⟩ = false := (World.frozen?_of_block (w := wq) (a := ⟨R, 1, none⟩) (hb.block R hltR)).trans fR
            have cR2 : wv2.cell? ⟨R, 1, none⟩ = some (.slice (some ⟨bb, oo, none⟩) l.length c) := (hb.cell (p := ⟨R, 1, none⟩) hltR).trans c1
            have HRow := Lib.hid hrow
            have HBe := Lib.hid hb
            clear hS hrow hb hC hCl hCn hCd hCd2 x0 x1 x2 x3 x4 x5 x6 x7 x8 x9 x10 x11 x12 x13
            refine wpTill_end (by kernel_rfl) rfl (fun K hK => ?_)
            go_simp
            refine hK.out _ _ ?_; clear hK K
            refine wpAny_done (by kernel_rfl) ?_ _
            go_simp
            go_wp2_with fail
            go_meet
            case rel =>
              have hw := undrew HBe.out
              have hbw := HA.out.1.trans (hw.mono HA.out.1.size)
              have hs := deep_change HH.out.1 HH.out.2 p hpl
              refine ⟨Lib.hid (RMid.of HH.out.1 hbw (HQ.out.wide (by have := HA.out.2.1; show w.heap.size + 2 ≤ wq.heap.size; omega) (Nat.le_refl _)) hs.1 hs.2 (by simp [List.length_eraseIdx, hpl]; omega) ((hw.block _ (by have := HA.out.2.1; omega)).trans HA.out.2.2.2)), ?_⟩
              rw [Below.heap_setCell _ _ _ _ (by have := HH.out.1.lt; have := HA.out.1.size; simp only; omega)]
              exact (hw.block _ hlq).trans HRQ.out
        case rest =>
          obtain ⟨HM, hr7⟩ := hcut
          have hq := HM.out.res
          clear x0 x1 x2 x3 x4 x5 x6 x7 x8 x9 x10 x11 x12 x13 c1 fR hltR hltQ hbl
          have y0 : wc.cell? ⟨w.heap.size + 1, 0, none⟩ = some (.int .u8 0) := (cell_of_row _ _ _ _ _ _ hq).trans rfl
          have y1 : wc.cell? ⟨w.heap.size + 1, 1, none⟩ = some (.int .i64 0) := (cell_of_row _ _ _ _ _ _ hq).trans rfl
          have y2 : wc.cell? ⟨w.heap.size + 1, 2, none⟩ = some (.int .i64 0) := (cell_of_row _ _ _ _ _ _ hq).trans rfl
          have y3 : wc.cell? ⟨w.heap.size + 1, 3, none⟩ = some (.int .i64 0) := (cell_of_row _ _ _ _ _ _ hq).trans rfl
          have y4 : wc.cell? ⟨w.heap.size + 1, 4, none⟩ = some (.int .i64 0) := (cell_of_row _ _ _ _ _ _ hq).trans rfl
          have y5 : wc.cell? ⟨w.heap.size + 1, 5, none⟩ = some (.int .i64 0) := (cell_of_row _ _ _ _ _ _ hq).trans rfl
          have y6 : wc.cell? ⟨w.heap.size + 1, 6, none⟩ = some (.int .i64 0) := (cell_of_row _ _ _ _ _ _ hq).trans rfl
          have y7 : wc.cell? ⟨w.heap.size + 1, 7, none⟩ = some (.int .i64 0) := (cell_of_row _ _ _ _ _ _ hq).trans rfl
          have y8 : wc.cell? ⟨w.heap.size + 1, 8, none⟩ = some (.int .i64 0) := (cell_of_row _ _ _ _ _ _ hq).trans rfl
          have y9 : wc.cell? ⟨w.heap.size + 1, 9, none⟩ = some (.slice none 0 0) := (cell_of_row _ _ _ _ _ _ hq).trans rfl
          have y10 : wc.cell? ⟨w.heap.size + 1, 10, none⟩ = some (.slice none 0 0) := (cell_of_row _ _ _ _ _ _ hq).trans rfl
          have y11 : wc.cell? ⟨w.heap.size + 1, 11, none⟩ = some (.slice none 0 0) := (cell_of_row _ _ _ _ _ _ hq).trans rfl
          have y12 : wc.cell? ⟨w.heap.size + 1, 12, none⟩ = some (.slice none 0 0) := (cell_of_row _ _ _ _ _ _ hq).trans rfl
          have y13 : wc.cell? ⟨w.heap.size + 1, 13, none⟩ = some (.slice none 0 0) := (cell_of_row _ _ _ _ _ _ hq).trans rfl
          have z0 : wc.cell? ⟨w8.heap.size, 0, none⟩ = some (.int .u8 fk.kind) := (cell_of_row _ _ _ _ _ _ hr7).trans rfl
          have z1 : wc.cell? ⟨w8.heap.size, 1, none⟩ = some (.int .i64 fk.fa) := (cell_of_row _ _ _ _ _ _ hr7).trans rfl
          have z2 : wc.cell? ⟨w8.heap.size, 2, none⟩ = some (.int .i64 fk.fi) := (cell_of_row _ _ _ _ _ _ hr7).trans rfl
          have z3 : wc.cell? ⟨w8.heap.size, 3, none⟩ = some (.int .i64 fk.ta) := (cell_of_row _ _ _ _ _ _ hr7).trans rfl
          have z4 : wc.cell? ⟨w8.heap.size, 4, none⟩ = some (.int .i64 fk.ti) := (cell_of_row _ _ _ _ _ _ hr7).trans rfl
          have z5 : wc.cell? ⟨w8.heap.size, 5, none⟩ = some (.int .i64 fk.n) := (cell_of_row _ _ _ _ _ _ hr7).trans rfl
          have z6 : wc.cell? ⟨w8.heap.size, 6, none⟩ = some (.int .i64 fk.token) := (cell_of_row _ _ _ _ _ _ hr7).trans rfl
          have z7 : wc.cell? ⟨w8.heap.size, 7, none⟩ = some (.int .i64 fk.ba) := (cell_of_row _ _ _ _ _ _ hr7).trans rfl
          have z8 : wc.cell? ⟨w8.heap.size, 8, none⟩ = some (.int .i64 fk.bi) := (cell_of_row _ _ _ _ _ _ hr7).trans rfl
          have z9 : wc.cell? ⟨w8.heap.size, 9, none⟩ = some (.slice fk.ms.a fk.ms.n fk.ms.c) := (cell_of_row _ _ _ _ _ _ hr7).trans rfl
          have z10 : wc.cell? ⟨w8.heap.size, 10, none⟩ = some (.slice fk.fs.a fk.fs.n fk.fs.c) := (cell_of_row _ _ _ _ _ _ hr7).trans rfl
          have z11 : wc.cell? ⟨w8.heap.size, 11, none⟩ = some (.slice fk.rs.a fk.rs.n fk.rs.c) := (cell_of_row _ _ _ _ _ _ hr7).trans rfl
          have z12 : wc.cell? ⟨w8.heap.size, 12, none⟩ = some (.slice fk.cs.a fk.cs.n fk.cs.c) := (cell_of_row _ _ _ _ _ _ hr7).trans rfl
          have z13 : wc.cell? ⟨w8.heap.size, 13, none⟩ = some (.slice fk.ss.a fk.ss.n fk.ss.c) := (cell_of_row _ _ _ _ _ _ hr7).trans rfl
          have fq := fun o => frozen_of_row wc (w.heap.size + 1) o _ _ hq
          clear hq hr7
          go_wp2_with fail
          obtain ⟨v2, hB, hK, hZ1, hFr⟩ := HM.out.laid fk
          have HFr := Lib.hid hFr
          clear hFr
          change bodyPost _ _ _ _ _ (Fr.laid fk wc (w.heap.size + 1))
          clear y0 y1 y2 y3 y4 y5 y6 y7 y8 y9 y10 y11 y12 y13 z0 z1 z2 z3 z4 z5 z6 z7 z8 z9 z10 z11 z12 z13 fq HM
          generalize Fr.laid fk wc (w.heap.size + 1) = Z at hB hK hZ1 ⊢
          have y0 : Z.cell? ⟨w.heap.size + 1, 0, none⟩ = some (.int .u8 fk.kind) := (cell_of_row _ _ _ _ _ _ hZ1).trans rfl
          have y1 : Z.cell? ⟨w.heap.size + 1, 1, none⟩ = some (.int .i64 fk.fa) := (cell_of_row _ _ _ _ _ _ hZ1).trans rfl
          have y2 : Z.cell? ⟨w.heap.size + 1, 2, none⟩ = some (.int .i64 fk.fi) := (cell_of_row _ _ _ _ _ _ hZ1).trans rfl
          have y3 : Z.cell? ⟨w.heap.size + 1, 3, none⟩ = some (.int .i64 fk.ta) := (cell_of_row _ _ _ _ _ _ hZ1).trans rfl
          have y4 : Z.cell? ⟨w.heap.size + 1, 4, none⟩ = some (.int .i64 fk.ti) := (cell_of_row _ _ _ _ _ _ hZ1).trans rfl
          have y5 : Z.cell? ⟨w.heap.size + 1, 5, none⟩ = some (.int .i64 fk.n) := (cell_of_row _ _ _ _ _ _ hZ1).trans rfl
          have y6 : Z.cell? ⟨w.heap.size + 1, 6, none⟩ = some (.int .i64 fk.token) := (cell_of_row _ _ _ _ _ _ hZ1).trans rfl
          have y7 : Z.cell? ⟨w.heap.size + 1, 7, none⟩ = some (.int .i64 fk.ba) := (cell_of_row _ _ _ _ _ _ hZ1).trans rfl
          have y8 : Z.cell? ⟨w.heap.size + 1, 8, none⟩ = some (.int .i64 fk.bi) := (cell_of_row _ _ _ _ _ _ hZ1).trans rfl
          have y9 : Z.cell? ⟨w.heap.size + 1, 9, none⟩ = some (.slice fk.ms.a fk.ms.n fk.ms.c) := (cell_of_row _ _ _ _ _ _ hZ1).trans rfl
          have y10 : Z.cell? ⟨w.heap.size + 1, 10, none⟩ = some (.slice fk.fs.a fk.fs.n fk.fs.c) := (cell_of_row _ _ _ _ _ _ hZ1).trans rfl
          have y11 : Z.cell? ⟨w.heap.size + 1, 11, none⟩ = some (.slice fk.rs.a fk.rs.n fk.rs.c) := (cell_of_row _ _ _ _ _ _ hZ1).trans rfl
          have y12 : Z.cell? ⟨w.heap.size + 1, 12, none⟩ = some (.slice fk.cs.a fk.cs.n fk.cs.c) := (cell_of_row _ _ _ _ _ _ hZ1).trans rfl
          have y13 : Z.cell? ⟨w.heap.size + 1, 13, none⟩ = some (.slice fk.ss.a fk.ss.n fk.ss.c) := (cell_of_row _ _ _ _ _ _ hZ1).trans rfl
          have HN := putT_some m ds d HQ0.out hpd (List.findIdx?_eq_some_iff_getElem.2 ⟨hpd, HK2.out.symm, fun j hj => by simp [HF.out j hj (by omega)]⟩)
          exact bodyPost_ret (v := .tuple #[.agg #[.int .u8 fk.kind, .int .i64 fk.fa, .int .i64 fk.fi, .int .i64 fk.ta, .int .i64 fk.ti, .int .i64 fk.n, .int .i64 fk.token, .int .i64 fk.ba, .int .i64 fk.bi, .slice fk.ms.a fk.ms.n fk.ms.c, .slice fk.fs.a fk.fs.n fk.fs.c, .slice fk.rs.a fk.rs.n fk.rs.c, .slice fk.cs.a fk.cs.n fk.cs.c, .slice fk.ss.a fk.ss.n fk.ss.c], .bool true]) (by simp [results, Try.results25, go_sem, y0, y1, y2, y3, y4, y5, y6, y7, y8, y9, y10, y11, y12, y13]) rfl ⟨v2, _, fk, by rw [HD.out]; rfl, by rw [HN.1]; exact hB, hK, by rw [HN.2]; exact hK.deep HP.out HDP.out, .inr HFr.out⟩
    · obtain rfl : p = l.length := by omega
      have HN := Lib.hid (putT_none m ds d HQ0.out (List.findIdx?_eq_none_iff.2 (fun x hx => by
        obtain ⟨j, hj, rfl⟩ := List.getElem_of_mem hx
        exact HF.out j (by rw [HL.out]; exact hj) hj)))
      have q0 := (HB.out.block _ hltQ).trans HA.out.2.2.1
      have q1 := (HB.out.block _ (by have := HA.out.2.1; omega)).trans HA.out.2.2.2
      have x0 : wr.cell? ⟨w.heap.size, 0, none⟩ = some (.int .u8 f.kind) := (cell_of_row _ _ _ _ _ _ q0).trans rfl
      have x1 : wr.cell? ⟨w.heap.size, 1, none⟩ = some (.int .i64 f.fa) := (cell_of_row _ _ _ _ _ _ q0).trans rfl
      have x2 : wr.cell? ⟨w.heap.size, 2, none⟩ = some (.int .i64 f.fi) := (cell_of_row _ _ _ _ _ _ q0).trans rfl
      have x3 : wr.cell? ⟨w.heap.size, 3, none⟩ = some (.int .i64 f.ta) := (cell_of_row _ _ _ _ _ _ q0).trans rfl
      have x4 : wr.cell? ⟨w.heap.size, 4, none⟩ = some (.int .i64 f.ti) := (cell_of_row _ _ _ _ _ _ q0).trans rfl
      have x5 : wr.cell? ⟨w.heap.size, 5, none⟩ = some (.int .i64 f.n) := (cell_of_row _ _ _ _ _ _ q0).trans rfl
      have x6 : wr.cell? ⟨w.heap.size, 6, none⟩ = some (.int .i64 f.token) := (cell_of_row _ _ _ _ _ _ q0).trans rfl
      have x7 : wr.cell? ⟨w.heap.size, 7, none⟩ = some (.int .i64 f.ba) := (cell_of_row _ _ _ _ _ _ q0).trans rfl
      have x8 : wr.cell? ⟨w.heap.size, 8, none⟩ = some (.int .i64 f.bi) := (cell_of_row _ _ _ _ _ _ q0).trans rfl
      have x9 : wr.cell? ⟨w.heap.size, 9, none⟩ = some (.slice f.ms.a f.ms.n f.ms.c) := (cell_of_row _ _ _ _ _ _ q0).trans rfl
      have x10 : wr.cell? ⟨w.heap.size, 10, none⟩ = some (.slice f.fs.a f.fs.n f.fs.c) := (cell_of_row _ _ _ _ _ _ q0).trans rfl
      have x11 : wr.cell? ⟨w.heap.size, 11, none⟩ = some (.slice f.rs.a f.rs.n f.rs.c) := (cell_of_row _ _ _ _ _ _ q0).trans rfl
      have x12 : wr.cell? ⟨w.heap.size, 12, none⟩ = some (.slice f.cs.a f.cs.n f.cs.c) := (cell_of_row _ _ _ _ _ _ q0).trans rfl
      have x13 : wr.cell? ⟨w.heap.size, 13, none⟩ = some (.slice f.ss.a f.ss.n f.ss.c) := (cell_of_row _ _ _ _ _ _ q0).trans rfl
      have y0 : wr.cell? ⟨w.heap.size + 1, 0, none⟩ = some (.int .u8 0) := (cell_of_row _ _ _ _ _ _ q1).trans rfl
      have y1 : wr.cell? ⟨w.heap.size + 1, 1, none⟩ = some (.int .i64 0) := (cell_of_row _ _ _ _ _ _ q1).trans rfl
      have y2 : wr.cell? ⟨w.heap.size + 1, 2, none⟩ = some (.int .i64 0) := (cell_of_row _ _ _ _ _ _ q1).trans rfl
      have y3 : wr.cell? ⟨w.heap.size + 1, 3, none⟩ = some (.int .i64 0) := (cell_of_row _ _ _ _ _ _ q1).trans rfl
      have y4 : wr.cell? ⟨w.heap.size + 1, 4, none⟩ = some (.int .i64 0) := (cell_of_row _ _ _ _ _ _ q1).trans rfl
      have y5 : wr.cell? ⟨w.heap.size + 1, 5, none⟩ = some (.int .i64 0) := (cell_of_row _ _ _ _ _ _ q1).trans rfl
      have y6 : wr.cell? ⟨w.heap.size + 1, 6, none⟩ = some (.int .i64 0) := (cell_of_row _ _ _ _ _ _ q1).trans rfl
      have y7 : wr.cell? ⟨w.heap.size + 1, 7, none⟩ = some (.int .i64 0) := (cell_of_row _ _ _ _ _ _ q1).trans rfl
      have y8 : wr.cell? ⟨w.heap.size + 1, 8, none⟩ = some (.int .i64 0) := (cell_of_row _ _ _ _ _ _ q1).trans rfl
      have y9 : wr.cell? ⟨w.heap.size + 1, 9, none⟩ = some (.slice none 0 0) := (cell_of_row _ _ _ _ _ _ q1).trans rfl
      have y10 : wr.cell? ⟨w.heap.size + 1, 10, none⟩ = some (.slice none 0 0) := (cell_of_row _ _ _ _ _ _ q1).trans rfl
      have y11 : wr.cell? ⟨w.heap.size + 1, 11, none⟩ = some (.slice none 0 0) := (cell_of_row _ _ _ _ _ _ q1).trans rfl
      have y12 : wr.cell? ⟨w.heap.size + 1, 12, none⟩ = some (.slice none 0 0) := (cell_of_row _ _ _ _ _ _ q1).trans rfl
      have y13 : wr.cell? ⟨w.heap.size + 1, 13, none⟩ = some (.slice none 0 0) := (cell_of_row _ _ _ _ _ _ q1).trans rfl
      have fq := fun o => frozen_of_row wr (w.heap.size + 1) o _ _ q1
      have HQ1 := Lib.hid q1
      clear q0 q1
      go_wp2_with fail
      obtain ⟨hB, hK, hZ1⟩ := RMid.laid0 HH.out.1 (HA.out.1.trans (HB.out.mono HA.out.1.size)) f HQ1.out
      change bodyPost _ _ _ _ _ (Fr.laid f wr (w.heap.size + 1))
      clear y0 y1 y2 y3 y4 y5 y6 y7 y8 y9 y10 y11 y12 y13 x0 x1 x2 x3 x4 x5 x6 x7 x8 x9 x10 x11 x12 x13 fq
      generalize Fr.laid f wr (w.heap.size + 1) = Z at hB hK hZ1 ⊢
      have y0 : Z.cell? ⟨w.heap.size + 1, 0, none⟩ = some (.int .u8 f.kind) := (cell_of_row _ _ _ _ _ _ hZ1).trans rfl
      have y1 : Z.cell? ⟨w.heap.size + 1, 1, none⟩ = some (.int .i64 f.fa) := (cell_of_row _ _ _ _ _ _ hZ1).trans rfl
      have y2 : Z.cell? ⟨w.heap.size + 1, 2, none⟩ = some (.int .i64 f.fi) := (cell_of_row _ _ _ _ _ _ hZ1).trans rfl
      have y3 : Z.cell? ⟨w.heap.size + 1, 3, none⟩ = some (.int .i64 f.ta) := (cell_of_row _ _ _ _ _ _ hZ1).trans rfl
      have y4 : Z.cell? ⟨w.heap.size + 1, 4, none⟩ = some (.int .i64 f.ti) := (cell_of_row _ _ _ _ _ _ hZ1).trans rfl
      have y5 : Z.cell? ⟨w.heap.size + 1, 5, none⟩ = some (.int .i64 f.n) := (cell_of_row _ _ _ _ _ _ hZ1).trans rfl
      have y6 : Z.cell? ⟨w.heap.size + 1, 6, none⟩ = some (.int .i64 f.token) := (cell_of_row _ _ _ _ _ _ hZ1).trans rfl
      have y7 : Z.cell? ⟨w.heap.size + 1, 7, none⟩ = some (.int .i64 f.ba) := (cell_of_row _ _ _ _ _ _ hZ1).trans rfl
      have y8 : Z.cell? ⟨w.heap.size + 1, 8, none⟩ = some (.int .i64 f.bi) := (cell_of_row _ _ _ _ _ _ hZ1).trans rfl
      have y9 : Z.cell? ⟨w.heap.size + 1, 9, none⟩ = some (.slice f.ms.a f.ms.n f.ms.c) := (cell_of_row _ _ _ _ _ _ hZ1).trans rfl
      have y10 : Z.cell? ⟨w.heap.size + 1, 10, none⟩ = some (.slice f.fs.a f.fs.n f.fs.c) := (cell_of_row _ _ _ _ _ _ hZ1).trans rfl
      have y11 : Z.cell? ⟨w.heap.size + 1, 11, none⟩ = some (.slice f.rs.a f.rs.n f.rs.c) := (cell_of_row _ _ _ _ _ _ hZ1).trans rfl
      have y12 : Z.cell? ⟨w.heap.size + 1, 12, none⟩ = some (.slice f.cs.a f.cs.n f.cs.c) := (cell_of_row _ _ _ _ _ _ hZ1).trans rfl
      have y13 : Z.cell? ⟨w.heap.size + 1, 13, none⟩ = some (.slice f.ss.a f.ss.n f.ss.c) := (cell_of_row _ _ _ _ _ _ hZ1).trans rfl
      exact bodyPost_ret (v := .tuple #[.agg #[.int .u8 f.kind, .int .i64 f.fa, .int .i64 f.fi, .int .i64 f.ta, .int .i64 f.ti, .int .i64 f.n, .int .i64 f.token, .int .i64 f.ba, .int .i64 f.bi, .slice f.ms.a f.ms.n f.ms.c, .slice f.fs.a f.fs.n f.fs.c, .slice f.rs.a f.rs.n f.rs.c, .slice f.cs.a f.cs.n f.cs.c, .slice f.ss.a f.ss.n f.ss.c], .bool true]) (by simp [results, Try.results25, go_sem, y0, y1, y2, y3, y4, y5, y6, y7, y8, y9, y10, y11, y12, y13]) rfl ⟨_, _, f, by rw [HD.out]; rfl, by rw [HN.out.1]; exact hB, hK, by rw [HN.out.2]; exact hK.deep HH.out.1.pR HH.out.2, .inl ⟨rfl, rfl⟩⟩
theorem rput_any {P R : Nat} {m : Int} {v : Value} {l : List Fr} {ds : List Dat} {w : World} (f : Fr) (d : Dat) (h : RB P R m v l ds w) (hf : Deep P 0 P d f w) : Calls Try.prog 25 #[.pointer (some ⟨R, 0, none⟩), .agg #[.int .u8 f.kind, .int .i64 f.fa, .int .i64 f.fi, .int .i64 f.ta, .int .i64 f.ti, .int .i64 f.n, .int .i64 f.token, .int .i64 f.ba, .int .i64 f.bi, .slice f.ms.a f.ms.n f.ms.c, .slice f.fs.a f.fs.n f.fs.c, .slice f.rs.a f.rs.n f.rs.c, .slice f.cs.a f.cs.n f.cs.c, .slice f.ss.a f.ss.n f.ss.c]] w (RPut P R m v l ds d w) := by
  by_cases hq : (l.length : Int) < m
  · exact rput_free f d h hf hq
  · exact rput_full f d h hf hq
end Go.Proofs.Ytjdhdmljchnidaa
