/-
  The walk of own: a copy of a frame, by the contracts of what copies its lists.
-/
import Derived.Test.YtjdhdmljchnidaaOrd
namespace Go.Proofs.Ytjdhdmljchnidaa
open Go.RowKit
set_option linter.unusedVariables false
set_option linter.unusedSimpArgs false
attribute [local go_sem ↓] Go.wp_at_zero Go.wp_at_succ
/-- All blocks but the two from q on are as they were. -/
structure Stay (q : Nat) (w w' : World) : Prop where
  size : w.heap.size ≤ w'.heap.size
  block : ∀ k, k < w.heap.size → k ≠ q → k ≠ q + 1 → w'.heap[k]? = w.heap[k]?
theorem Stay.refl (q : Nat) (w : World) : Stay q w w := ⟨Nat.le_refl _, fun _ _ _ _ => rfl⟩
theorem Stay.trans {q : Nat} {a b c : World} (h : Stay q a b) (k : Stay q b c) : Stay q a c :=
  ⟨Nat.le_trans h.size k.size, fun i hi h1 h2 => (k.block i (Nat.lt_of_lt_of_le hi h.size) h1 h2).trans (h.block i hi h1 h2)⟩
theorem Stay.of_below {q : Nat} {a b : World} (h : Below a.heap.size a b) : Stay q a b := ⟨h.size, fun k hk _ _ => h.block k hk⟩
theorem Stay.setCell {q : Nat} {a b : World} (h : Stay q a b) {p : Addr} (hp : p.block = q ∨ p.block = q + 1) (u : Value) : Stay q a (b.setCell p u) :=
  ⟨by simp only [World.setCell, Array.size_modify]; exact h.size, fun k hk h1 h2 => by rw [Below.heap_setCell _ _ _ _ (by rcases hp with e | e <;> omega)]; exact h.block k hk h1 h2⟩
theorem Stay.drew {q : Nat} {a b : World} (h : Stay q a b) : Stay q a b.drew := ⟨h.size, h.block⟩
/-- What the contracts of the five lists' copies say: R i s w: the i-th list's copy s reads so at w. -/
structure Lists (R : Nat → SL → World → Prop) (w : World) (l1 l2 l3 l4 l5 : SL) : Prop where
  stay : ∀ i s a b, R i s a → Stay w.heap.size a b → R i s b
  c1 : ∀ a, Below w.heap.size w a → w.heap.size + 2 ≤ a.heap.size → Calls Try.prog 37 #[l1.val] a fun e b => ∃ s : SL, e = .returned s.val ∧ R 1 s b ∧ Below a.heap.size a b
  c2 : ∀ a, Below w.heap.size w a → w.heap.size + 2 ≤ a.heap.size → Calls Try.prog 38 #[l2.val] a fun e b => ∃ s : SL, e = .returned s.val ∧ R 2 s b ∧ Below a.heap.size a b
  c3 : ∀ a, Below w.heap.size w a → w.heap.size + 2 ≤ a.heap.size → Calls Try.prog 40 #[l3.val, .func (.func 41) #[] #[]] a fun e b => ∃ s : SL, e = .returned s.val ∧ R 3 s b ∧ Below a.heap.size a b
  c4 : ∀ a, Below w.heap.size w a → w.heap.size + 2 ≤ a.heap.size → Calls Try.prog 39 #[l4.val] a fun e b => ∃ s : SL, e = .returned s.val ∧ R 4 s b ∧ Below a.heap.size a b
  c5 : ∀ a, Below w.heap.size w a → w.heap.size + 2 ≤ a.heap.size → Calls Try.prog 38 #[l5.val] a fun e b => ∃ s : SL, e = .returned s.val ∧ R 5 s b ∧ Below a.heap.size a b
/-- The copy of a frame. -/
def Owned (R : Nat → SL → World → Prop) (f : Fr) (w : World) (e : Ending) (w' : World) : Prop :=
  ∃ s1 s2 s3 s4 s5 : SL, e = .returned ({ f with ms := s1, fs := s2, rs := s3, cs := s4, ss := s5 } : Fr).val ∧ R 1 s1 w' ∧ R 2 s2 w' ∧ R 3 s3 w' ∧ R 4 s4 w' ∧ R 5 s5 w' ∧ Below w.heap.size w w'
set_option maxRecDepth 100000 in
set_option maxHeartbeats 4000000 in
theorem own_any (R : Nat → SL → World → Prop) (k fa fi ta ti n tk ba bi : Int) (a1 a2 a3 a4 a5 : Option Addr) (n1 c1 n2 c2 n3 c3 n4 c4 n5 c5 : Nat) (w : World)
    (hL : Lists R w ⟨a1, n1, c1⟩ ⟨a2, n2, c2⟩ ⟨a3, n3, c3⟩ ⟨a4, n4, c4⟩ ⟨a5, n5, c5⟩) :
    Calls Try.prog 31 #[.agg #[.int .u8 k, .int .i64 fa, .int .i64 fi, .int .i64 ta, .int .i64 ti, .int .i64 n, .int .i64 tk, .int .i64 ba, .int .i64 bi, .slice a1 n1 c1, .slice a2 n2 c2, .slice a3 n3 c3, .slice a4 n4 c4, .slice a5 n5 c5]] w (Owned R ⟨k, fa, fi, ta, ti, n, tk, ba, bi, ⟨a1, n1, c1⟩, ⟨a2, n2, c2⟩, ⟨a3, n3, c3⟩, ⟨a4, n4, c4⟩, ⟨a5, n5, c5⟩⟩ w) := by
  have hbel : Below w.heap.size w ((w.alloc (.cells #[.int .u8 k, .int .i64 fa, .int .i64 fi, .int .i64 ta, .int .i64 ti, .int .i64 n, .int .i64 tk, .int .i64 ba, .int .i64 bi, .slice a1 n1 c1, .slice a2 n2 c2, .slice a3 n3 c3, .slice a4 n4 c4, .slice a5 n5 c5] 38)).alloc (.cells Fr.zero.cells 38)) := ((Below.refl _ _).alloc (Nat.le_refl _) _).alloc (by simp) _
  have hQ : ((w.alloc (.cells #[.int .u8 k, .int .i64 fa, .int .i64 fi, .int .i64 ta, .int .i64 ti, .int .i64 n, .int .i64 tk, .int .i64 ba, .int .i64 bi, .slice a1 n1 c1, .slice a2 n2 c2, .slice a3 n3 c3, .slice a4 n4 c4, .slice a5 n5 c5] 38)).alloc (.cells Fr.zero.cells 38)).heap[w.heap.size]? = some (.cells #[.int .u8 k, .int .i64 fa, .int .i64 fi, .int .i64 ta, .int .i64 ti, .int .i64 n, .int .i64 tk, .int .i64 ba, .int .i64 bi, .slice a1 n1 c1, .slice a2 n2 c2, .slice a3 n3 c3, .slice a4 n4 c4, .slice a5 n5 c5] 38 (0, 0)) := (Below.heap_alloc _ _ _ (by simp)).trans (heap_alloc_new _ _)
  have hQ1 : ((w.alloc (.cells #[.int .u8 k, .int .i64 fa, .int .i64 fi, .int .i64 ta, .int .i64 ti, .int .i64 n, .int .i64 tk, .int .i64 ba, .int .i64 bi, .slice a1 n1 c1, .slice a2 n2 c2, .slice a3 n3 c3, .slice a4 n4 c4, .slice a5 n5 c5] 38)).alloc (.cells Fr.zero.cells 38)).heap[w.heap.size + 1]? = some (.cells Fr.zero.cells 38 (0, 0)) := by
    rw [show w.heap.size + 1 = (w.alloc (.cells #[.int .u8 k, .int .i64 fa, .int .i64 fi, .int .i64 ta, .int .i64 ti, .int .i64 n, .int .i64 tk, .int .i64 ba, .int .i64 bi, .slice a1 n1 c1, .slice a2 n2 c2, .slice a3 n3 c3, .slice a4 n4 c4, .slice a5 n5 c5] 38)).heap.size by simp]; exact heap_alloc_new _ _
  have hsz : w.heap.size + 2 ≤ ((w.alloc (.cells #[.int .u8 k, .int .i64 fa, .int .i64 fi, .int .i64 ta, .int .i64 ti, .int .i64 n, .int .i64 tk, .int .i64 ba, .int .i64 bi, .slice a1 n1 c1, .slice a2 n2 c2, .slice a3 n3 c3, .slice a4 n4 c4, .slice a5 n5 c5] 38)).alloc (.cells Fr.zero.cells 38)).heap.size := by simp
  have hst := Lib.hid hL.stay
  have h1 := hL.c1
  have h2 := hL.c2
  have h3 := hL.c3
  have h4 := hL.c4
  have h5 := hL.c5
  simp only [SL.val] at h1 h2 h3 h4 h5
  clear hL
  simp only [Fr.zero, Fr.cells, SL.nil] at hbel hQ hQ1 hsz
  go_enter Try.func31, Try.ntmps31
  go_wp2_with fail
  generalize ((w.alloc (.cells #[.int .u8 k, .int .i64 fa, .int .i64 fi, .int .i64 ta, .int .i64 ti, .int .i64 n, .int .i64 tk, .int .i64 ba, .int .i64 bi, .slice a1 n1 c1, .slice a2 n2 c2, .slice a3 n3 c3, .slice a4 n4 c4, .slice a5 n5 c5] 38)).alloc (.cells #[.int .u8 0, .int .i64 0, .int .i64 0, .int .i64 0, .int .i64 0, .int .i64 0, .int .i64 0, .int .i64 0, .int .i64 0, .slice none 0 0, .slice none 0 0, .slice none 0 0, .slice none 0 0, .slice none 0 0] 38)) = Y at hbel hQ hQ1 hsz ⊢
  have hbel := then_drew hbel
  have hsz : w.heap.size + 2 ≤ Y.drew.heap.size := hsz
  have hQ : Y.drew.heap[w.heap.size]? = some (.cells #[.int .u8 k, .int .i64 fa, .int .i64 fi, .int .i64 ta, .int .i64 ti, .int .i64 n, .int .i64 tk, .int .i64 ba, .int .i64 bi, .slice a1 n1 c1, .slice a2 n2 c2, .slice a3 n3 c3, .slice a4 n4 c4, .slice a5 n5 c5] 38 (0, 0)) := hQ
  have hQ1 : Y.drew.heap[w.heap.size + 1]? = _ := hQ1
  obtain ⟨q, hq⟩ : ∃ q, q = w.heap.size := ⟨_, rfl⟩
  simp only [← hq] at hbel hQ hQ1 hsz h1 h2 h3 h4 h5 hst ⊢
  have HQ := Lib.hid hq
  clear hq
  have hql : q < Y.drew.heap.size := by omega
  have hql1 : q + 1 < Y.drew.heap.size := by omega
  have z9 : Y.drew.cell? ⟨q, 9, none⟩ = some (.slice a1 n1 c1) := (cell_of_row _ _ _ _ _ _ hQ).trans rfl
  have z10 : Y.drew.cell? ⟨q, 10, none⟩ = some (.slice a2 n2 c2) := (cell_of_row _ _ _ _ _ _ hQ).trans rfl
  have z11 : Y.drew.cell? ⟨q, 11, none⟩ = some (.slice a3 n3 c3) := (cell_of_row _ _ _ _ _ _ hQ).trans rfl
  have z12 : Y.drew.cell? ⟨q, 12, none⟩ = some (.slice a4 n4 c4) := (cell_of_row _ _ _ _ _ _ hQ).trans rfl
  have z13 : Y.drew.cell? ⟨q, 13, none⟩ = some (.slice a5 n5 c5) := (cell_of_row _ _ _ _ _ _ hQ).trans rfl
  refine wp_region_any (by kernel_rfl) ?_
  try (change wpAny _ _ _ _ _ _ _ (World.drew _))
  refine wpAny_take (i := 0) (v := ?_) rfl (by kernel_rfl) (by kernel_rfl) (by kernel_rfl) (fun _ _ _ h => h) (Or.inl ⟨by rfl, ?_⟩) ?_
  rotate_left
  · (intro w; go_simp) <;> with_reducible rfl
  refine wpAny_take (i := 1) (v := ?_) rfl (by kernel_rfl) (by kernel_rfl) (by kernel_rfl) (fun _ _ _ h => h) (Or.inl ⟨by rfl, ?_⟩) ?_
  rotate_left
  · (intro w; go_simp) <;> with_reducible rfl
  refine wpAny_take (i := 2) (v := ?_) rfl (by kernel_rfl) (by kernel_rfl) (by kernel_rfl) (fun _ _ _ h => h) (Or.inl ⟨by rfl, ?_⟩) ?_
  rotate_left
  · (intro w; go_simp) <;> with_reducible rfl
  refine wpAny_take (i := 3) (v := ?_) rfl (by kernel_rfl) (by kernel_rfl) (by kernel_rfl) (fun _ _ _ h => h) (Or.inl ⟨by rfl, ?_⟩) ?_
  rotate_left
  · (intro w; go_simp) <;> with_reducible rfl
  refine wpAny_take (i := 4) (v := ?_) rfl (by kernel_rfl) (by kernel_rfl) (by kernel_rfl) (fun _ _ _ h => h) (Or.inl ⟨by rfl, ?_⟩) ?_
  rotate_left
  · (intro w; go_simp) <;> with_reducible rfl
  refine wpAny_take (i := 5) (v := ?_) rfl (by kernel_rfl) (by kernel_rfl) (by kernel_rfl) (fun _ _ _ h => h) (Or.inl ⟨by rfl, ?_⟩) ?_
  rotate_left
  · (intro w; go_simp) <;> with_reducible rfl
  refine wpAny_take (i := 6) (v := ?_) rfl (by kernel_rfl) (by kernel_rfl) (by kernel_rfl) (fun _ _ _ h => h) (Or.inl ⟨by rfl, ?_⟩) ?_
  rotate_left
  · (intro w; go_simp) <;> with_reducible rfl
  refine wpAny_take (i := 9) (v := ?_) rfl (by kernel_rfl) (by kernel_rfl) (by kernel_rfl) (fun _ _ _ h => h) (Or.inl ⟨by rfl, ?_⟩) ?_
  rotate_left
  · (intro w; go_simp) <;> with_reducible rfl
  refine wpAny_take (i := 10) (v := ?_) rfl (by kernel_rfl) (by kernel_rfl) (by kernel_rfl) (fun _ _ _ h => h) (Or.inl ⟨by rfl, ?_⟩) ?_
  rotate_left
  · (intro w; go_simp) <;> with_reducible rfl
  refine wpAny_take (i := 11) (v := ?_) rfl (by kernel_rfl) (by kernel_rfl) (by kernel_rfl) (fun _ _ _ h => h) (Or.inl ⟨by rfl, ?_⟩) ?_
  rotate_left
  · (intro w; go_simp) <;> with_reducible rfl
  refine wpAny_take (i := 14) (v := ?_) rfl (by kernel_rfl) (by kernel_rfl) (by kernel_rfl) (fun _ _ _ h => h) (Or.inl ⟨by rfl, ?_⟩) ?_
  rotate_left
  · (intro w; go_simp) <;> with_reducible rfl
  refine wpAny_take (i := 15) (v := ?_) rfl (by kernel_rfl) (by kernel_rfl) (by kernel_rfl) (fun _ _ _ h => h) (Or.inl ⟨by rfl, ?_⟩) ?_
  rotate_left
  · (intro w; go_simp) <;> with_reducible rfl
  refine wpAny_take (i := 16) (v := ?_) rfl (by kernel_rfl) (by kernel_rfl) (by kernel_rfl) (fun _ _ _ h => h) (Or.inl ⟨by rfl, ?_⟩) ?_
  rotate_left
  · (intro w; go_simp) <;> with_reducible rfl
  refine wpAny_take (i := 19) (v := ?_) rfl (by kernel_rfl) (by kernel_rfl) (by kernel_rfl) (fun _ _ _ h => h) (Or.inl ⟨by rfl, ?_⟩) ?_
  rotate_left
  · (intro w; go_simp) <;> with_reducible rfl
  refine wpAny_take (i := 20) (v := ?_) rfl (by kernel_rfl) (by kernel_rfl) (by kernel_rfl) (fun _ _ _ h => h) (Or.inl ⟨by rfl, ?_⟩) ?_
  rotate_left
  · (intro w; go_simp) <;> with_reducible rfl
  refine wpAny_take (i := 21) (v := ?_) rfl (by kernel_rfl) (by kernel_rfl) (by kernel_rfl) (fun _ _ _ h => h) (Or.inl ⟨by rfl, ?_⟩) ?_
  rotate_left
  · (intro w; go_simp) <;> with_reducible rfl
  refine wpAny_of_till (S := fun x => x.cell? ⟨q, 9, none⟩ = some (.slice a1 n1 c1) ∧ x.cell? ⟨q, 10, none⟩ = some (.slice a2 n2 c2) ∧ x.cell? ⟨q, 12, none⟩ = some (.slice a4 n4 c4) ∧ x.cell? ⟨q, 13, none⟩ = some (.slice a5 n5 c5)) (k := 26) _ _ _ _ ?_
  have hS : (fun x : World => x.cell? ⟨q, 9, none⟩ = some (.slice a1 n1 c1) ∧ x.cell? ⟨q, 10, none⟩ = some (.slice a2 n2 c2) ∧ x.cell? ⟨q, 12, none⟩ = some (.slice a4 n4 c4) ∧ x.cell? ⟨q, 13, none⟩ = some (.slice a5 n5 c5)) Y.drew := ⟨z9, z10, z12, z13⟩
  refine wpTill_take (i := 7) (v := .slice a1 n1 c1) rfl (by kernel_rfl) (by kernel_rfl) (by kernel_rfl) (by kernel_rfl) (fun _ _ _ h => h) (Or.inl ⟨by rfl, ?_⟩) hS ?_
  · intro w hSw; (try dsimp only at hSw); obtain ⟨x1, x2, x3, x4⟩ := hSw; go_simp
  try simp only [Act.put, List.setIfInBounds_toArray, List.set_cons_zero, List.set_cons_succ]
  refine wpTill_take (i := 12) (v := .slice a2 n2 c2) rfl (by kernel_rfl) (by kernel_rfl) (by kernel_rfl) (by kernel_rfl) (fun _ _ _ h => h) (Or.inl ⟨by rfl, ?_⟩) hS ?_
  · intro w hSw; (try dsimp only at hSw); obtain ⟨x1, x2, x3, x4⟩ := hSw; go_simp
  try simp only [Act.put, List.setIfInBounds_toArray, List.set_cons_zero, List.set_cons_succ]
  refine wpTill_take (i := 17) (v := .slice a4 n4 c4) rfl (by kernel_rfl) (by kernel_rfl) (by kernel_rfl) (by kernel_rfl) (fun _ _ _ h => h) (Or.inl ⟨by rfl, ?_⟩) hS ?_
  · intro w hSw; (try dsimp only at hSw); obtain ⟨x1, x2, x3, x4⟩ := hSw; go_simp
  try simp only [Act.put, List.setIfInBounds_toArray, List.set_cons_zero, List.set_cons_succ]
  refine wpTill_take (i := 22) (v := .slice a5 n5 c5) rfl (by kernel_rfl) (by kernel_rfl) (by kernel_rfl) (by kernel_rfl) (fun _ _ _ h => h) (Or.inl ⟨by rfl, ?_⟩) hS ?_
  · intro w hSw; (try dsimp only at hSw); obtain ⟨x1, x2, x3, x4⟩ := hSw; go_simp
  try simp only [Act.put, List.setIfInBounds_toArray, List.set_cons_zero, List.set_cons_succ]
  refine wpTill_one (i := 8) (by kernel_rfl) rfl (by kernel_rfl) (fun K hK => ?_)
  go_simp
  refine (h1 _ hbel hsz).mono ?_
  rintro e w1 ⟨⟨b1, m1, d1⟩, rfl, r1, hb⟩
  simp only [SL.val]
  have z9 := (hb.cell (p := ⟨q, 9, none⟩) hql).trans z9
  have z10 := (hb.cell (p := ⟨q, 10, none⟩) hql).trans z10
  have z11 := (hb.cell (p := ⟨q, 11, none⟩) hql).trans z11
  have z12 := (hb.cell (p := ⟨q, 12, none⟩) hql).trans z12
  have z13 := (hb.cell (p := ⟨q, 13, none⟩) hql).trans z13
  have hQ := (hb.block _ hql).trans hQ
  have hQ1 := (hb.block _ hql1).trans hQ1
  have hbel := hbel.trans (hb.mono (by omega))
  have hsz := Nat.le_trans hsz hb.size
  have hql := Nat.lt_of_lt_of_le hql hb.size
  have hql1 := Nat.lt_of_lt_of_le hql1 hb.size
  have r1 := Lib.hid r1
  clear hb hS
  have hS : (fun x : World => x.cell? ⟨q, 9, none⟩ = some (.slice a1 n1 c1) ∧ x.cell? ⟨q, 10, none⟩ = some (.slice a2 n2 c2) ∧ x.cell? ⟨q, 12, none⟩ = some (.slice a4 n4 c4) ∧ x.cell? ⟨q, 13, none⟩ = some (.slice a5 n5 c5)) w1 := ⟨z9, z10, z12, z13⟩
  skip
  go_wp2_with fail
  refine hK.out _ _ hS ?_; clear hK K
  try simp only [Act.put, List.setIfInBounds_toArray, List.set_cons_zero, List.set_cons_succ]
  refine wpTill_one (i := 13) (by kernel_rfl) rfl (by kernel_rfl) (fun K hK => ?_)
  go_simp
  refine (h2 _ hbel hsz).mono ?_
  rintro e w2 ⟨⟨b2, m2, d2⟩, rfl, r2, hb⟩
  simp only [SL.val]
  have z9 := (hb.cell (p := ⟨q, 9, none⟩) hql).trans z9
  have z10 := (hb.cell (p := ⟨q, 10, none⟩) hql).trans z10
  have z11 := (hb.cell (p := ⟨q, 11, none⟩) hql).trans z11
  have z12 := (hb.cell (p := ⟨q, 12, none⟩) hql).trans z12
  have z13 := (hb.cell (p := ⟨q, 13, none⟩) hql).trans z13
  have hQ := (hb.block _ hql).trans hQ
  have hQ1 := (hb.block _ hql1).trans hQ1
  have hbel := hbel.trans (hb.mono (by omega))
  have hsz := Nat.le_trans hsz hb.size
  have hql := Nat.lt_of_lt_of_le hql hb.size
  have hql1 := Nat.lt_of_lt_of_le hql1 hb.size
  have r1 := Lib.hid (hst.out _ _ _ _ r1.out (Stay.of_below hb))
  have r2 := Lib.hid r2
  clear hb hS
  have hS : (fun x : World => x.cell? ⟨q, 9, none⟩ = some (.slice a1 n1 c1) ∧ x.cell? ⟨q, 10, none⟩ = some (.slice a2 n2 c2) ∧ x.cell? ⟨q, 12, none⟩ = some (.slice a4 n4 c4) ∧ x.cell? ⟨q, 13, none⟩ = some (.slice a5 n5 c5)) w2 := ⟨z9, z10, z12, z13⟩
  skip
  go_wp2_with fail
  refine hK.out _ _ hS ?_; clear hK K
  try simp only [Act.put, List.setIfInBounds_toArray, List.set_cons_zero, List.set_cons_succ]
  refine wpTill_one (i := 18) (by kernel_rfl) rfl (by kernel_rfl) (fun K hK => ?_)
  go_simp
  refine (h4 _ hbel hsz).mono ?_
  rintro e w4 ⟨⟨b4, m4, d4⟩, rfl, r4, hb⟩
  simp only [SL.val]
  have z9 := (hb.cell (p := ⟨q, 9, none⟩) hql).trans z9
  have z10 := (hb.cell (p := ⟨q, 10, none⟩) hql).trans z10
  have z11 := (hb.cell (p := ⟨q, 11, none⟩) hql).trans z11
  have z12 := (hb.cell (p := ⟨q, 12, none⟩) hql).trans z12
  have z13 := (hb.cell (p := ⟨q, 13, none⟩) hql).trans z13
  have hQ := (hb.block _ hql).trans hQ
  have hQ1 := (hb.block _ hql1).trans hQ1
  have hbel := hbel.trans (hb.mono (by omega))
  have hsz := Nat.le_trans hsz hb.size
  have hql := Nat.lt_of_lt_of_le hql hb.size
  have hql1 := Nat.lt_of_lt_of_le hql1 hb.size
  have r1 := Lib.hid (hst.out _ _ _ _ r1.out (Stay.of_below hb))
  have r2 := Lib.hid (hst.out _ _ _ _ r2.out (Stay.of_below hb))
  have r4 := Lib.hid r4
  clear hb hS
  have hS : (fun x : World => x.cell? ⟨q, 9, none⟩ = some (.slice a1 n1 c1) ∧ x.cell? ⟨q, 10, none⟩ = some (.slice a2 n2 c2) ∧ x.cell? ⟨q, 12, none⟩ = some (.slice a4 n4 c4) ∧ x.cell? ⟨q, 13, none⟩ = some (.slice a5 n5 c5)) w4 := ⟨z9, z10, z12, z13⟩
  skip
  go_wp2_with fail
  refine hK.out _ _ hS ?_; clear hK K
  try simp only [Act.put, List.setIfInBounds_toArray, List.set_cons_zero, List.set_cons_succ]
  refine wpTill_one (i := 23) (by kernel_rfl) rfl (by kernel_rfl) (fun K hK => ?_)
  go_simp
  refine (h5 _ hbel hsz).mono ?_
  rintro e w5 ⟨⟨b5, m5, d5⟩, rfl, r5, hb⟩
  simp only [SL.val]
  have z9 := (hb.cell (p := ⟨q, 9, none⟩) hql).trans z9
  have z10 := (hb.cell (p := ⟨q, 10, none⟩) hql).trans z10
  have z11 := (hb.cell (p := ⟨q, 11, none⟩) hql).trans z11
  have z12 := (hb.cell (p := ⟨q, 12, none⟩) hql).trans z12
  have z13 := (hb.cell (p := ⟨q, 13, none⟩) hql).trans z13
  have hQ := (hb.block _ hql).trans hQ
  have hQ1 := (hb.block _ hql1).trans hQ1
  have hbel := hbel.trans (hb.mono (by omega))
  have hsz := Nat.le_trans hsz hb.size
  have hql := Nat.lt_of_lt_of_le hql hb.size
  have hql1 := Nat.lt_of_lt_of_le hql1 hb.size
  have r1 := Lib.hid (hst.out _ _ _ _ r1.out (Stay.of_below hb))
  have r2 := Lib.hid (hst.out _ _ _ _ r2.out (Stay.of_below hb))
  have r4 := Lib.hid (hst.out _ _ _ _ r4.out (Stay.of_below hb))
  have r5 := Lib.hid r5
  clear hb hS
  have hS : (fun x : World => x.cell? ⟨q, 9, none⟩ = some (.slice a1 n1 c1) ∧ x.cell? ⟨q, 10, none⟩ = some (.slice a2 n2 c2) ∧ x.cell? ⟨q, 12, none⟩ = some (.slice a4 n4 c4) ∧ x.cell? ⟨q, 13, none⟩ = some (.slice a5 n5 c5)) w5 := ⟨z9, z10, z12, z13⟩
  skip
  go_wp2_with fail
  refine hK.out _ _ hS ?_; clear hK K
  try simp only [Act.put, List.setIfInBounds_toArray, List.set_cons_zero, List.set_cons_succ]
  refine wpTill_one (i := 24) (by kernel_rfl) rfl (by kernel_rfl) (fun K hK => ?_)
  go_simp
  refine hK.out _ _ hS ?_; clear hK K
  try simp only [Act.put, List.setIfInBounds_toArray, List.set_cons_zero, List.set_cons_succ]
  refine wpTill_one (i := 25) (by kernel_rfl) rfl (by kernel_rfl) (fun K hK => ?_)
  go_simp
  refine hK.out _ _ hS ?_; clear hK K
  try simp only [Act.put, List.setIfInBounds_toArray, List.set_cons_zero, List.set_cons_succ]
  have f9 : w5.frozen? ⟨q, 9, none⟩ = false := frozen_of_row _ _ _ _ _ hQ
  have f10 : w5.frozen? ⟨q, 10, none⟩ = false := frozen_of_row _ _ _ _ _ hQ
  have f12 : w5.frozen? ⟨q, 12, none⟩ = false := frozen_of_row _ _ _ _ _ hQ
  have f13 : w5.frozen? ⟨q, 13, none⟩ = false := frozen_of_row _ _ _ _ _ hQ
  refine wpTill_end (by kernel_rfl) rfl (fun K hK => ?_)
  go_simp
  refine hK.out _ _ ?_; clear hK K
  refine wpAny_take (i := 27) (v := ?_) rfl (by kernel_rfl) (by kernel_rfl) (by kernel_rfl) (fun _ _ _ h => h) (Or.inl ⟨by rfl, ?_⟩) ?_
  rotate_left
  · (intro w; go_simp) <;> with_reducible rfl
  refine wpAny_take (i := 28) (v := ?_) rfl (by kernel_rfl) (by kernel_rfl) (by kernel_rfl) (fun _ _ _ h => h) (Or.inl ⟨by rfl, ?_⟩) ?_
  rotate_left
  · (intro w; go_simp) <;> with_reducible rfl
  refine wpAny_one (i := 29) (by kernel_rfl) rfl (fun K hK => ?_)
  go_simp
  refine hK.out _ _ ?_; clear hK K
  refine wpAny_take (i := 30) (v := ?_) rfl (by kernel_rfl) (by kernel_rfl) (by kernel_rfl) (fun _ _ _ h => h) (Or.inl ⟨by rfl, ?_⟩) ?_
  rotate_left
  · (intro w; go_simp) <;> with_reducible rfl
  refine wpAny_take (i := 31) (v := ?_) rfl (by kernel_rfl) (by kernel_rfl) (by kernel_rfl) (fun _ _ _ h => h) (Or.inl ⟨by rfl, ?_⟩) ?_
  rotate_left
  · (intro w; go_simp) <;> with_reducible rfl
  refine wpAny_one (i := 32) (by kernel_rfl) rfl (fun K hK => ?_)
  go_simp
  refine hK.out _ _ ?_; clear hK K
  refine wpAny_take (i := 33) (v := ?_) rfl (by kernel_rfl) (by kernel_rfl) (by kernel_rfl) (fun _ _ _ h => h) (Or.inl ⟨by rfl, ?_⟩) ?_
  rotate_left
  · (intro w; go_simp) <;> with_reducible rfl
  refine wpAny_take (i := 34) (v := ?_) rfl (by kernel_rfl) (by kernel_rfl) (by kernel_rfl) (fun _ _ _ h => h) (Or.inl ⟨by rfl, ?_⟩) ?_
  rotate_left
  · (intro w; go_simp) <;> with_reducible rfl
  refine wpAny_one (i := 35) (by kernel_rfl) rfl (fun K hK => ?_)
  go_simp
  refine hK.out _ _ ?_; clear hK K
  refine wpAny_done (by kernel_rfl) ?_ _
  go_simp
  have hQ2 : ((((w5.setCell ⟨q, 9, none⟩ (.slice b1 m1 d1)).setCell ⟨q, 10, none⟩ (.slice b2 m2 d2)).setCell ⟨q, 12, none⟩ (.slice b4 m4 d4)).setCell ⟨q, 13, none⟩ (.slice b5 m5 d5)).heap[q]? = some (.cells #[.int .u8 k, .int .i64 fa, .int .i64 fi, .int .i64 ta, .int .i64 ti, .int .i64 n, .int .i64 tk, .int .i64 ba, .int .i64 bi, .slice b1 m1 d1, .slice b2 m2 d2, .slice a3 n3 c3, .slice b4 m4 d4, .slice b5 m5 d5] 38 (0, 0)) := by
    rw [heap_setCell_same _ _ _ _ _ _ (heap_setCell_same _ _ _ _ _ _ (heap_setCell_same _ _ _ _ _ _ (heap_setCell_same _ _ _ _ _ _ hQ)))]; rfl
  have hQ3 : ((((w5.setCell ⟨q, 9, none⟩ (.slice b1 m1 d1)).setCell ⟨q, 10, none⟩ (.slice b2 m2 d2)).setCell ⟨q, 12, none⟩ (.slice b4 m4 d4)).setCell ⟨q, 13, none⟩ (.slice b5 m5 d5)).heap[q + 1]? = some (.cells #[.int .u8 0, .int .i64 0, .int .i64 0, .int .i64 0, .int .i64 0, .int .i64 0, .int .i64 0, .int .i64 0, .int .i64 0, .slice none 0 0, .slice none 0 0, .slice none 0 0, .slice none 0 0, .slice none 0 0] 38 (0, 0)) := by
    rw [Below.heap_setCell _ _ _ _ (by simp), Below.heap_setCell _ _ _ _ (by simp), Below.heap_setCell _ _ _ _ (by simp), Below.heap_setCell _ _ _ _ (by simp)]; exact hQ1
  have hb2 : Below q w ((((w5.setCell ⟨q, 9, none⟩ (.slice b1 m1 d1)).setCell ⟨q, 10, none⟩ (.slice b2 m2 d2)).setCell ⟨q, 12, none⟩ (.slice b4 m4 d4)).setCell ⟨q, 13, none⟩ (.slice b5 m5 d5)) :=
    (((hbel.setCell (p := ⟨q, 9, none⟩) (Nat.le_refl _) _).setCell (p := ⟨q, 10, none⟩) (Nat.le_refl _) _).setCell (p := ⟨q, 12, none⟩) (Nat.le_refl _) _).setCell (p := ⟨q, 13, none⟩) (Nat.le_refl _) _
  have hs2 : q + 2 ≤ ((((w5.setCell ⟨q, 9, none⟩ (.slice b1 m1 d1)).setCell ⟨q, 10, none⟩ (.slice b2 m2 d2)).setCell ⟨q, 12, none⟩ (.slice b4 m4 d4)).setCell ⟨q, 13, none⟩ (.slice b5 m5 d5)).heap.size := by simp only [World.setCell, Array.size_modify]; exact hsz
  have hSt : Stay q w5 ((((w5.setCell ⟨q, 9, none⟩ (.slice b1 m1 d1)).setCell ⟨q, 10, none⟩ (.slice b2 m2 d2)).setCell ⟨q, 12, none⟩ (.slice b4 m4 d4)).setCell ⟨q, 13, none⟩ (.slice b5 m5 d5)) :=
    ((((Stay.refl q w5).setCell (p := ⟨q, 9, none⟩) (.inl rfl) _).setCell (p := ⟨q, 10, none⟩) (.inl rfl) _).setCell (p := ⟨q, 12, none⟩) (.inl rfl) _).setCell (p := ⟨q, 13, none⟩) (.inl rfl) _
  have r1 := Lib.hid (hst.out _ _ _ _ r1.out hSt)
  have r2 := Lib.hid (hst.out _ _ _ _ r2.out hSt)
  have r4 := Lib.hid (hst.out _ _ _ _ r4.out hSt)
  have r5 := Lib.hid (hst.out _ _ _ _ r5.out hSt)
  clear hSt f9 f10 f12 f13 hS z9 z10 z11 z12 z13 hQ hQ1 hbel hsz hql hql1
  generalize ((((w5.setCell ⟨q, 9, none⟩ (.slice b1 m1 d1)).setCell ⟨q, 10, none⟩ (.slice b2 m2 d2)).setCell ⟨q, 12, none⟩ (.slice b4 m4 d4)).setCell ⟨q, 13, none⟩ (.slice b5 m5 d5)) = Z at hQ2 hQ3 hb2 hs2 r1 r2 r4 r5 ⊢
  have z11 : Z.cell? ⟨q, 11, none⟩ = some (.slice a3 n3 c3) := (cell_of_row _ _ _ _ _ _ hQ2).trans rfl
  go_wp2_with fail
  refine (h3 _ hb2 hs2).mono ?_
  rintro e w3 ⟨⟨b3, m3, d3⟩, rfl, r3, hb⟩
  simp only [SL.val]
  have hq1 : q < Z.heap.size := by omega
  have hq2 : q + 1 < Z.heap.size := by omega
  have hQ := (hb.block _ hq1).trans hQ2
  have hQ1 := (hb.block _ hq2).trans hQ3
  have hbel := hb2.trans (hb.mono (by omega))
  have r1 := Lib.hid (hst.out _ _ _ _ r1.out (Stay.of_below hb))
  have r2 := Lib.hid (hst.out _ _ _ _ r2.out (Stay.of_below hb))
  have r4 := Lib.hid (hst.out _ _ _ _ r4.out (Stay.of_below hb))
  have r5 := Lib.hid (hst.out _ _ _ _ r5.out (Stay.of_below hb))
  have r3 := Lib.hid r3
  clear hb hQ2 hQ3 hb2 hs2 z11 hq1 hq2
  have z0 : w3.cell? ⟨q, 0, none⟩ = some (.int .u8 k) := (cell_of_row _ _ _ _ _ _ hQ).trans rfl
  have y0 : w3.cell? ⟨q + 1, 0, none⟩ = some (.int .u8 0) := (cell_of_row _ _ _ _ _ _ hQ1).trans rfl
  have g0 : w3.frozen? ⟨q + 1, 0, none⟩ = false := frozen_of_row _ _ _ _ _ hQ1
  have z1 : w3.cell? ⟨q, 1, none⟩ = some (.int .i64 fa) := (cell_of_row _ _ _ _ _ _ hQ).trans rfl
  have y1 : w3.cell? ⟨q + 1, 1, none⟩ = some (.int .i64 0) := (cell_of_row _ _ _ _ _ _ hQ1).trans rfl
  have g1 : w3.frozen? ⟨q + 1, 1, none⟩ = false := frozen_of_row _ _ _ _ _ hQ1
  have z2 : w3.cell? ⟨q, 2, none⟩ = some (.int .i64 fi) := (cell_of_row _ _ _ _ _ _ hQ).trans rfl
  have y2 : w3.cell? ⟨q + 1, 2, none⟩ = some (.int .i64 0) := (cell_of_row _ _ _ _ _ _ hQ1).trans rfl
  have g2 : w3.frozen? ⟨q + 1, 2, none⟩ = false := frozen_of_row _ _ _ _ _ hQ1
  have z3 : w3.cell? ⟨q, 3, none⟩ = some (.int .i64 ta) := (cell_of_row _ _ _ _ _ _ hQ).trans rfl
  have y3 : w3.cell? ⟨q + 1, 3, none⟩ = some (.int .i64 0) := (cell_of_row _ _ _ _ _ _ hQ1).trans rfl
  have g3 : w3.frozen? ⟨q + 1, 3, none⟩ = false := frozen_of_row _ _ _ _ _ hQ1
  have z4 : w3.cell? ⟨q, 4, none⟩ = some (.int .i64 ti) := (cell_of_row _ _ _ _ _ _ hQ).trans rfl
  have y4 : w3.cell? ⟨q + 1, 4, none⟩ = some (.int .i64 0) := (cell_of_row _ _ _ _ _ _ hQ1).trans rfl
  have g4 : w3.frozen? ⟨q + 1, 4, none⟩ = false := frozen_of_row _ _ _ _ _ hQ1
  have z5 : w3.cell? ⟨q, 5, none⟩ = some (.int .i64 n) := (cell_of_row _ _ _ _ _ _ hQ).trans rfl
  have y5 : w3.cell? ⟨q + 1, 5, none⟩ = some (.int .i64 0) := (cell_of_row _ _ _ _ _ _ hQ1).trans rfl
  have g5 : w3.frozen? ⟨q + 1, 5, none⟩ = false := frozen_of_row _ _ _ _ _ hQ1
  have z6 : w3.cell? ⟨q, 6, none⟩ = some (.int .i64 tk) := (cell_of_row _ _ _ _ _ _ hQ).trans rfl
  have y6 : w3.cell? ⟨q + 1, 6, none⟩ = some (.int .i64 0) := (cell_of_row _ _ _ _ _ _ hQ1).trans rfl
  have g6 : w3.frozen? ⟨q + 1, 6, none⟩ = false := frozen_of_row _ _ _ _ _ hQ1
  have z7 : w3.cell? ⟨q, 7, none⟩ = some (.int .i64 ba) := (cell_of_row _ _ _ _ _ _ hQ).trans rfl
  have y7 : w3.cell? ⟨q + 1, 7, none⟩ = some (.int .i64 0) := (cell_of_row _ _ _ _ _ _ hQ1).trans rfl
  have g7 : w3.frozen? ⟨q + 1, 7, none⟩ = false := frozen_of_row _ _ _ _ _ hQ1
  have z8 : w3.cell? ⟨q, 8, none⟩ = some (.int .i64 bi) := (cell_of_row _ _ _ _ _ _ hQ).trans rfl
  have y8 : w3.cell? ⟨q + 1, 8, none⟩ = some (.int .i64 0) := (cell_of_row _ _ _ _ _ _ hQ1).trans rfl
  have g8 : w3.frozen? ⟨q + 1, 8, none⟩ = false := frozen_of_row _ _ _ _ _ hQ1
  have z9 : w3.cell? ⟨q, 9, none⟩ = some (.slice b1 m1 d1) := (cell_of_row _ _ _ _ _ _ hQ).trans rfl
  have y9 : w3.cell? ⟨q + 1, 9, none⟩ = some (.slice none 0 0) := (cell_of_row _ _ _ _ _ _ hQ1).trans rfl
  have g9 : w3.frozen? ⟨q + 1, 9, none⟩ = false := frozen_of_row _ _ _ _ _ hQ1
  have z10 : w3.cell? ⟨q, 10, none⟩ = some (.slice b2 m2 d2) := (cell_of_row _ _ _ _ _ _ hQ).trans rfl
  have y10 : w3.cell? ⟨q + 1, 10, none⟩ = some (.slice none 0 0) := (cell_of_row _ _ _ _ _ _ hQ1).trans rfl
  have g10 : w3.frozen? ⟨q + 1, 10, none⟩ = false := frozen_of_row _ _ _ _ _ hQ1
  have z11 : w3.cell? ⟨q, 11, none⟩ = some (.slice a3 n3 c3) := (cell_of_row _ _ _ _ _ _ hQ).trans rfl
  have y11 : w3.cell? ⟨q + 1, 11, none⟩ = some (.slice none 0 0) := (cell_of_row _ _ _ _ _ _ hQ1).trans rfl
  have g11 : w3.frozen? ⟨q + 1, 11, none⟩ = false := frozen_of_row _ _ _ _ _ hQ1
  have z12 : w3.cell? ⟨q, 12, none⟩ = some (.slice b4 m4 d4) := (cell_of_row _ _ _ _ _ _ hQ).trans rfl
  have y12 : w3.cell? ⟨q + 1, 12, none⟩ = some (.slice none 0 0) := (cell_of_row _ _ _ _ _ _ hQ1).trans rfl
  have g12 : w3.frozen? ⟨q + 1, 12, none⟩ = false := frozen_of_row _ _ _ _ _ hQ1
  have z13 : w3.cell? ⟨q, 13, none⟩ = some (.slice b5 m5 d5) := (cell_of_row _ _ _ _ _ _ hQ).trans rfl
  have y13 : w3.cell? ⟨q + 1, 13, none⟩ = some (.slice none 0 0) := (cell_of_row _ _ _ _ _ _ hQ1).trans rfl
  have g13 : w3.frozen? ⟨q + 1, 13, none⟩ = false := frozen_of_row _ _ _ _ _ hQ1
  have g : w3.frozen? ⟨q, 11, none⟩ = false := frozen_of_row _ _ _ _ _ hQ
  clear hQ hQ1
  go_wp2_with fail
  refine bodyPost_ret (v := .agg #[.int .u8 k, .int .i64 fa, .int .i64 fi, .int .i64 ta, .int .i64 ti, .int .i64 n, .int .i64 tk, .int .i64 ba, .int .i64 bi, .slice b1 m1 d1, .slice b2 m2 d2, .slice b3 m3 d3, .slice b4 m4 d4, .slice b5 m5 d5]) (by simp [results, Try.results31, go_sem, *]) rfl ?_
  have hSt : Stay q w3 (((((((((((((((w3.setCell ⟨q, 11, none⟩ (.slice b3 m3 d3)).setCell ⟨q + 1, 0, none⟩ (.int .u8 k)).setCell ⟨q + 1, 1, none⟩ (.int .i64 fa)).setCell ⟨q + 1, 2, none⟩ (.int .i64 fi)).setCell ⟨q + 1, 3, none⟩ (.int .i64 ta)).setCell ⟨q + 1, 4, none⟩ (.int .i64 ti)).setCell ⟨q + 1, 5, none⟩ (.int .i64 n)).setCell ⟨q + 1, 6, none⟩ (.int .i64 tk)).setCell ⟨q + 1, 7, none⟩ (.int .i64 ba)).setCell ⟨q + 1, 8, none⟩ (.int .i64 bi)).setCell ⟨q + 1, 9, none⟩ (.slice b1 m1 d1)).setCell ⟨q + 1, 10, none⟩ (.slice b2 m2 d2)).setCell ⟨q + 1, 11, none⟩ (.slice b3 m3 d3)).setCell ⟨q + 1, 12, none⟩ (.slice b4 m4 d4)).setCell ⟨q + 1, 13, none⟩ (.slice b5 m5 d5)) := ((((((((((((((((Stay.refl q w3).setCell (p := ⟨q, 11, none⟩) (.inl rfl) (.slice b3 m3 d3)).setCell (p := ⟨q + 1, 0, none⟩) (.inr rfl) (.int .u8 k)).setCell (p := ⟨q + 1, 1, none⟩) (.inr rfl) (.int .i64 fa)).setCell (p := ⟨q + 1, 2, none⟩) (.inr rfl) (.int .i64 fi)).setCell (p := ⟨q + 1, 3, none⟩) (.inr rfl) (.int .i64 ta)).setCell (p := ⟨q + 1, 4, none⟩) (.inr rfl) (.int .i64 ti)).setCell (p := ⟨q + 1, 5, none⟩) (.inr rfl) (.int .i64 n)).setCell (p := ⟨q + 1, 6, none⟩) (.inr rfl) (.int .i64 tk)).setCell (p := ⟨q + 1, 7, none⟩) (.inr rfl) (.int .i64 ba)).setCell (p := ⟨q + 1, 8, none⟩) (.inr rfl) (.int .i64 bi)).setCell (p := ⟨q + 1, 9, none⟩) (.inr rfl) (.slice b1 m1 d1)).setCell (p := ⟨q + 1, 10, none⟩) (.inr rfl) (.slice b2 m2 d2)).setCell (p := ⟨q + 1, 11, none⟩) (.inr rfl) (.slice b3 m3 d3)).setCell (p := ⟨q + 1, 12, none⟩) (.inr rfl) (.slice b4 m4 d4)).setCell (p := ⟨q + 1, 13, none⟩) (.inr rfl) (.slice b5 m5 d5))
  have hB : Below q w (((((((((((((((w3.setCell ⟨q, 11, none⟩ (.slice b3 m3 d3)).setCell ⟨q + 1, 0, none⟩ (.int .u8 k)).setCell ⟨q + 1, 1, none⟩ (.int .i64 fa)).setCell ⟨q + 1, 2, none⟩ (.int .i64 fi)).setCell ⟨q + 1, 3, none⟩ (.int .i64 ta)).setCell ⟨q + 1, 4, none⟩ (.int .i64 ti)).setCell ⟨q + 1, 5, none⟩ (.int .i64 n)).setCell ⟨q + 1, 6, none⟩ (.int .i64 tk)).setCell ⟨q + 1, 7, none⟩ (.int .i64 ba)).setCell ⟨q + 1, 8, none⟩ (.int .i64 bi)).setCell ⟨q + 1, 9, none⟩ (.slice b1 m1 d1)).setCell ⟨q + 1, 10, none⟩ (.slice b2 m2 d2)).setCell ⟨q + 1, 11, none⟩ (.slice b3 m3 d3)).setCell ⟨q + 1, 12, none⟩ (.slice b4 m4 d4)).setCell ⟨q + 1, 13, none⟩ (.slice b5 m5 d5)) := (((((((((((((((hbel.setCell (p := ⟨q, 11, none⟩) (Nat.le_refl q) (.slice b3 m3 d3)).setCell (p := ⟨q + 1, 0, none⟩) (Nat.le_succ q) (.int .u8 k)).setCell (p := ⟨q + 1, 1, none⟩) (Nat.le_succ q) (.int .i64 fa)).setCell (p := ⟨q + 1, 2, none⟩) (Nat.le_succ q) (.int .i64 fi)).setCell (p := ⟨q + 1, 3, none⟩) (Nat.le_succ q) (.int .i64 ta)).setCell (p := ⟨q + 1, 4, none⟩) (Nat.le_succ q) (.int .i64 ti)).setCell (p := ⟨q + 1, 5, none⟩) (Nat.le_succ q) (.int .i64 n)).setCell (p := ⟨q + 1, 6, none⟩) (Nat.le_succ q) (.int .i64 tk)).setCell (p := ⟨q + 1, 7, none⟩) (Nat.le_succ q) (.int .i64 ba)).setCell (p := ⟨q + 1, 8, none⟩) (Nat.le_succ q) (.int .i64 bi)).setCell (p := ⟨q + 1, 9, none⟩) (Nat.le_succ q) (.slice b1 m1 d1)).setCell (p := ⟨q + 1, 10, none⟩) (Nat.le_succ q) (.slice b2 m2 d2)).setCell (p := ⟨q + 1, 11, none⟩) (Nat.le_succ q) (.slice b3 m3 d3)).setCell (p := ⟨q + 1, 12, none⟩) (Nat.le_succ q) (.slice b4 m4 d4)).setCell (p := ⟨q + 1, 13, none⟩) (Nat.le_succ q) (.slice b5 m5 d5))
  generalize (((((((((((((((w3.setCell ⟨q, 11, none⟩ (.slice b3 m3 d3)).setCell ⟨q + 1, 0, none⟩ (.int .u8 k)).setCell ⟨q + 1, 1, none⟩ (.int .i64 fa)).setCell ⟨q + 1, 2, none⟩ (.int .i64 fi)).setCell ⟨q + 1, 3, none⟩ (.int .i64 ta)).setCell ⟨q + 1, 4, none⟩ (.int .i64 ti)).setCell ⟨q + 1, 5, none⟩ (.int .i64 n)).setCell ⟨q + 1, 6, none⟩ (.int .i64 tk)).setCell ⟨q + 1, 7, none⟩ (.int .i64 ba)).setCell ⟨q + 1, 8, none⟩ (.int .i64 bi)).setCell ⟨q + 1, 9, none⟩ (.slice b1 m1 d1)).setCell ⟨q + 1, 10, none⟩ (.slice b2 m2 d2)).setCell ⟨q + 1, 11, none⟩ (.slice b3 m3 d3)).setCell ⟨q + 1, 12, none⟩ (.slice b4 m4 d4)).setCell ⟨q + 1, 13, none⟩ (.slice b5 m5 d5)) = V at hSt hB ⊢
  refine ⟨⟨b1, m1, d1⟩, ⟨b2, m2, d2⟩, ⟨b3, m3, d3⟩, ⟨b4, m4, d4⟩, ⟨b5, m5, d5⟩, rfl, hst.out _ _ _ _ r1.out hSt, hst.out _ _ _ _ r2.out hSt, hst.out _ _ _ _ r3.out hSt, hst.out _ _ _ _ r4.out hSt, hst.out _ _ _ _ r5.out hSt, ?_⟩
  rw [← HQ.out]
  exact hB
end Go.Proofs.Ytjdhdmljchnidaa
