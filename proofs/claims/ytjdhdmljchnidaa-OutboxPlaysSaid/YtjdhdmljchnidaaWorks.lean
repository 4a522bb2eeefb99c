/-
  The examples that each law asks first.
-/
import Derived.Test.YtjdhdmljchnidaaOwn2
namespace Go.Proofs.Ytjdhdmljchnidaa
open Go.RowKit
set_option linter.unusedVariables false
set_option linter.unusedSimpArgs false
attribute [local go_sem ↓] Go.wp_at_zero Go.wp_at_succ
section
variable {B : Nat} {v : Value} {n : N} {W w : World}
set_option maxRecDepth 100000 in
set_option maxHeartbeats 1000000 in
theorem puts_lit (n' : N) (kf nf kw nw : Int) (b : Bool) (h : Hs B v n W w) (hb : n.full = b) (ho : n.out (Fr.of kf nf) = Fr.of kw nw) (hn : n.put (Fr.of kf nf) = n') :
    Calls Try.prog 22 #[.pointer (some ⟨B, 0, none⟩), .agg #[.int .u8 kf, .int .i64 0, .int .i64 0, .int .i64 0, .int .i64 0, .int .i64 nf, .int .i64 0, .int .i64 0, .int .i64 0, .slice none 0 0, .slice none 0 0, .slice none 0 0, .slice none 0 0, .slice none 0 0], .agg #[.int .u8 kw, .int .i64 0, .int .i64 0, .int .i64 0, .int .i64 0, .int .i64 nw, .int .i64 0, .int .i64 0, .int .i64 0, .slice none 0 0, .slice none 0 0, .slice none 0 0, .slice none 0 0, .slice none 0 0], .bool b] w fun e w' => e = .returned (.bool true) ∧ Now B v n' W w w' := by
  have h2 := (h.alloc (.cells #[.int .u8 kf, .int .i64 0, .int .i64 0, .int .i64 0, .int .i64 0, .int .i64 nf, .int .i64 0, .int .i64 0, .int .i64 0, .slice none 0 0, .slice none 0 0, .slice none 0 0, .slice none 0 0, .slice none 0 0] 38)).alloc (.cells #[.int .u8 kw, .int .i64 0, .int .i64 0, .int .i64 0, .int .i64 0, .int .i64 nw, .int .i64 0, .int .i64 0, .int .i64 0, .slice none 0 0, .slice none 0 0, .slice none 0 0, .slice none 0 0, .slice none 0 0] 38)
  have hT2 := ((Turn.refl B v w).alloc (.cells #[.int .u8 kf, .int .i64 0, .int .i64 0, .int .i64 0, .int .i64 0, .int .i64 nf, .int .i64 0, .int .i64 0, .int .i64 0, .slice none 0 0, .slice none 0 0, .slice none 0 0, .slice none 0 0, .slice none 0 0] 38)).alloc (.cells #[.int .u8 kw, .int .i64 0, .int .i64 0, .int .i64 0, .int .i64 0, .int .i64 nw, .int .i64 0, .int .i64 0, .int .i64 0, .slice none 0 0, .slice none 0 0, .slice none 0 0, .slice none 0 0, .slice none 0 0] 38)
  have hq : ((w.alloc (.cells #[.int .u8 kf, .int .i64 0, .int .i64 0, .int .i64 0, .int .i64 0, .int .i64 nf, .int .i64 0, .int .i64 0, .int .i64 0, .slice none 0 0, .slice none 0 0, .slice none 0 0, .slice none 0 0, .slice none 0 0] 38)).alloc (.cells #[.int .u8 kw, .int .i64 0, .int .i64 0, .int .i64 0, .int .i64 0, .int .i64 nw, .int .i64 0, .int .i64 0, .int .i64 0, .slice none 0 0, .slice none 0 0, .slice none 0 0, .slice none 0 0, .slice none 0 0] 38)).heap[w.heap.size + 1]? = some (.cells #[.int .u8 kw, .int .i64 0, .int .i64 0, .int .i64 0, .int .i64 0, .int .i64 nw, .int .i64 0, .int .i64 0, .int .i64 0, .slice none 0 0, .slice none 0 0, .slice none 0 0, .slice none 0 0, .slice none 0 0] 38 (0, 0)) := (two_new w _ _).2
  have hlt := h.nt.lt
  have hvl := h.nt.vlt
  have HS := Lib.hid (And.intro h2 (And.intro hT2 (And.intro hq (And.intro hvl (And.intro hb (And.intro ho hn))))))
  clear h2 hT2 hq hvl h hb ho hn
  go_enter Try.func22, Try.ntmps22
  go_wp2_with fail
  have hp := put_of (Fr.of kf nf) (Fr.Bare.of kf nf) HS.out.1
  refine hp.mono ?_
  rintro e w1 ⟨rfl, v1, hX, hT⟩
  clear hp
  rw [HS.out.2.2.2.2.1, HS.out.2.2.2.2.2.1]
  have hsz : w.heap.size + 2 ≤ w1.heap.size := Nat.le_trans (by simp) hT.size
  have hq1 := (hT.block (w.heap.size + 1) (by simp) (by omega) (fun e => by have := (HS.out.2.2.2.1 _ e).2; omega)).trans HS.out.2.2.1
  have hbS := same_bare (Fr.of kw nw) (Fr.Bare.of kw nw) (w1.alloc (.cells #[.int .u8 kw, .int .i64 0, .int .i64 0, .int .i64 0, .int .i64 0, .int .i64 nw, .int .i64 0, .int .i64 0, .int .i64 0, .slice none 0 0, .slice none 0 0, .slice none 0 0, .slice none 0 0, .slice none 0 0] 38))
  have hXa := hX.alloc (.cells #[.int .u8 kw, .int .i64 0, .int .i64 0, .int .i64 0, .int .i64 0, .int .i64 nw, .int .i64 0, .int .i64 0, .int .i64 0, .slice none 0 0, .slice none 0 0, .slice none 0 0, .slice none 0 0, .slice none 0 0] 38)
  have hTa := (HS.out.2.1.trans hT).alloc (.cells #[.int .u8 kw, .int .i64 0, .int .i64 0, .int .i64 0, .int .i64 0, .int .i64 nw, .int .i64 0, .int .i64 0, .int .i64 0, .slice none 0 0, .slice none 0 0, .slice none 0 0, .slice none 0 0, .slice none 0 0] 38)
  have HX := Lib.hid (And.intro hXa hTa)
  simp only [Fr.val, Fr.cells, Fr.of, SL.nil] at hbS ⊢
  have y0 : w1.cell? ⟨w.heap.size + 1, 0, none⟩ = some (.int .u8 kw) := (cell_of_row _ _ _ _ _ _ hq1).trans rfl
  have y1 : w1.cell? ⟨w.heap.size + 1, 1, none⟩ = some (.int .i64 0) := (cell_of_row _ _ _ _ _ _ hq1).trans rfl
  have y2 : w1.cell? ⟨w.heap.size + 1, 2, none⟩ = some (.int .i64 0) := (cell_of_row _ _ _ _ _ _ hq1).trans rfl
  have y3 : w1.cell? ⟨w.heap.size + 1, 3, none⟩ = some (.int .i64 0) := (cell_of_row _ _ _ _ _ _ hq1).trans rfl
  have y4 : w1.cell? ⟨w.heap.size + 1, 4, none⟩ = some (.int .i64 0) := (cell_of_row _ _ _ _ _ _ hq1).trans rfl
  have y5 : w1.cell? ⟨w.heap.size + 1, 5, none⟩ = some (.int .i64 nw) := (cell_of_row _ _ _ _ _ _ hq1).trans rfl
  have y6 : w1.cell? ⟨w.heap.size + 1, 6, none⟩ = some (.int .i64 0) := (cell_of_row _ _ _ _ _ _ hq1).trans rfl
  have y7 : w1.cell? ⟨w.heap.size + 1, 7, none⟩ = some (.int .i64 0) := (cell_of_row _ _ _ _ _ _ hq1).trans rfl
  have y8 : w1.cell? ⟨w.heap.size + 1, 8, none⟩ = some (.int .i64 0) := (cell_of_row _ _ _ _ _ _ hq1).trans rfl
  have y9 : w1.cell? ⟨w.heap.size + 1, 9, none⟩ = some (.slice none 0 0) := (cell_of_row _ _ _ _ _ _ hq1).trans rfl
  have y10 : w1.cell? ⟨w.heap.size + 1, 10, none⟩ = some (.slice none 0 0) := (cell_of_row _ _ _ _ _ _ hq1).trans rfl
  have y11 : w1.cell? ⟨w.heap.size + 1, 11, none⟩ = some (.slice none 0 0) := (cell_of_row _ _ _ _ _ _ hq1).trans rfl
  have y12 : w1.cell? ⟨w.heap.size + 1, 12, none⟩ = some (.slice none 0 0) := (cell_of_row _ _ _ _ _ _ hq1).trans rfl
  have y13 : w1.cell? ⟨w.heap.size + 1, 13, none⟩ = some (.slice none 0 0) := (cell_of_row _ _ _ _ _ _ hq1).trans rfl
  have hqs : w.heap.size + 1 < w1.heap.size := by omega
  clear hX hT hq1 hXa hTa
  go_wp2_with fail
  refine hbS.mono ?_
  rintro e w2 ⟨rfl, hb⟩
  have h2 := HX.out.1.kept hb
  have hT2 := HX.out.2.trans (Turn.of_below hb)
  rw [HS.out.2.2.2.2.2.2] at h2
  have HD := Lib.hid (show Now B v n' W w w2 from ⟨v1, h2, hT2⟩)
  clear hb h2 hT2 hbS
  go_wp2_with fail
  go_ret
  exact ⟨rfl, HD.out⟩
theorem take_to (n' : N) (k m : Int) (h : Hs B v n W w) (hb : n.any = true) (ho : n.head = Fr.of k m) (hn : n.take = n') :
    Calls Try.prog 14 #[.pointer (some ⟨B, 0, none⟩)] w fun e w' => e = .returned (.tuple #[(Fr.of k m).val, .bool true]) ∧ Now B v n' W w w' := by
  have := take_of h
  rw [hb, ho, hn] at this
  exact this
end
set_option maxRecDepth 100000 in
set_option maxHeartbeats 2000000 in
theorem works_any (W : World) : Calls Try.prog 9 #[] W fun e w' => e = .returned (.bool true) ∧ Below W.heap.size W w' := by
  go_enter Try.func9, Try.ntmps9
  go_wp2_with fail
  refine (new_of 2 (Below.refl _ W) (by decide) (by decide)).mono ?_
  rintro e w0 ⟨rfl, hn, -⟩
  skip
  go_wp2_with fail
  refine (of_any 4 1 _).mono ?_
  rintro e wo ⟨rfl, hb⟩
  have hn := hn.kept hb
  clear hb
  simp only [Fr.val, Fr.cells, Fr.of, SL.nil]
  go_wp2_with fail
  refine (puts_lit ⟨2, [Fr.of 4 1]⟩ 4 1 0 0 false hn (by kernel_rfl) (by kernel_rfl) (by kernel_rfl)).mono ?_
  rintro e wp ⟨rfl, vn, hX, hT⟩
  have hn := hX
  clear hX hT
  go_wp2_with fail
  refine (of_any 5 2 _).mono ?_
  rintro e wo ⟨rfl, hb⟩
  have hn := hn.kept hb
  clear hb
  simp only [Fr.val, Fr.cells, Fr.of, SL.nil]
  go_wp2_with fail
  refine (puts_lit ⟨2, [Fr.of 4 1, Fr.of 5 2]⟩ 5 2 0 0 false hn (by kernel_rfl) (by kernel_rfl) (by kernel_rfl)).mono ?_
  rintro e wp ⟨rfl, vn, hX, hT⟩
  have hn := hX
  clear hX hT
  go_wp2_with fail
  refine (of_any 5 3 _).mono ?_
  rintro e wo ⟨rfl, hb⟩
  have hn := hn.kept hb
  clear hb
  simp only [Fr.val, Fr.cells, Fr.of, SL.nil]
  go_wp2_with fail
  refine (of_any 4 1 _).mono ?_
  rintro e wo ⟨rfl, hb⟩
  have hn := hn.kept hb
  clear hb
  simp only [Fr.val, Fr.cells, Fr.of, SL.nil]
  go_wp2_with fail
  refine (puts_lit ⟨2, [Fr.of 5 2, Fr.of 5 3]⟩ 5 3 4 1 true hn (by kernel_rfl) (by kernel_rfl) (by kernel_rfl)).mono ?_
  rintro e wp ⟨rfl, vn, hX, hT⟩
  have hn := hX
  clear hX hT
  go_wp2_with fail
  refine (of_any 5 4 _).mono ?_
  rintro e wo ⟨rfl, hb⟩
  have hn := hn.kept hb
  clear hb
  simp only [Fr.val, Fr.cells, Fr.of, SL.nil]
  go_wp2_with fail
  refine (of_any 5 4 _).mono ?_
  rintro e wo ⟨rfl, hb⟩
  have hn := hn.kept hb
  clear hb
  simp only [Fr.val, Fr.cells, Fr.of, SL.nil]
  go_wp2_with fail
  refine (puts_lit ⟨2, [Fr.of 5 2, Fr.of 5 3]⟩ 5 4 5 4 true hn (by kernel_rfl) (by kernel_rfl) (by kernel_rfl)).mono ?_
  rintro e wp ⟨rfl, vn, hX, hT⟩
  have hn := hX
  clear hX hT
  go_wp2_with fail
  refine (take_to ⟨2, [Fr.of 5 3]⟩ 5 2 hn rfl rfl rfl).mono ?_
  rintro e wt ⟨rfl, vn, hX, hT⟩
  have hn := (hX.alloc (.cells #[.int .u8 5, .int .i64 0, .int .i64 0, .int .i64 0, .int .i64 0, .int .i64 2, .int .i64 0, .int .i64 0, .int .i64 0, .slice none 0 0, .slice none 0 0, .slice none 0 0, .slice none 0 0, .slice none 0 0] 38)).drew
  clear hX hT
  simp only [Fr.val, Fr.cells, Fr.of, SL.nil]
  have hqr : (wt.alloc (.cells #[.int .u8 5, .int .i64 0, .int .i64 0, .int .i64 0, .int .i64 0, .int .i64 2, .int .i64 0, .int .i64 0, .int .i64 0, .slice none 0 0, .slice none 0 0, .slice none 0 0, .slice none 0 0, .slice none 0 0] 38)).drew.heap[wt.heap.size]? = some (.cells #[.int .u8 5, .int .i64 0, .int .i64 0, .int .i64 0, .int .i64 0, .int .i64 2, .int .i64 0, .int .i64 0, .int .i64 0, .slice none 0 0, .slice none 0 0, .slice none 0 0, .slice none 0 0, .slice none 0 0] 38 (0, 0)) := heap_alloc_new _ _
  have hql : wt.heap.size < (wt.alloc (.cells #[.int .u8 5, .int .i64 0, .int .i64 0, .int .i64 0, .int .i64 0, .int .i64 2, .int .i64 0, .int .i64 0, .int .i64 0, .slice none 0 0, .slice none 0 0, .slice none 0 0, .slice none 0 0, .slice none 0 0] 38)).drew.heap.size := by simp
  go_wp2_with fail
  refine wp_region_any (by kernel_rfl) ?_
  try (change wpAny _ _ _ _ _ _ _ (World.drew _))
  generalize (wt.alloc (.cells #[.int .u8 5, .int .i64 0, .int .i64 0, .int .i64 0, .int .i64 0, .int .i64 2, .int .i64 0, .int .i64 0, .int .i64 0, .slice none 0 0, .slice none 0 0, .slice none 0 0, .slice none 0 0, .slice none 0 0] 38)).drew = Y at hn hqr hql ⊢
  refine wpAny_take (i := 0) (v := ?_) rfl (by kernel_rfl) (by kernel_rfl) (by kernel_rfl) (fun _ _ _ h => h) (Or.inl ⟨by rfl, ?_⟩) ?_
  rotate_left
  · (intro w; go_simp) <;> with_reducible rfl
  refine wpAny_take (i := 1) (v := ?_) rfl (by kernel_rfl) (by kernel_rfl) (by kernel_rfl) (fun _ _ _ h => h) (Or.inl ⟨by rfl, ?_⟩) ?_
  rotate_left
  · (intro w; go_simp) <;> with_reducible rfl
  refine wpAny_of_till (S := fun x => x.heap[wt.heap.size]? = some (.cells #[.int .u8 5, .int .i64 0, .int .i64 0, .int .i64 0, .int .i64 0, .int .i64 2, .int .i64 0, .int .i64 0, .int .i64 0, .slice none 0 0, .slice none 0 0, .slice none 0 0, .slice none 0 0, .slice none 0 0] 38 (0, 0))) (k := 4) _ _ _ _ ?_
  have hS : (fun x : World => x.heap[wt.heap.size]? = some (.cells #[.int .u8 5, .int .i64 0, .int .i64 0, .int .i64 0, .int .i64 0, .int .i64 2, .int .i64 0, .int .i64 0, .int .i64 0, .slice none 0 0, .slice none 0 0, .slice none 0 0, .slice none 0 0, .slice none 0 0] 38 (0, 0))) _ := hqr
  refine wpTill_take (i := 2) (v := .agg #[.int .u8 5, .int .i64 0, .int .i64 0, .int .i64 0, .int .i64 0, .int .i64 2, .int .i64 0, .int .i64 0, .int .i64 0, .slice none 0 0, .slice none 0 0, .slice none 0 0, .slice none 0 0, .slice none 0 0]) rfl (by kernel_rfl) (by kernel_rfl) (by kernel_rfl) (by kernel_rfl) (fun _ _ _ h => h) (Or.inl ⟨by rfl, ?_⟩) hS ?_
  · intro w hSw
    (try dsimp only at hSw)
    obtain ⟨x0, x1, x2, x3, x4, x5, x6, x7, x8, x9, x10, x11, x12, x13⟩ := Fr.reads (f := Fr.of 5 2) hSw
    simp only [Fr.of, SL.nil] at x0 x1 x2 x3 x4 x5 x6 x7 x8 x9 x10 x11 x12 x13
    go_simp
  try simp only [Act.put, List.setIfInBounds_toArray, List.set_cons_zero, List.set_cons_succ]
  refine wpTill_one (i := 3) (by kernel_rfl) rfl (by kernel_rfl) (fun K hK => ?_)
  go_simp
  refine (of_any 5 2 _).mono ?_
  rintro e wo ⟨rfl, hb⟩
  have hn := hn.kept hb
  have hS : (fun x : World => x.heap[wt.heap.size]? = some (.cells #[.int .u8 5, .int .i64 0, .int .i64 0, .int .i64 0, .int .i64 0, .int .i64 2, .int .i64 0, .int .i64 0, .int .i64 0, .slice none 0 0, .slice none 0 0, .slice none 0 0, .slice none 0 0, .slice none 0 0] 38 (0, 0))) wo := (hb.block _ hql).trans hqr
  clear hb
  go_wp2_with fail
  refine hK.out _ _ hS ?_; clear hK K
  try simp only [Act.put, List.setIfInBounds_toArray, List.set_cons_zero, List.set_cons_succ]
  refine wpTill_end (by kernel_rfl) rfl (fun K hK => ?_)
  go_simp
  refine (same_bare (Fr.of 5 2) (Fr.Bare.of 5 2) _).mono ?_
  rintro e ws ⟨rfl, hb⟩
  have hn := hn.kept hb
  clear hb
  go_wp2_with fail
  refine hK.out _ _ ?_; clear hK K
  refine wpAny_take (i := 5) (v := ?_) rfl (by kernel_rfl) (by kernel_rfl) (by kernel_rfl) (fun _ _ _ h => h) (Or.inl ⟨by rfl, ?_⟩) ?_
  rotate_left
  · (intro w; go_simp) <;> with_reducible rfl
  refine wpAny_take (i := 6) (v := ?_) rfl (by kernel_rfl) (by kernel_rfl) (by kernel_rfl) (fun _ _ _ h => h) (Or.inl ⟨by rfl, ?_⟩) ?_
  rotate_left
  · (intro w; go_simp) <;> with_reducible rfl
  refine wpAny_take (i := 7) (v := ?_) rfl (by kernel_rfl) (by kernel_rfl) (by kernel_rfl) (fun _ _ _ h => h) (Or.inl ⟨by rfl, ?_⟩) ?_
  rotate_left
  · (intro w; go_simp) <;> with_reducible rfl
  refine wpAny_one (i := 8) (by kernel_rfl) rfl (fun K hK => ?_)
  go_simp
  refine (len_of hn).mono ?_
  rintro e wl ⟨rfl, rfl⟩
  go_wp2_with fail
  refine hK.out _ _ ?_; clear hK K
  refine wpAny_take (i := 9) (v := ?_) rfl (by kernel_rfl) (by kernel_rfl) (by kernel_rfl) (fun _ _ _ h => h) (Or.inl ⟨by rfl, ?_⟩) ?_
  rotate_left
  · (intro w; go_simp) <;> with_reducible rfl
  refine wpAny_take (i := 10) (v := ?_) rfl (by kernel_rfl) (by kernel_rfl) (by kernel_rfl) (fun _ _ _ h => h) (Or.inl ⟨by rfl, ?_⟩) ?_
  rotate_left
  · (intro w; go_simp) <;> with_reducible rfl
  refine wpAny_take (i := 11) (v := ?_) rfl (by kernel_rfl) (by kernel_rfl) (by kernel_rfl) (fun _ _ _ h => h) (Or.inl ⟨by rfl, ?_⟩) ?_
  rotate_left
  · (intro w; go_simp) <;> with_reducible rfl
  refine wpAny_done (by kernel_rfl) ?_ _
  go_simp
  go_wp2_with fail
  go_ret
  exact ⟨rfl, hn.below⟩
end Go.Proofs.Ytjdhdmljchnidaa
