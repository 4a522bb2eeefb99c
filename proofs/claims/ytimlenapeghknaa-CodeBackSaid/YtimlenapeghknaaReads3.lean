/-
  The walks of a reader of IDs.
-/
import Derived.Test.YtimlenapeghknaaWorks
namespace Go.Proofs.Ytimlenapeghknaa
open Go.RowKit
set_option linter.unusedVariables false
set_option linter.unusedSimpArgs false
attribute [local go_sem ↓] Go.wp_at_zero Go.wp_at_succ
theorem Rd.setOther {R : Nat} {l : List UInt8} {e : Int} {w : World} (h : Rd R l e w) {p : Addr} (hp : p.block ≠ R) (u : Value) : Rd R l e (w.setCell p u) := by
  unfold Rd; rw [Below.heap_setCell _ _ _ _ (Ne.symm hp)]; exact h
/-- What a wrong ID leaves. -/
def IdWrong (R : Nat) (e : Int) (w : World) (r : Ending) (w' : World) : Prop :=
  ∃ (a i : Int) (m : List UInt8) (e' : Int), r = .returned (.tuple #[.agg #[.int .i64 a, .int .i64 i], .int .i64 e]) ∧ Rd R m e' w' ∧ Keep R w w'
/-- The three ways of an ID. -/
theorem ri_right {l m : List UInt8} {x : Idn} (h : ri l = (x, 0, m)) : ∃ (a i : Nat) (n : List UInt8), rn l = (a, 0, n) ∧ rn n = (i, 0, m) ∧ x = ⟨a, i⟩ ∧ mayB (a : Int) (i : Int) = true := by
  rcases num_of l with ⟨e, h1, he⟩ | ⟨a, n, h1, -, -⟩
  · exfalso; unfold ri at h; rw [h1] at h; simp only at h; rw [if_neg (by omega)] at h; simp at h; omega
  · rcases num_of n with ⟨e, h2, he⟩ | ⟨i, k, h2, -, -⟩
    · exfalso; unfold ri at h; rw [h1] at h; simp only [if_true] at h; rw [h2] at h; simp only at h; rw [if_neg (by omega)] at h; simp at h; omega
    · unfold ri at h; rw [h1] at h; simp only [if_true] at h; rw [h2] at h; simp only [if_true] at h
      by_cases hm : mayB (a : Int) (i : Int) = true
      · rw [if_pos hm] at h
        simp only [Prod.mk.injEq, true_and] at h
        exact ⟨a, i, n, h1, by rw [h2, h.2], h.1.symm, hm⟩
      · rw [if_neg hm] at h; simp at h
theorem ri_wrong {l : List UInt8} {e : Int} (h : ri l = (⟨0, 0⟩, e, [])) (he : e ≠ 0) : rn l = (0, e, []) ∨ (∃ (a : Nat) (n : List UInt8), rn l = (a, 0, n) ∧ rn n = (0, e, [])) ∨
    ∃ (a i : Nat) (n m : List UInt8), rn l = (a, 0, n) ∧ rn n = (i, 0, m) ∧ mayB (a : Int) (i : Int) = false ∧ e = 4 := by
  rcases num_of l with ⟨e1, h1, he1⟩ | ⟨a, n, h1, -, -⟩
  · left; unfold ri at h; rw [h1] at h; simp only at h; rw [if_neg (by omega)] at h; simp only [Prod.mk.injEq, true_and, and_true] at h; rw [h1, h]
  · right
    rcases num_of n with ⟨e2, h2, he2⟩ | ⟨i, k, h2, -, -⟩
    · left; unfold ri at h; rw [h1] at h; simp only [if_true] at h; rw [h2] at h; simp only at h; rw [if_neg (by omega)] at h; simp only [Prod.mk.injEq, true_and, and_true] at h
      exact ⟨a, n, h1, by rw [h2, h]⟩
    · right; unfold ri at h; rw [h1] at h; simp only [if_true] at h; rw [h2] at h; simp only [if_true] at h
      by_cases hm : mayB (a : Int) (i : Int) = true
      · rw [if_pos hm] at h; simp only [Prod.mk.injEq] at h; exact absurd h.2.1.symm he
      · rw [if_neg hm] at h; simp only [Prod.mk.injEq, true_and, and_true] at h
        exact ⟨a, i, n, k, h1, h2, by simpa using hm, h.symm⟩
theorem rn_shorter {l m : List UInt8} {n : Nat} (h : rn l = (n, 0, m)) : m.length ≤ l.length := by
  have := (rn_inv h).1
  rw [this, List.length_append]; omega
section
variable {R Bp : Nat} {l : List UInt8} {w : World}
set_option maxRecDepth 100000 in
set_option maxHeartbeats 4000000 in
theorem id31_first (e : Int) (h : Rd R l 0 w) (hp : w.cell? ⟨Bp, 0, none⟩ = some (.pointer (some ⟨R, 0, none⟩))) (hBp : Bp < w.heap.size) (hl : l.length ≤ 100000) (hr : rn l = (0, e, [])) (he : e ≠ 0) :
    Calls Try.prog 31 #[.pointer (some ⟨Bp, 0, none⟩)] w (IdWrong R e w) := by
  have hRl := h.lt
  have heb : (e != 0) = true := by simpa using he
  go_enter Try.func31, Try.ntmps31
  go_wp2_with fail
  refine (num17_wrong R l e _ (h.alloc _) hl hr he).mono ?_
  rintro r w1 ⟨rfl, h1, hK⟩
  have hN : w1.heap[w.heap.size]? = some (.cells #[.int .i64 0, .int .i64 0] 23 (0, 0)) := (hK.block _ (by simp) (by omega)).trans (heap_alloc_new _ _)
  have n0 : w1.cell? ⟨w.heap.size, 0, none⟩ = some (.int .i64 0) := by rw [cell_of_row _ _ _ _ _ _ hN]; rfl
  have n1 : w1.cell? ⟨w.heap.size, 1, none⟩ = some (.int .i64 0) := by rw [cell_of_row _ _ _ _ _ _ hN]; rfl
  have f0 : w1.frozen? ⟨w.heap.size, 0, none⟩ = false := frozen_of_row _ _ _ _ _ hN
  have f1 : w1.frozen? ⟨w.heap.size, 1, none⟩ = false := frozen_of_row _ _ _ _ _ hN
  have HK := Lib.hid (((Keep.refl R w).alloc (.cells #[.int .i64 0, .int .i64 0] 23)).trans hK)
  clear hr hN hK
  have hne : w.heap.size ≠ R := by omega
  go_wp2_with fail
  refine bodyPost_ret (v := .tuple #[.agg #[.int .i64 0, .int .i64 0], .int .i64 e]) (by simp [results, Try.results31, go_sem, n0, n1]) rfl ⟨0, 0, [], e, rfl, ((h1.setOther hne _).setOther hne _).setOther hne _, ?_⟩
  exact ((HK.out.setCell (p := ⟨w.heap.size, 0, none⟩) (.inr (Nat.le_refl _)) _).setCell (p := ⟨w.heap.size, 0, none⟩) (.inr (Nat.le_refl _)) _).setCell (p := ⟨w.heap.size, 1, none⟩) (.inr (Nat.le_refl _)) _
set_option maxRecDepth 100000 in
set_option maxHeartbeats 8000000 in
theorem id31_second (e : Int) (a : Nat) (n : List UInt8) (h : Rd R l 0 w) (hp : w.cell? ⟨Bp, 0, none⟩ = some (.pointer (some ⟨R, 0, none⟩))) (hBp : Bp < w.heap.size) (hBR : Bp ≠ R) (hl : l.length ≤ 100000) (hr : rn l = (a, 0, n)) (hr2 : rn n = (0, e, [])) (he : e ≠ 0) :
    Calls Try.prog 31 #[.pointer (some ⟨Bp, 0, none⟩)] w (IdWrong R e w) := by
  have hRl := h.lt
  have heb : (e == 0) = false := by simpa using he
  have hnl : n.length ≤ 100000 := Nat.le_trans (rn_shorter hr) hl
  have HR2 := Lib.hid hr2
  clear hr2
  go_enter Try.func31, Try.ntmps31
  go_wp2_with fail
  refine (num17_right R l n a _ (h.alloc _) hl hr).mono ?_
  rintro r w1 ⟨rfl, h1, hK⟩
  have hp1 : w1.cell? ⟨Bp, 0, none⟩ = some (.pointer (some ⟨R, 0, none⟩)) := (hK.cell (p := ⟨Bp, 0, none⟩) (by simp; omega) hBR).trans ((((Below.refl _ w).alloc (Nat.le_refl _) (.cells #[.int .i64 0, .int .i64 0] 23)).cell (p := ⟨Bp, 0, none⟩) hBp).trans hp)
  have hN : w1.heap[w.heap.size]? = some (.cells #[.int .i64 0, .int .i64 0] 23 (0, 0)) := (hK.block _ (by simp) (by omega)).trans (heap_alloc_new _ _)
  have n0 : w1.cell? ⟨w.heap.size, 0, none⟩ = some (.int .i64 0) := by rw [cell_of_row _ _ _ _ _ _ hN]; rfl
  have n1 : w1.cell? ⟨w.heap.size, 1, none⟩ = some (.int .i64 0) := by rw [cell_of_row _ _ _ _ _ _ hN]; rfl
  have f0 : w1.frozen? ⟨w.heap.size, 0, none⟩ = false := frozen_of_row _ _ _ _ _ hN
  have f1 : w1.frozen? ⟨w.heap.size, 1, none⟩ = false := frozen_of_row _ _ _ _ _ hN
  have HK := Lib.hid (((Keep.refl R w).alloc (.cells #[.int .i64 0, .int .i64 0] 23)).trans hK)
  have hz1 : w.heap.size < w1.heap.size := (Array.getElem?_eq_some_iff.1 hN).1
  have HN := Lib.hid hN
  clear hr hN hK
  have hne : w.heap.size ≠ R := by omega
  have hbn : Bp ≠ w.heap.size := by omega
  go_wp2_with fail
  refine (num17_wrong R n e _ (h1.setOther hne _) hnl HR2.out he).mono ?_
  rintro r w2 ⟨rfl, h2, hK2⟩
  have HK2 := Lib.hid ((HK.out.setCell (p := ⟨w.heap.size, 0, none⟩) (.inr (Nat.le_refl _)) (.int .i64 a)).trans hK2)
  clear n0 n1 f0 f1 hp1
  have hN : w2.heap[w.heap.size]? = some (.cells #[.int .i64 a, .int .i64 0] 23 (0, 0)) := (hK2.block _ (by simpa using hz1) (by omega)).trans (by rw [heap_setCell_same _ _ _ _ _ _ HN.out]; rfl)
  have n0 : w2.cell? ⟨w.heap.size, 0, none⟩ = some (.int .i64 a) := by rw [cell_of_row _ _ _ _ _ _ hN]; rfl
  have n1 : w2.cell? ⟨w.heap.size, 1, none⟩ = some (.int .i64 0) := by rw [cell_of_row _ _ _ _ _ _ hN]; rfl
  have f0 : w2.frozen? ⟨w.heap.size, 0, none⟩ = false := frozen_of_row _ _ _ _ _ hN
  have f1 : w2.frozen? ⟨w.heap.size, 1, none⟩ = false := frozen_of_row _ _ _ _ _ hN
  clear hN hK2
  go_wp2_with fail
  refine bodyPost_ret (v := .tuple #[.agg #[.int .i64 a, .int .i64 0], .int .i64 e]) (by simp [results, Try.results31, go_sem, n0, n1]) rfl ⟨a, 0, [], e, rfl, ((h2.setOther hne _).setOther hne _).setOther hne _, ?_⟩
  exact ((HK2.out.setCell (p := ⟨w.heap.size, 1, none⟩) (.inr (Nat.le_refl _)) _).setCell (p := ⟨w.heap.size, 0, none⟩) (.inr (Nat.le_refl _)) _).setCell (p := ⟨w.heap.size, 1, none⟩) (.inr (Nat.le_refl _)) _
set_option maxRecDepth 100000 in
set_option maxHeartbeats 8000000 in
theorem id31_both (a i : Nat) (n m : List UInt8) (b : Bool) (h : Rd R l 0 w) (hp : w.cell? ⟨Bp, 0, none⟩ = some (.pointer (some ⟨R, 0, none⟩))) (hBp : Bp < w.heap.size) (hBR : Bp ≠ R) (hl : l.length ≤ 100000) (hr : rn l = (a, 0, n)) (hr2 : rn n = (i, 0, m)) (hb : mayB (a : Int) (i : Int) = b) :
    Calls Try.prog 31 #[.pointer (some ⟨Bp, 0, none⟩)] w fun r w' => r = .returned (.tuple #[.agg #[.int .i64 a, .int .i64 i], .int .i64 (if b = true then 0 else 4)]) ∧ Rd R m 0 w' ∧ Keep R w w' := by
  have hRl := h.lt
  have hnl : n.length ≤ 100000 := Nat.le_trans (rn_shorter hr) hl
  have HR2 := Lib.hid hr2
  have HB := Lib.hid hb
  clear hr2 hb
  go_enter Try.func31, Try.ntmps31
  go_wp2_with fail
  refine (num17_right R l n a _ (h.alloc _) hl hr).mono ?_
  rintro r w1 ⟨rfl, h1, hK⟩
  have hp1 : w1.cell? ⟨Bp, 0, none⟩ = some (.pointer (some ⟨R, 0, none⟩)) := (hK.cell (p := ⟨Bp, 0, none⟩) (by simp; omega) hBR).trans ((((Below.refl _ w).alloc (Nat.le_refl _) (.cells #[.int .i64 0, .int .i64 0] 23)).cell (p := ⟨Bp, 0, none⟩) hBp).trans hp)
  have hN : w1.heap[w.heap.size]? = some (.cells #[.int .i64 0, .int .i64 0] 23 (0, 0)) := (hK.block _ (by simp) (by omega)).trans (heap_alloc_new _ _)
  have n0 : w1.cell? ⟨w.heap.size, 0, none⟩ = some (.int .i64 0) := by rw [cell_of_row _ _ _ _ _ _ hN]; rfl
  have n1 : w1.cell? ⟨w.heap.size, 1, none⟩ = some (.int .i64 0) := by rw [cell_of_row _ _ _ _ _ _ hN]; rfl
  have f0 : w1.frozen? ⟨w.heap.size, 0, none⟩ = false := frozen_of_row _ _ _ _ _ hN
  have f1 : w1.frozen? ⟨w.heap.size, 1, none⟩ = false := frozen_of_row _ _ _ _ _ hN
  have HK := Lib.hid (((Keep.refl R w).alloc (.cells #[.int .i64 0, .int .i64 0] 23)).trans hK)
  have hz1 : w.heap.size < w1.heap.size := (Array.getElem?_eq_some_iff.1 hN).1
  have HN := Lib.hid hN
  clear hr hN hK
  have hne : w.heap.size ≠ R := by omega
  have hbn : Bp ≠ w.heap.size := by omega
  go_wp2_with fail
  refine (num17_right R n m i _ (h1.setOther hne _) hnl HR2.out).mono ?_
  rintro r w2 ⟨rfl, h2, hK2⟩
  have HK2 := Lib.hid ((HK.out.setCell (p := ⟨w.heap.size, 0, none⟩) (.inr (Nat.le_refl _)) (.int .i64 a)).trans hK2)
  clear n0 n1 f0 f1 hp1
  have hN : w2.heap[w.heap.size]? = some (.cells #[.int .i64 a, .int .i64 0] 23 (0, 0)) := (hK2.block _ (by simpa using hz1) (by omega)).trans (by rw [heap_setCell_same _ _ _ _ _ _ HN.out]; rfl)
  have n0 : w2.cell? ⟨w.heap.size, 0, none⟩ = some (.int .i64 a) := by rw [cell_of_row _ _ _ _ _ _ hN]; rfl
  have n1 : w2.cell? ⟨w.heap.size, 1, none⟩ = some (.int .i64 0) := by rw [cell_of_row _ _ _ _ _ _ hN]; rfl
  have f0 : w2.frozen? ⟨w.heap.size, 0, none⟩ = false := frozen_of_row _ _ _ _ _ hN
  have f1 : w2.frozen? ⟨w.heap.size, 1, none⟩ = false := frozen_of_row _ _ _ _ _ hN
  have hz2 : w.heap.size < w2.heap.size := (Array.getElem?_eq_some_iff.1 hN).1
  have HN2 := Lib.hid hN
  clear hN hK2
  go_wp2_with fail
  refine (may22 a i _).mono ?_
  rintro r w3 ⟨rfl, hb3⟩
  rw [HB.out]
  have h3 : Rd R m 0 w3 := (h2.setOther hne _).kept hb3
  have HK3 := Lib.hid ((HK2.out.setCell (p := ⟨w.heap.size, 1, none⟩) (.inr (Nat.le_refl _)) (.int .i64 i)).trans (Keep.of_below hb3))
  clear n0 n1 f0 f1
  have hN : w3.heap[w.heap.size]? = some (.cells #[.int .i64 a, .int .i64 i] 23 (0, 0)) := (hb3.block _ (by simpa using hz2)).trans (by rw [heap_setCell_same _ _ _ _ _ _ HN2.out]; rfl)
  have n0 : w3.cell? ⟨w.heap.size, 0, none⟩ = some (.int .i64 a) := by rw [cell_of_row _ _ _ _ _ _ hN]; rfl
  have n1 : w3.cell? ⟨w.heap.size, 1, none⟩ = some (.int .i64 i) := by rw [cell_of_row _ _ _ _ _ _ hN]; rfl
  have f0 : w3.frozen? ⟨w.heap.size, 0, none⟩ = false := frozen_of_row _ _ _ _ _ hN
  have f1 : w3.frozen? ⟨w.heap.size, 1, none⟩ = false := frozen_of_row _ _ _ _ _ hN
  clear hN hb3
  cases b
  · go_wp2_with fail
    refine bodyPost_ret (v := .tuple #[.agg #[.int .i64 a, .int .i64 i], .int .i64 4]) (by simp [results, Try.results31, go_sem, n0, n1]) rfl ⟨rfl, (h3.setOther hne _).setOther hne _, ?_⟩
    exact (HK3.out.setCell (p := ⟨w.heap.size, 0, none⟩) (.inr (Nat.le_refl _)) _).setCell (p := ⟨w.heap.size, 1, none⟩) (.inr (Nat.le_refl _)) _
  · go_wp2_with fail
    refine bodyPost_ret (v := .tuple #[.agg #[.int .i64 a, .int .i64 i], .int .i64 0]) (by simp [results, Try.results31, go_sem, n0, n1]) rfl ⟨rfl, (h3.setOther hne _).setOther hne _, ?_⟩
    exact (HK3.out.setCell (p := ⟨w.heap.size, 0, none⟩) (.inr (Nat.le_refl _)) _).setCell (p := ⟨w.heap.size, 1, none⟩) (.inr (Nat.le_refl _)) _
end
end Go.Proofs.Ytimlenapeghknaa
