/-
  The walk of a reader's ID.
-/
import Derived.Test.YtimlenapeghknaaReads3
namespace Go.Proofs.Ytimlenapeghknaa
open Go.RowKit
set_option linter.unusedVariables false
set_option linter.unusedSimpArgs false
attribute [local go_sem ↓] Go.wp_at_zero Go.wp_at_succ
section
variable {R Bp : Nat} {l : List UInt8} {w : World}
theorem id31_right (x : Idn) (m : List UInt8) (h : Rd R l 0 w) (hp : w.cell? ⟨Bp, 0, none⟩ = some (.pointer (some ⟨R, 0, none⟩))) (hBp : Bp < w.heap.size) (hBR : Bp ≠ R) (hl : l.length ≤ 100000) (hr : ri l = (x, 0, m)) :
    Calls Try.prog 31 #[.pointer (some ⟨Bp, 0, none⟩)] w fun r w' => r = .returned (.tuple #[.agg #[.int .i64 x.a, .int .i64 x.i], .int .i64 0]) ∧ Rd R m 0 w' ∧ Keep R w w' := by
  obtain ⟨a, i, n, h1, h2, rfl, hm⟩ := ri_right hr
  exact (id31_both a i n m true h hp hBp hBR hl h1 h2 hm).mono fun r w' ⟨e1, e2, e3⟩ => ⟨by rw [e1]; rfl, e2, e3⟩
theorem id31_wrong (e : Int) (h : Rd R l 0 w) (hp : w.cell? ⟨Bp, 0, none⟩ = some (.pointer (some ⟨R, 0, none⟩))) (hBp : Bp < w.heap.size) (hBR : Bp ≠ R) (hl : l.length ≤ 100000) (hr : ri l = (⟨0, 0⟩, e, [])) (he : e ≠ 0) :
    Calls Try.prog 31 #[.pointer (some ⟨Bp, 0, none⟩)] w (IdWrong R e w) := by
  rcases ri_wrong hr he with h1 | ⟨a, n, h1, h2⟩ | ⟨a, i, n, m, h1, h2, hm, rfl⟩
  · exact id31_first e h hp hBp hl h1 he
  · exact id31_second e a n h hp hBp hBR hl h1 h2 he
  · exact (id31_both a i n m false h hp hBp hBR hl h1 h2 hm).mono fun r w' ⟨e1, e2, e3⟩ => ⟨a, i, m, 0, by rw [e1]; rfl, e2, e3⟩
set_option maxRecDepth 100000 in
set_option maxHeartbeats 4000000 in
theorem read30_right (x : Idn) (m : List UInt8) (h : Rd R l 0 w) (hp : w.cell? ⟨Bp, 0, none⟩ = some (.pointer (some ⟨R, 0, none⟩))) (hBp : Bp < w.heap.size) (hBR : Bp ≠ R) (hl : l.length ≤ 100000) (hr : ri l = (x, 0, m)) :
    Calls Try.prog 30 #[.pointer (some ⟨R, 0, none⟩), .func (.func 31) #[] #[.pointer (some ⟨Bp, 0, none⟩)]] w fun r w' => r = .returned (.tuple #[.agg #[.int .i64 x.a, .int .i64 x.i], .int .i64 0]) ∧ Rd R m 0 w' ∧ Keep R w w' := by
  have c1 := h.c1
  have hRl := h.lt
  have hne : w.heap.size ≠ R := by omega
  go_enter Try.func30, Try.ntmps30
  go_wp2_with fail
  refine (id31_right x m (h.alloc _) ((((Below.refl _ w).alloc (Nat.le_refl _) (.cells #[.int .i64 0, .int .i64 0] 23)).cell (p := ⟨Bp, 0, none⟩) hBp).trans hp) (by simp; omega) hBR hl hr).mono ?_
  rintro r w1 ⟨rfl, h1, hK⟩
  have hN : w1.heap[w.heap.size]? = some (.cells #[.int .i64 0, .int .i64 0] 23 (0, 0)) := (hK.block _ (by simp) (by omega)).trans (heap_alloc_new _ _)
  have n0 : w1.cell? ⟨w.heap.size, 0, none⟩ = some (.int .i64 0) := by rw [cell_of_row _ _ _ _ _ _ hN]; rfl
  have n1 : w1.cell? ⟨w.heap.size, 1, none⟩ = some (.int .i64 0) := by rw [cell_of_row _ _ _ _ _ _ hN]; rfl
  have f0 : w1.frozen? ⟨w.heap.size, 0, none⟩ = false := frozen_of_row _ _ _ _ _ hN
  have f1 : w1.frozen? ⟨w.heap.size, 1, none⟩ = false := frozen_of_row _ _ _ _ _ hN
  have hz1 : w.heap.size < w1.heap.size := (Array.getElem?_eq_some_iff.1 hN).1
  have HK := Lib.hid (((Keep.refl R w).alloc (.cells #[.int .i64 0, .int .i64 0] 23)).trans hK)
  clear hr hN hK c1
  go_wp2_with fail
  refine bodyPost_ret (v := .tuple #[.agg #[.int .i64 x.a, .int .i64 x.i], .int .i64 0]) (by simp [results, Try.results30, go_sem, n0, n1, hz1]) rfl ⟨rfl, ((h1.setOther hne _).setOther hne _).alloc _, ?_⟩
  exact ((HK.out.setCell (p := ⟨w.heap.size, 0, none⟩) (.inr (Nat.le_refl _)) _).setCell (p := ⟨w.heap.size, 1, none⟩) (.inr (Nat.le_refl _)) _).alloc _
set_option maxRecDepth 100000 in
set_option maxHeartbeats 4000000 in
theorem read30_wrong (e : Int) (h : Rd R l 0 w) (hp : w.cell? ⟨Bp, 0, none⟩ = some (.pointer (some ⟨R, 0, none⟩))) (hBp : Bp < w.heap.size) (hBR : Bp ≠ R) (hl : l.length ≤ 100000) (hr : ri l = (⟨0, 0⟩, e, [])) (he : e ≠ 0) :
    Calls Try.prog 30 #[.pointer (some ⟨R, 0, none⟩), .func (.func 31) #[] #[.pointer (some ⟨Bp, 0, none⟩)]] w fun r w' => r = .returned (.tuple #[.agg #[.int .i64 0, .int .i64 0], .int .i64 e]) ∧ Rd R [] e w' ∧ Keep R w w' := by
  have c1 := h.c1
  have hRl := h.lt
  have hne : w.heap.size ≠ R := by omega
  have heb : (e != 0) = true := by simpa using he
  go_enter Try.func30, Try.ntmps30
  go_wp2_with fail
  refine (id31_wrong e (h.alloc _) ((((Below.refl _ w).alloc (Nat.le_refl _) (.cells #[.int .i64 0, .int .i64 0] 23)).cell (p := ⟨Bp, 0, none⟩) hBp).trans hp) (by simp; omega) hBR hl hr he).mono ?_
  rintro r w1 ⟨a, i, m, e', rfl, h1, hK⟩
  have hN : w1.heap[w.heap.size]? = some (.cells #[.int .i64 0, .int .i64 0] 23 (0, 0)) := (hK.block _ (by simp) (by omega)).trans (heap_alloc_new _ _)
  have n0 : w1.cell? ⟨w.heap.size, 0, none⟩ = some (.int .i64 0) := by rw [cell_of_row _ _ _ _ _ _ hN]; rfl
  have n1 : w1.cell? ⟨w.heap.size, 1, none⟩ = some (.int .i64 0) := by rw [cell_of_row _ _ _ _ _ _ hN]; rfl
  have f0 : w1.frozen? ⟨w.heap.size, 0, none⟩ = false := frozen_of_row _ _ _ _ _ hN
  have f1 : w1.frozen? ⟨w.heap.size, 1, none⟩ = false := frozen_of_row _ _ _ _ _ hN
  have hz1 : w.heap.size < w1.heap.size := (Array.getElem?_eq_some_iff.1 hN).1
  have HK := Lib.hid (((Keep.refl R w).alloc (.cells #[.int .i64 0, .int .i64 0] 23)).trans hK)
  clear hr hN hK c1
  have d0 := h1.c0
  have d1 := h1.c1
  have g0 := h1.free 0
  have g1 := h1.free 1
  have hR1 := h1.lt
  go_wp2_with fail
  refine bodyPost_ret (v := .tuple #[.agg #[.int .i64 0, .int .i64 0], .int .i64 e]) (by simp [results, Try.results30, go_sem, n0, n1, hz1, hne, Ne.symm hne]) rfl ⟨rfl, ((((h1.set0 []).set1 e).setOther hne _).setOther hne _).alloc _, ?_⟩
  exact ((((HK.out.setCell (p := ⟨R, 0, none⟩) (.inl rfl) _).setCell (p := ⟨R, 1, none⟩) (.inl rfl) _).setCell (p := ⟨w.heap.size, 0, none⟩) (.inr (Nat.le_refl _)) _).setCell (p := ⟨w.heap.size, 1, none⟩) (.inr (Nat.le_refl _)) _).alloc _
set_option maxRecDepth 100000 in
set_option maxHeartbeats 4000000 in
theorem id20_right (x : Idn) (m : List UInt8) (h : Rd R l 0 w) (hl : l.length ≤ 100000) (hr : ri l = (x, 0, m)) :
    Calls Try.prog 20 #[.pointer (some ⟨R, 0, none⟩)] w fun r w' => r = .returned (.tuple #[.agg #[.int .i64 x.a, .int .i64 x.i], .int .i64 0]) ∧ Rd R m 0 w' ∧ Keep R w w' := by
  have hRl := h.lt
  go_enter Try.func20, Try.ntmps20
  go_wp2_with fail
  refine (read30_right x m ((h.alloc _).alloc _) (by simp) (by simp; omega) (by omega) hl hr).mono ?_
  rintro r w1 ⟨rfl, h1, hK⟩
  have hN : w1.heap[w.heap.size + 1]? = some (.cells #[.int .i64 0, .int .i64 0] 23 (0, 0)) := (hK.block _ (by simp) (by omega)).trans (by have := heap_alloc_new (w.alloc (.cells #[.pointer (some ⟨R, 0, none⟩)] 35)) (.cells #[.int .i64 0, .int .i64 0] 23); simpa using this)
  have n0 : w1.cell? ⟨w.heap.size + 1, 0, none⟩ = some (.int .i64 0) := by rw [cell_of_row _ _ _ _ _ _ hN]; rfl
  have n1 : w1.cell? ⟨w.heap.size + 1, 1, none⟩ = some (.int .i64 0) := by rw [cell_of_row _ _ _ _ _ _ hN]; rfl
  have f0 : w1.frozen? ⟨w.heap.size + 1, 0, none⟩ = false := frozen_of_row _ _ _ _ _ hN
  have f1 : w1.frozen? ⟨w.heap.size + 1, 1, none⟩ = false := frozen_of_row _ _ _ _ _ hN
  have HK := Lib.hid ((((Keep.refl R w).alloc (.cells #[.pointer (some ⟨R, 0, none⟩)] 35)).alloc (.cells #[.int .i64 0, .int .i64 0] 23)).trans hK)
  clear hr hN hK
  have hne : w.heap.size + 1 ≠ R := by omega
  go_wp2_with fail
  refine bodyPost_ret (v := .tuple #[.agg #[.int .i64 x.a, .int .i64 x.i], .int .i64 0]) (by simp [results, Try.results20, go_sem, n0, n1]) rfl ⟨rfl, (h1.setOther hne _).setOther hne _, ?_⟩
  exact (HK.out.setCell (p := ⟨w.heap.size + 1, 0, none⟩) (.inr (Nat.le_succ _)) _).setCell (p := ⟨w.heap.size + 1, 1, none⟩) (.inr (Nat.le_succ _)) _
set_option maxRecDepth 100000 in
set_option maxHeartbeats 4000000 in
theorem id20_wrong (e : Int) (h : Rd R l 0 w) (hl : l.length ≤ 100000) (hr : ri l = (⟨0, 0⟩, e, [])) (he : e ≠ 0) :
    Calls Try.prog 20 #[.pointer (some ⟨R, 0, none⟩)] w fun r w' => r = .returned (.tuple #[.agg #[.int .i64 0, .int .i64 0], .int .i64 e]) ∧ Rd R [] e w' ∧ Keep R w w' := by
  have hRl := h.lt
  go_enter Try.func20, Try.ntmps20
  go_wp2_with fail
  refine (read30_wrong e ((h.alloc _).alloc _) (by simp) (by simp; omega) (by omega) hl hr he).mono ?_
  rintro r w1 ⟨rfl, h1, hK⟩
  have hN : w1.heap[w.heap.size + 1]? = some (.cells #[.int .i64 0, .int .i64 0] 23 (0, 0)) := (hK.block _ (by simp) (by omega)).trans (by have := heap_alloc_new (w.alloc (.cells #[.pointer (some ⟨R, 0, none⟩)] 35)) (.cells #[.int .i64 0, .int .i64 0] 23); simpa using this)
  have n0 : w1.cell? ⟨w.heap.size + 1, 0, none⟩ = some (.int .i64 0) := by rw [cell_of_row _ _ _ _ _ _ hN]; rfl
  have n1 : w1.cell? ⟨w.heap.size + 1, 1, none⟩ = some (.int .i64 0) := by rw [cell_of_row _ _ _ _ _ _ hN]; rfl
  have f0 : w1.frozen? ⟨w.heap.size + 1, 0, none⟩ = false := frozen_of_row _ _ _ _ _ hN
  have f1 : w1.frozen? ⟨w.heap.size + 1, 1, none⟩ = false := frozen_of_row _ _ _ _ _ hN
  have HK := Lib.hid ((((Keep.refl R w).alloc (.cells #[.pointer (some ⟨R, 0, none⟩)] 35)).alloc (.cells #[.int .i64 0, .int .i64 0] 23)).trans hK)
  clear hr hN hK
  have hne : w.heap.size + 1 ≠ R := by omega
  go_wp2_with fail
  refine bodyPost_ret (v := .tuple #[.agg #[.int .i64 0, .int .i64 0], .int .i64 e]) (by simp [results, Try.results20, go_sem, n0, n1]) rfl ⟨rfl, (h1.setOther hne _).setOther hne _, ?_⟩
  exact (HK.out.setCell (p := ⟨w.heap.size + 1, 0, none⟩) (.inr (Nat.le_succ _)) _).setCell (p := ⟨w.heap.size + 1, 1, none⟩) (.inr (Nat.le_succ _)) _
end
end Go.Proofs.Ytimlenapeghknaa
