/-
  A frame bent: the closure, and what goes over a frame with it.
-/
import Derived.Test.YtialfpmfiapepaaAts
namespace Go.Proofs.Ytialfpmfiapepaa
open Go.RowKit
set_option linter.unusedVariables false
set_option linter.unusedSimpArgs false
attribute [local go_sem ↓] Go.wp_at_zero Go.wp_at_succ
/-- A frame bent, if it is not yet. -/
def U.bend (f : U) (a : Int) (x : BitVec 32) : U := if f.bent = true then f else ⟨⟨(Ytialfpmfiapepaa.bend f.s.data.toList a x).toArray⟩, f.to, true⟩
set_option maxHeartbeats 1000000 in
theorem clo_bent (us : ByteArray) (uto : Int) (B0 Q A X : Nat) (w : World) (hQ : w.heap[Q]? = some (.cells #[.bool false] 4 (0, 0))) (h1 : B0 ≤ Q) :
    Calls Try.prog 32 #[.agg #[.string us, .int .i64 uto, .bool true], .pointer (some ⟨Q, 0, none⟩), .pointer (some ⟨A, 0, none⟩), .pointer (some ⟨X, 0, none⟩)] w fun e w' => e = .returned (.agg #[.string us, .int .i64 uto, .bool true]) ∧ w'.heap[Q]? = some (.cells #[.bool true] 4 (0, 0)) ∧ w.heap.size ≤ w'.heap.size ∧ Below B0 w w' := by
  have q0 : w.cell? ⟨Q, 0, none⟩ = some (.bool false) := by rw [cell_of_row _ _ _ _ _ _ hQ]; rfl
  have fq : w.frozen? ⟨Q, 0, none⟩ = false := frozen_of_row _ _ _ _ _ hQ
  have lq : Q < w.heap.size := (Array.getElem?_eq_some_iff.1 hQ).1
  have HQ := Lib.hid hQ
  clear hQ
  go_enter Try.func32, Try.ntmps32
  go_wp2_with fail
  refine bodyPost_ret (v := .agg #[.string us, .int .i64 uto, .bool true]) (by simp [results, Try.results32, go_sem]) rfl ?_
  refine ⟨rfl, ?_, by simp; omega, ((((Below.refl B0 w).setCell (p := ⟨Q, 0, none⟩) h1 _).alloc (by simp; omega) _).alloc (by simp; omega) _)⟩
  rw [Below.heap_alloc _ _ _ (by simp; omega), Below.heap_alloc _ _ _ (by simp; omega), heap_setCell_same _ _ _ _ _ _ HQ.out]
  rfl
set_option maxHeartbeats 2000000 in
theorem clo_bend (us : ByteArray) (uto a : Int) (x : BitVec 32) (B0 Q A X : Nat) (w : World) (hs : us.size ≤ 100000) (ha0 : -9223372036854775808 ≤ a) (ha1 : a ≤ 9223372036854775807) (hQ : w.heap[Q]? = some (.cells #[.bool false] 4 (0, 0))) (hA : w.heap[A]? = some (.cells #[.int .i64 a] 3 (0, 0))) (hX : w.heap[X]? = some (.cells #[.int .u32 (u x)] 30 (0, 0))) (h1 : B0 ≤ Q) (hAQ : A ≠ Q) (hXQ : X ≠ Q) :
    Calls Try.prog 32 #[.agg #[.string us, .int .i64 uto, .bool false], .pointer (some ⟨Q, 0, none⟩), .pointer (some ⟨A, 0, none⟩), .pointer (some ⟨X, 0, none⟩)] w fun e w' => e = .returned (.agg #[.string ⟨(bend us.data.toList a x).toArray⟩, .int .i64 uto, .bool true]) ∧ w'.heap[Q]? = some (.cells #[.bool false] 4 (0, 0)) ∧ w.heap.size ≤ w'.heap.size ∧ Below B0 w w' := by
  have q0 : w.cell? ⟨Q, 0, none⟩ = some (.bool false) := by rw [cell_of_row _ _ _ _ _ _ hQ]; rfl
  have a0 : w.cell? ⟨A, 0, none⟩ = some (.int .i64 a) := by rw [cell_of_row _ _ _ _ _ _ hA]; rfl
  have x0 : w.cell? ⟨X, 0, none⟩ = some (.int .u32 (u x)) := by rw [cell_of_row _ _ _ _ _ _ hX]; rfl
  have fq : w.frozen? ⟨Q, 0, none⟩ = false := frozen_of_row _ _ _ _ _ hQ
  have lq : Q < w.heap.size := (Array.getElem?_eq_some_iff.1 hQ).1
  have la : A < w.heap.size := (Array.getElem?_eq_some_iff.1 hA).1
  have lx : X < w.heap.size := (Array.getElem?_eq_some_iff.1 hX).1
  have HQ := Lib.hid hQ
  clear hQ hA hX
  go_enter Try.func32, Try.ntmps32
  go_wp2_with fail
  obtain ⟨Y, hY⟩ : ∃ Y : World, Y = ((w.setCell ⟨Q, 0, none⟩ (.bool false)).alloc (.cells #[.string us, .int .i64 uto, .bool false] 65)).alloc (.cells #[.string ⟨#[]⟩, .int .i64 0, .bool false] 65) := ⟨_, rfl⟩
  rw [← hY]
  have hsY : Y.heap.size = w.heap.size + 1 + 1 := by rw [hY]; simp
  have HQY : Y.heap[Q]? = some (.cells #[.bool false] 4 (0, 0)) := by
    rw [hY, Below.heap_alloc _ _ _ (by simp; omega), Below.heap_alloc _ _ _ (by simp; omega), heap_setCell_same _ _ _ _ _ _ HQ.out]; rfl
  have hbY : Below B0 w Y := by rw [hY]; exact ((((Below.refl B0 w).setCell (p := ⟨Q, 0, none⟩) h1 _).alloc (by simp; omega) _).alloc (by simp; omega) _)
  have hr : Y.heap[w.heap.size + 1]? = some (.cells #[.string ⟨#[]⟩, .int .i64 0, .bool false] 65 (0, 0)) := by
    rw [hY]
    have := heap_alloc_new ((w.setCell ⟨Q, 0, none⟩ (.bool false)).alloc (.cells #[.string us, .int .i64 uto, .bool false] 65)) (.cells #[.string ⟨#[]⟩, .int .i64 0, .bool false] 65)
    simpa using this
  have hb : Y.heap[w.heap.size]? = some (.cells #[.string us, .int .i64 uto, .bool false] 65 (0, 0)) := by
    rw [hY, Below.heap_alloc _ _ _ (by simp)]
    have := heap_alloc_new (w.setCell ⟨Q, 0, none⟩ (.bool false)) (.cells #[.string us, .int .i64 uto, .bool false] 65)
    simpa using this
  have ya : Y.cell? ⟨A, 0, none⟩ = some (.int .i64 a) := by
    rw [hY, World.cell?_alloc_lt _ _ _ (by simp; omega), World.cell?_alloc_lt _ _ _ (by simp; omega), World.cell?_setCell_other _ _ _ _ (by simp only [ne_eq, Addr.mk.injEq, not_and]; intro e; omega)]; exact a0
  have yx : Y.cell? ⟨X, 0, none⟩ = some (.int .u32 (u x)) := by
    rw [hY, World.cell?_alloc_lt _ _ _ (by simp; omega), World.cell?_alloc_lt _ _ _ (by simp; omega), World.cell?_setCell_other _ _ _ _ (by simp only [ne_eq, Addr.mk.injEq, not_and]; intro e; omega)]; exact x0
  have b0 : Y.cell? ⟨w.heap.size, 0, none⟩ = some (.string us) := by rw [cell_of_row _ _ _ _ _ _ hb]; rfl
  have b1 : Y.cell? ⟨w.heap.size, 1, none⟩ = some (.int .i64 uto) := by rw [cell_of_row _ _ _ _ _ _ hb]; rfl
  have HR := Lib.hid (And.intro hr (And.intro HQY hbY))
  clear hY hr HQY hbY hb a0 x0 q0 fq HQ
  generalize hz : w.heap.size = z at *
  have HZ := Lib.hid hz
  clear hz
  have hAz : A ≠ z + 1 := by omega
  have hAz2 : z + 1 ≠ A := by omega
  have hXz2 : z + 1 ≠ X := by omega
  have hXz : X ≠ z + 1 := by omega
  go_region_held3 (fun v => v.cell? ⟨A, 0, none⟩ = some (.int .i64 a) ∧ v.cell? ⟨X, 0, none⟩ = some (.int .u32 (u x)) ∧ v.cell? ⟨z, 0, none⟩ = some (.string us) ∧ v.cell? ⟨z, 1, none⟩ = some (.int .i64 uto)) (go_keep)
    ((go_at_call 33; (with_reducible refine (bend_any us a x _ hs ha0 ha1).mono ?_); rintro e w9 ⟨rfl, hb9⟩; have hbD : Below Y.heap.size Y w9 := ⟨hb9.os, hb9.tape, hb9.output, hb9.size, hb9.block⟩; clear hb9; have hr9 := (hbD.block _ (by omega)).trans HR.out.1; have ya := (hbD.cell (p := ⟨A, 0, none⟩) (by show A < _; omega)).trans ya; have yx := (hbD.cell (p := ⟨X, 0, none⟩) (by show X < _; omega)).trans yx; have b0 := (hbD.cell (p := ⟨z, 0, none⟩) (by show z < _; omega)).trans b0; have b1 := (hbD.cell (p := ⟨z, 1, none⟩) (by show z < _; omega)).trans b1; have r0 : w9.cell? ⟨z + 1, 0, none⟩ = some (.string ⟨#[]⟩) := (cell_of_row _ _ _ _ _ _ hr9).trans rfl; have r1 : w9.cell? ⟨z + 1, 1, none⟩ = some (.int .i64 0) := (cell_of_row _ _ _ _ _ _ hr9).trans rfl; have r2 : w9.cell? ⟨z + 1, 2, none⟩ = some (.bool false) := (cell_of_row _ _ _ _ _ _ hr9).trans rfl; have fz := fun o => frozen_of_row w9 (z + 1) o _ _ hr9; have HR9 := Lib.hid hr9; clear hr9))
  go_wp2_with fail
  have hs9 := hbD.size
  refine bodyPost_ret (v := .agg #[.string ⟨(bend us.data.toList a x).toArray⟩, .int .i64 uto, .bool true]) (by simp [results, Try.results32, go_sem, r0, r1, r2]) rfl ?_
  obtain ⟨-, hQY, hbY⟩ := HR.out
  refine ⟨rfl, ?_, by have := HZ.out; simp; omega, (((hbY.trans (hbD.mono (by omega))).setCell (p := ⟨z + 1, 0, none⟩) (by show B0 ≤ z + 1; omega) _).setCell (p := ⟨z + 1, 1, none⟩) (by show B0 ≤ z + 1; omega) _).setCell (p := ⟨z + 1, 2, none⟩) (by show B0 ≤ z + 1; omega) _⟩
  rw [Below.heap_setCell _ _ _ _ (by show Q ≠ z + 1; omega), Below.heap_setCell _ _ _ _ (by show Q ≠ z + 1; omega), Below.heap_setCell _ _ _ _ (by show Q ≠ z + 1; omega), hbD.block Q (by omega)]
  exact hQY
end Go.Proofs.Ytialfpmfiapepaa
