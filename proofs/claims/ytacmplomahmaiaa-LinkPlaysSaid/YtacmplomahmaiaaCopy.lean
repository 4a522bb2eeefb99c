/-
  The walk of what copies links.
-/
import Derived.Test.YtacmplomahmaiaaPlay
namespace Go.Proofs.Ytacmplomahmaiaa
open Go.RowKit Go.Maps
set_option linter.unusedVariables false
set_option linter.unusedSimpArgs false
attribute [local go_sem ↓] Go.wp_at_zero Go.wp_at_succ
set_option maxHeartbeats 2000000 in
theorem clone_any (M : Nat) (es : Array MapEntry) (clock : Nat) (w : World) (hb : w.heap[M]? = some (.map es clock)) :
    Calls Try.prog 26 #[.map (some M)] w fun e w' => e = .returned (.map (some w.heap.size)) ∧ w' = w.alloc (.map es clock) := by
  have hq := fun w => run_eql_map_nil_sl (P := Try.prog) w 54 _ _ (some M) Try.underlying54
  go_enter Try.func26, Try.ntmps26
  go_wp2
  rw [run_callFunc_extern Try.func28 (by kernel_rfl) (by kernel_rfl) (by kernel_rfl) (e := Extern.MapsClone.clone) (by kernel_rfl), run_maps_clone_sl w 54 hb]
  simp only [Result.andThen]
  rw [Oper.upon_value]
  go_wp2
  rw [run_typeAssert_map_sl _ 54 20 _ _ _ Try.underlying54]
  simp only [Result.andThen]
  rw [Oper.upon_value]
  go_wp2
  go_ret
  exact ⟨rfl, rfl⟩
theorem copy_any (B M n : Nat) (g : Int → Peer) (w : World) (h : Lk B M n g w) :
    Calls Try.prog 18 #[.pointer (some ⟨B, 0, none⟩)] w fun e w' => e = .returned (.pointer (some ⟨w.heap.size + 1, 0, none⟩)) ∧ Lk (w.heap.size + 1) w.heap.size n g w' ∧ Below w.heap.size w w' := by
  have hc := h.cell
  obtain ⟨D, ⟨es, clock, h1, h2⟩, h3⟩ := h.knows
  have hk : Knows w.heap.size n g (w.alloc (.map es clock)) := ⟨D, ⟨es, clock, heap_alloc_new _ _, h2⟩, h3⟩
  have H := Lib.hid (And.intro h2 h3)
  clear h2 h3 h
  go_enter Try.func18, Try.ntmps18
  go_wp2_with fail
  refine (clone_any M es clock w h1).mono ?_
  rintro e w1 ⟨rfl, rfl⟩
  clear h1
  go_wp2_with fail
  go_ret
  refine ⟨by simp, ⟨?_, ?_, by omega⟩, ?_⟩
  · have := heap_alloc_new (w.alloc (.map es clock)) (.cells #[.map (some w.heap.size)] 56)
    simpa using this
  · exact hk.same (Below.heap_alloc _ _ _ (by simp))
  · exact ((Below.refl _ w).alloc (Nat.le_refl _) _).alloc (by simp) _
end Go.Proofs.Ytacmplomahmaiaa
