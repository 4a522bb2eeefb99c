/-
  The walks of May, New, Newest, and of what frames are made of.
-/
import Derived.Test.YtacmplomahmaiaaBase
namespace Go.Proofs.Ytacmplomahmaiaa
open Go.RowKit Go.Maps
theorem ret_b {a b : Bool} (h : a = b) : Ending.returned (.bool a) = .returned (.bool b) := by rw [h]
theorem ret_i {k : IntKind} {a b : Int} (h : a = b) : Ending.returned (.int k a) = .returned (.int k b) := by rw [h]
set_option maxRecDepth 100000 in
set_option maxHeartbeats 400000 in
theorem may_any (a i : Int) (w : World) :
    Calls Try.prog 14 #[.agg #[.int .i64 a, .int .i64 i]] w fun e w' => e = .returned (.bool (mayB a i)) ∧ Below w.heap.size w w' := by
  go_enter Try.func14, Try.ntmps14
  go_wp2
  all_goals
    go_ret
    refine ⟨ret_b ?_, (Below.refl _ _).alloc (Nat.le_refl _) _⟩
    unfold mayB
    first
      | (simp [*]; done)
      | (symm; apply decide_eq_false; omega)
set_option maxRecDepth 100000 in
set_option maxHeartbeats 400000 in
theorem ref_may_any (a i : Int) (w : World) :
    Calls Try.prog 27 #[.agg #[.int .i64 a, .int .i64 i]] w fun e w' => e = .returned (.bool (mayB a i)) ∧ Below w.heap.size w w' := by
  go_enter Try.func27, Try.ntmps27
  go_wp2
  all_goals
    go_ret
    refine ⟨ret_b ?_, (Below.refl _ _).alloc (Nat.le_refl _) _⟩
    unfold mayB
    first
      | (simp [*]; done)
      | (symm; apply decide_eq_false; omega)
set_option maxRecDepth 100000 in
theorem beat_any (a i n : Int) (w : World) : Calls Try.prog 24 #[.int .i64 a, .int .i64 i, .int .i64 n] w fun e w' => e = .returned (Fr.val ⟨5, a, i, 1, 1, n, 0⟩) ∧ Below w.heap.size w w' := by
  go_enter Try.func24, Try.ntmps24
  go_wp2
  refine bodyPost_ret (v := Fr.val ⟨5, a, i, 1, 1, n, 0⟩) (by simp [results, Try.results24, go_sem, Fr.val, Fr.cells]) rfl ⟨rfl, ?_⟩
  exact (Below.refl _ _).alloc (Nat.le_refl _) _
set_option maxRecDepth 100000 in
theorem frame_any (fence : Bool) (kind fa fi ta ti n : Int) (w : World) :
    Calls Try.prog 10 #[.agg #[.bool fence, .int .u8 kind, .int .i64 fa, .int .i64 fi, .int .i64 ta, .int .i64 ti, .int .i64 n]] w fun e w' => e = .returned (Fr.val ⟨kind, fa, fi, ta, ti, n, 0⟩) ∧ Below w.heap.size w w' := by
  go_enter Try.func10, Try.ntmps10
  go_wp2
  refine bodyPost_ret (v := Fr.val ⟨kind, fa, fi, ta, ti, n, 0⟩) (by simp [results, Try.results10, go_sem, Fr.val, Fr.cells]) rfl ⟨rfl, ?_⟩
  exact ((Below.refl _ _).alloc (Nat.le_refl _) _).alloc (by simp) _
theorem old_any (f : Fr) (m : Int) (w : World) : Calls Try.prog 25 #[f.val, .int .i64 m] w fun e w' => e = .returned (.bool (decide (f.n ≤ m))) ∧ Below w.heap.size w w' := by
  simp only [Fr.val, Fr.cells]
  go_enter Try.func25, Try.ntmps25
  go_wp2
  go_ret
  exact ⟨rfl, (Below.refl _ _).alloc (Nat.le_refl _) _⟩
theorem new_any (w : World) : Calls Try.prog 16 #[] w fun e w' => e = .returned (.pointer (some ⟨w.heap.size + 1, 0, none⟩)) ∧ Lk (w.heap.size + 1) w.heap.size 0 (fun _ => .zero) w' ∧ Below w.heap.size w w' := by
  have hmm := @run_makeMap Try.prog
  go_enter Try.func16, Try.ntmps16
  go_wp2
  go_ret
  refine ⟨rfl, ⟨?_, (Knows.made w).same (Below.heap_alloc _ _ _ (by simp)), by omega⟩, ((Below.refl _ _).alloc (Nat.le_refl _) _).alloc (by simp) _⟩
  have := heap_alloc_new (w.alloc (.map #[] 0)) (.cells #[.map (some w.heap.size)] 56)
  simpa using this
theorem field_0 (a b c d : Int) (w : World) : Sem.run Try.prog (Instr.field 53 (.agg #[.int .i64 a, .int .i64 b, .int .i64 c, .int .i64 d]) 0) w = .ok (.int .i64 a) w := by kernel_rfl
theorem field_1 (a b c d : Int) (w : World) : Sem.run Try.prog (Instr.field 53 (.agg #[.int .i64 a, .int .i64 b, .int .i64 c, .int .i64 d]) 1) w = .ok (.int .i64 b) w := by kernel_rfl
attribute [go_sem] field_0 field_1
theorem newest_any (B M n : Nat) (g : Int → Peer) (a : Int) (w : World) (h : Lk B M n g w) (ha : inI64 a) :
    Calls Try.prog 13 #[.pointer (some ⟨B, 0, none⟩), .int .i64 a] w fun e w' => e = .returned (.int .i64 (g a).newest) ∧ w' = w := by
  have hc := h.cell
  have hl := h.knows.look a ha
  simp only [Peer.cells] at hl
  go_enter Try.func13, Try.ntmps13
  go_wp2
  go_ret
  exact ⟨rfl, rfl⟩
theorem newest_nil (a : Int) (w : World) : Calls Try.prog 13 #[.pointer none, .int .i64 a] w fun e w' => e = .returned (.int .i64 0) ∧ w' = w := by
  go_enter Try.func13, Try.ntmps13
  go_wp2
  go_ret
  exact ⟨rfl, rfl⟩
end Go.Proofs.Ytacmplomahmaiaa
