/-
  The walks of New, Tick, Start, Token, Copy, and of what an answer is made of.
-/
import Derived.Test.YtjjbfmaldhlenaaBase
namespace Go.Proofs.Ytjjbfmaldhlenaa
open Go.RowKit
theorem ret_b {a b : Bool} (h : a = b) : Ending.returned (.bool a) = .returned (.bool b) := by rw [h]
theorem new_yes (t : Int) (w : World) (h1 : 1 ≤ t) (h2 : t ≤ 4096) :
    Calls Try.prog 9 #[.int .i64 t] w fun e w' => e = .returned (.tuple #[.pointer (some ⟨w.heap.size, 0, none⟩), .int .i64 0]) ∧ At w.heap.size (.fresh t) w' ∧ Below w.heap.size w w' := by
  go_enter Try.func9, Try.ntmps9
  go_wp2
  go_ret2
  exact ⟨rfl, heap_alloc_new _ _, (Below.refl _ _).alloc (Nat.le_refl _) _⟩
theorem new_no (t : Int) (w : World) (h : t < 1 ∨ 4096 < t) :
    Calls Try.prog 9 #[.int .i64 t] w fun e w' => e = .returned (.tuple #[.pointer none, .int .i64 1]) ∧ w' = w := by
  have hd : t < 1 ∨ (¬ t < 1 ∧ 4096 < t) := by omega
  clear h
  rcases hd with h | ⟨h, h'⟩
  all_goals
    go_enter Try.func9, Try.ntmps9
    go_wp2
    go_ret2
    exact ⟨rfl, rfl⟩
theorem tick_any (B : Nat) (s : St) (w : World) (h : At B s w) (ok : s.Ok) :
    Calls Try.prog 10 #[.pointer (some ⟨B, 0, none⟩)] w fun e w' => e = .returned (.tuple #[]) ∧ At B s.tick w' ∧ Keep B w w' := by
  obtain ⟨-, c1, -⟩ := h.reads
  have f1 := h.free 1
  have n1 := ok.n1
  have n2 := ok.n2
  have hA := h.set 1 (.int .i64 (s.now + 1)) s.tick rfl
  go_enter Try.func10, Try.ntmps10
  go_wp2
  go_end0
  exact ⟨rfl, hA, (Keep.refl B w).setCell (.inl rfl) _⟩
theorem tick_nil (w : World) : Calls Try.prog 10 #[.pointer none] w fun e w' => e = .returned (.tuple #[]) ∧ w' = w := by
  go_enter Try.func10, Try.ntmps10
  go_wp2
  go_end0
  exact ⟨rfl, rfl⟩
theorem start_nil (w : World) : Calls Try.prog 11 #[.pointer none] w fun e w' => e = .returned (.int .i64 2) ∧ w' = w := by
  go_enter Try.func11, Try.ntmps11
  go_wp2
  go_ret
  exact ⟨rfl, rfl⟩
theorem token_any (B : Nat) (s : St) (w : World) (h : At B s w) :
    Calls Try.prog 16 #[.pointer (some ⟨B, 0, none⟩)] w fun e w' => e = .returned (.int .i64 s.token) ∧ w' = w := by
  obtain ⟨-, -, c2, -⟩ := h.reads
  go_enter Try.func16, Try.ntmps16
  go_wp2
  go_ret
  exact ⟨rfl, rfl⟩
theorem token_nil (w : World) : Calls Try.prog 16 #[.pointer none] w fun e w' => e = .returned (.int .i64 0) ∧ w' = w := by
  go_enter Try.func16, Try.ntmps16
  go_wp2
  go_ret
  exact ⟨rfl, rfl⟩
theorem copy_any (B : Nat) (s : St) (w : World) (h : At B s w) :
    Calls Try.prog 18 #[.pointer (some ⟨B, 0, none⟩)] w fun e w' => e = .returned (.pointer (some ⟨w.heap.size, 0, none⟩)) ∧ At w.heap.size s w' ∧ Below w.heap.size w w' := by
  have hlt := h.lt
  obtain ⟨c0, c1, c2, c3, c4, c5⟩ := h.reads
  go_enter Try.func18, Try.ntmps18
  go_wp2
  go_ret
  exact ⟨rfl, heap_alloc_new _ _, (Below.refl _ _).alloc (Nat.le_refl _) _⟩
theorem copy_nil (w : World) : Calls Try.prog 18 #[.pointer none] w fun e w' => e = .returned (.pointer none) ∧ w' = w := by
  go_enter Try.func18, Try.ntmps18
  go_wp2
  go_ret
  exact ⟨rfl, rfl⟩
theorem at_any (a : Int) (w : World) : Calls Try.prog 12 #[.int .i64 a] w fun e w' => e = .returned (.agg #[.int .i64 a, .int .i64 1]) ∧ Below w.heap.size w w' := by
  go_enter Try.func12, Try.ntmps12
  go_wp2
  refine bodyPost_ret (v := .agg #[.int .i64 a, .int .i64 1]) (by simp [results, Try.results12, go_sem]) rfl ⟨rfl, ?_⟩
  exact (Below.refl _ _).alloc (Nat.le_refl _) _
set_option maxRecDepth 100000 in
set_option maxHeartbeats 400000 in
theorem may_any (a i : Int) (w : World) :
    Calls Try.prog 31 #[.agg #[.int .i64 a, .int .i64 i]] w fun e w' => e = .returned (.bool (mayB a i)) ∧ Below w.heap.size w w' := by
  go_enter Try.func31, Try.ntmps31
  go_wp2
  all_goals
    go_ret
    refine ⟨ret_b ?_, (Below.refl _ _).alloc (Nat.le_refl _) _⟩
    unfold mayB
    first
      | (simp [*]; done)
      | (symm; apply decide_eq_false; omega)
set_option maxRecDepth 100000 in
set_option maxHeartbeats 400000 in
theorem nothing_any (p : Value) (s : St) (f : Fr) (w : World) :
    Calls Try.prog 30 #[p, f.val] w fun e w' => e = .returned s.nothing.val ∧ Below w.heap.size w w' := by
  simp only [Fr.val, Fr.cells]
  go_enter Try.func30, Try.ntmps30
  go_wp2
  refine bodyPost_ret (v := s.nothing.val) (by simp [results, Try.results30, go_sem, Ans.val, St.nothing, Fr.val, Fr.cells, Fr.zero]) rfl ⟨rfl, ?_⟩
  exact ((Below.refl _ _).alloc (Nat.le_refl _) _).alloc (by simp) _
set_option maxRecDepth 100000 in
set_option maxHeartbeats 400000 in
theorem refuse_any (p : Value) (s : St) (f : Fr) (w : World) :
    Calls Try.prog 34 #[p, f.val] w fun e w' => e = .returned (s.refuse f).val ∧ Below w.heap.size w w' := by
  simp only [Fr.val, Fr.cells]
  go_enter Try.func34, Try.ntmps34
  go_wp2
  refine bodyPost_ret (v := (s.refuse f).val) (by simp [results, Try.results34, go_sem, Ans.val, St.refuse, Fr.val, Fr.cells]) rfl ⟨rfl, ?_⟩
  exact ((Below.refl _ _).alloc (Nat.le_refl _) _).alloc (by simp) _
end Go.Proofs.Ytjjbfmaldhlenaa
