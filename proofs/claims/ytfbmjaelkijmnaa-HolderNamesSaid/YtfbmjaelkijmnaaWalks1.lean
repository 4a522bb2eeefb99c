/-
  The walks of at and Holds.
-/
import Derived.Test.YtfbmjaelkijmnaaBase
namespace Go.Proofs.Ytfbmjaelkijmnaa
open Go.RowKit
theorem ret_i {k : IntKind} {a b : Int} (h : a = b) : Ending.returned (.int k a) = .returned (.int k b) := by rw [h]
theorem ret_b {a b : Bool} (h : a = b) : Ending.returned (.bool a) = .returned (.bool b) := by rw [h]
set_option maxRecDepth 100000 in
set_option maxHeartbeats 400000 in
theorem at_any (B : Nat) (s : St) (now : Int) (w : World) (h : At B s w) :
    Calls Try.prog 31 #[.pointer (some ⟨B, 0, none⟩), .int .i64 now] w fun e w' => e = .returned (.int .i64 (s.time now)) ∧ w' = w := by
  obtain ⟨-, -, -, -, -, c5, -⟩ := h.reads
  clear h
  go_enter Try.func31, Try.ntmps31
  go_wp2
  all_goals
    go_ret
    refine ⟨ret_i ?_, rfl⟩
    unfold St.time
    repeat (first | omega | split at *)
theorem time_lo (s : St) (now : Int) : 0 ≤ s.time now := by unfold St.time; omega
theorem time_hi (s : St) (now : Int) : s.time now ≤ 1099511627776 := by unfold St.time; omega
set_option maxRecDepth 100000 in
set_option maxHeartbeats 400000 in
theorem holds_any (B : Nat) (s : St) (now : Int) (w : World) (h : At B s w) (ok : s.Ok) :
    Calls Try.prog 14 #[.pointer (some ⟨B, 0, none⟩), .int .i64 now] w fun e w' => e = .returned (.bool (s.holds now)) ∧ ∃ n, w' = w.drewN n := by
  obtain ⟨-, -, c2, -, -, -, -, -, c8, c9, -⟩ := h.reads
  have ht0 := time_lo s now
  have ht1 := time_hi s now
  have s1 := ok.s1
  have s2 := ok.s2
  have hw : IntKind.i64.wrap (s.time now - s.since) = s.time now - s.since := IntWalk.i64_in _ (by omega)
  cases z1 : s.token == 0 <;> cases z2 : s.since == 0
  all_goals
    go_enter Try.func14, Try.ntmps14
    go_wp2
    go_quiet ((go_at_call 31; exact Calls.quiet_of_same (at_any _ _ _ _ (h.drewN _))))
    go_wp2
    go_ret
    refine ⟨ret_b ?_, nq, rfl⟩
    simp [St.holds, z1, z2]
end Go.Proofs.Ytfbmjaelkijmnaa
