/-
  The walks of the closures of Want, and of all.
-/
import Derived.Test.YtfbmjaelkijmnaaWalks1
namespace Go.Proofs.Ytfbmjaelkijmnaa
open Go.RowKit
set_option maxRecDepth 100000 in
set_option maxHeartbeats 400000 in
theorem want1_any (B Bh : Nat) (s : St) (w : World) (h : At B s w) (hh : w.cell? ⟨Bh, 0, none⟩ = some (.pointer (some ⟨B, 0, none⟩))) :
    Calls Try.prog 33 #[.pointer (some ⟨Bh, 0, none⟩)] w fun e w' => e = .returned (.bool s.waits) ∧ w' = w := by
  obtain ⟨-, -, -, -, -, -, c6, -⟩ := h.reads
  clear h
  go_enter Try.func33, Try.ntmps33
  go_wp2
  go_ret
  exact ⟨rfl, rfl⟩
set_option maxRecDepth 100000 in
set_option maxHeartbeats 400000 in
theorem want2_any (B Bh Bn : Nat) (s : St) (t : Int) (w : World) (h : At B s w) (ok : s.Ok) (hh : w.cell? ⟨Bh, 0, none⟩ = some (.pointer (some ⟨B, 0, none⟩))) (hn : w.cell? ⟨Bn, 0, none⟩ = some (.int .i64 t))
    (t0 : 0 ≤ t) (t1 : t ≤ 1099511627776) :
    Calls Try.prog 34 #[.pointer (some ⟨Bn, 0, none⟩), .pointer (some ⟨Bh, 0, none⟩)] w fun e w' => e = .returned (.bool (decide (t - s.asked < s.retry))) ∧ ∃ n, w' = w.drewN n := by
  obtain ⟨-, -, -, c3, -, c5, -, -⟩ := h.reads
  have a1 := ok.a1
  have a2 := ok.a2
  have hw : IntKind.i64.wrap (t - s.asked) = t - s.asked := IntWalk.i64_in _ (by omega)
  clear h
  go_enter Try.func34, Try.ntmps34
  go_wp2
  go_quiet (fail)
  go_wp2
  go_ret
  exact ⟨rfl, nq, rfl⟩
def fn1 (Bh : Nat) : Value := .func (.func 33) #[] #[.pointer (some ⟨Bh, 0, none⟩)]
def fn2 (Bh Bn : Nat) : Value := .func (.func 34) #[] #[.pointer (some ⟨Bn, 0, none⟩), .pointer (some ⟨Bh, 0, none⟩)]
set_option maxRecDepth 100000 in
set_option maxHeartbeats 400000 in
theorem all_any (B Bh Bn Bl : Nat) (s : St) (t : Int) (w : World) (h : At B s w) (ok : s.Ok) (hh : w.cell? ⟨Bh, 0, none⟩ = some (.pointer (some ⟨B, 0, none⟩))) (hn : w.cell? ⟨Bn, 0, none⟩ = some (.int .i64 t))
    (t0 : 0 ≤ t) (t1 : t ≤ 1099511627776) (f1 : w.cell? ⟨Bl, 0, none⟩ = some (.func (.func 33) #[] #[.pointer (some ⟨Bh, 0, none⟩)])) (f2 : w.cell? ⟨Bl, 1, none⟩ = some (.func (.func 34) #[] #[.pointer (some ⟨Bn, 0, none⟩), .pointer (some ⟨Bh, 0, none⟩)])) :
    Calls Try.prog 32 #[.slice (some ⟨Bl, 0, none⟩) 2 2] w fun e w' => e = .returned (.bool (s.waits && decide (t - s.asked < s.retry))) ∧ ∃ n, w' = w.drewN n := by
  have hh0 := hh
  have hn0 := hn
  have HH := Lib.hid hh
  have HN := Lib.hid hn
  clear hh hn hh0 hn0
  go_enter Try.func32, Try.ntmps32
  go_wp2
  go_loopw [2, 7] (fun y i wr => (i = .int .i64 0 ∧ wr = w) ∨ (i = .int .i64 1 ∧ s.waits = true ∧ wr = w) ∨ (i = .int .i64 2 ∧ s.waits = true ∧ decide (t - s.asked < s.retry) = true ∧ ∃ n, wr = w.drewN n)) (fun _ i _ => 2 - (intOf i).toNat)
  case atStart => exact .inl ⟨rfl, rfl⟩
  case round =>
    rcases hrel with ⟨rfl, rfl⟩ | ⟨rfl, hs, rfl⟩ | ⟨rfl, hs, ht, n, rfl⟩
    · cases hs : s.waits
      all_goals
        go_wp2_with fail
        refine (want1_any B Bh s _ h HH.out).mono ?_
        rintro e w' ⟨rfl, rfl⟩
        go_wp2_with fail
      · go_ret
        exact ⟨ret_b (by simp [hs]), 0, rfl⟩
      · go_roundw
        case rel => exact .inr (.inl ⟨by first | trivial | rfl, by first | trivial | rfl | assumption, by first | trivial | rfl⟩)
        case measure => simp [intOf]
    · cases ht : decide (t - s.asked < s.retry)
      all_goals
        go_wp2_with fail
        refine (want2_any B Bh Bn s t _ h ok HH.out HN.out t0 t1).mono ?_
        rintro e w' ⟨rfl, n, rfl⟩
        go_wp2_with fail
      · go_ret
        exact ⟨ret_b (by simp [hs, ht]), n, rfl⟩
      · go_roundw
        case rel => exact .inr (.inr ⟨by first | trivial | rfl, hs, by first | trivial | rfl | assumption, n, rfl⟩)
        case measure => simp [intOf]
    · go_wp2_with fail
      go_ret
      exact ⟨ret_b (by simp [hs, ht]), n, rfl⟩
end Go.Proofs.Ytfbmjaelkijmnaa
