/-
  The document's Want, part B.
-/
import Derived.Test.YtfbmjaelkijmnaaRefT
namespace Go.Proofs.Ytfbmjaelkijmnaa
open Go.RowKit
set_option linter.unusedVariables false
set_option maxRecDepth 100000 in
set_option maxHeartbeats 16000000 in
theorem rwant_b (C : Nat) (s : St) (z : Int) (now : Int) (w : World) (h : Doc C s z w) (ok : s.Ok) (k : Tie s z) (hr : s.refused = false) (hw : s.waits = true) (he : decide (s.time now - s.asked < s.retry) = true) :
    Calls Try.prog 25 #[.pointer (some ⟨C, 0, none⟩), .int .i64 now] w fun e w' => e = .returned (.tuple #[(s.want now).2.1.val, .bool (s.want now).2.2]) ∧ DocAt C (s.want now).1 w w' := by
  have hlt := h.lt
  have hlt1 : C < w.heap.size + 1 := by omega
  have hlt2 : C < w.heap.size + 1 + 1 := by omega
  have t0 := time_lo s now
  have t1 := time_hi s now
  have s1 := ok.s1
  have s2 := ok.s2
  have a1 := ok.a1
  have a2 := ok.a2
  have hr1 := ok.h1
  have hr2 := ok.h2
  have n1 := ok.n1
  have n2 := ok.n2
  obtain ⟨c0, c1, c2, c3, c4, c5, c6, c7, c8, c9, c10⟩ := h.reads
  have f4 := h.free 4
  have f5 := h.free 5
  have f6 := h.free 6
  have f7 := h.free 7
  have f8 := h.free 8
  have HWR := Lib.hid (show IntKind.i64.wrap (s.time now - s.asked) = s.time now - s.asked from IntWalk.i64_in _ (by omega))
  have HWN := Lib.hid (show IntKind.i64.wrap (s.n + 1) = s.n + 1 from IntWalk.i64_in _ (by omega))
  have HQ := Lib.hid (show IntKind.i64.wrap (s.hold.tdiv 3) = s.hold / 3 from IntWalk.i64_quo _ _ (by omega))
  have HTN := Lib.hid (show Tie (s.none.ask 9 (s.time now)) z from ⟨Int.le_refl 0, fun _ => rfl, fun e => absurd rfl e⟩)
  have HTR := Lib.hid (show Tie (s.ask 10 (s.time now)) z from ⟨k.t0, k.ts, k.tz⟩)
  have HW := Lib.hid (show s.want now = (s, .zero, false) by simp only [St.want, hr, hw, he]; rfl)
  go_enter Try.func25, Try.ntmps25
  go_wp2_with fail
  refine (rat_any C s _ now _ (h.alloc _)).mono ?_
  rintro e w1 ⟨rfl, rfl⟩
  go_wp2_with fail
  have hwr := HWR.out
  go_quiet (fail)
  clear hwr
  go_wp2_with fail
  refine bodyPost_ret (v := .tuple #[Fr.zero.val, .bool false]) (by simp [results, Try.results25, go_sem, Fr.val, Fr.cells, Fr.zero]) rfl ?_
  rw [HW.out]
  refine ⟨rfl, ?_⟩
  exact ⟨_, k, (h.alloc _).drewN _, ((Keep.refl C w).alloc _).drewN _⟩
end Go.Proofs.Ytfbmjaelkijmnaa
