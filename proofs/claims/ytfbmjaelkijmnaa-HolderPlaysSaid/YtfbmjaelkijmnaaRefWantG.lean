/-
  The document's Want, part G.
-/
import Derived.Test.YtfbmjaelkijmnaaRefT
namespace Go.Proofs.Ytfbmjaelkijmnaa
open Go.RowKit
set_option linter.unusedVariables false
set_option maxRecDepth 100000 in
set_option maxHeartbeats 16000000 in
theorem rwant_g (C : Nat) (s : St) (z : Int) (now : Int) (w : World) (h : Doc C s z w) (ok : s.Ok) (k : Tie s z) (hr : s.refused = false) (hw : s.waits = true) (he : decide (s.time now - s.asked < s.retry) = false) (hh : s.holds (s.time now) = true) :
    Calls Try.prog 25 #[.pointer (some ⟨C, 0, none⟩), .int .i64 now] w fun e w' => e = .returned (.tuple #[(s.want now).2.1.val, .bool (s.want now).2.2]) ∧ DocAt C (s.want now).1 w w' := by
  have hlt := h.lt
  have hlt1 : C < w.heap.size + 1 := by omega
  have hlt2 : C < w.heap.size + 1 + 1 := by omega
  have t0 := time_lo s now
  have t1 := time_hi s now
  have s1 := ok.s1
  have s2 := ok.s2
  have a1 := ok.a1
  have a2 := ok.a2
  have hr1 := ok.h1
  have hr2 := ok.h2
  have n1 := ok.n1
  have n2 := ok.n2
  obtain ⟨c0, c1, c2, c3, c4, c5, c6, c7, c8, c9, c10⟩ := h.reads
  have f4 := h.free 4
  have f5 := h.free 5
  have f6 := h.free 6
  have f7 := h.free 7
  have f8 := h.free 8
  have HWR := Lib.hid (show IntKind.i64.wrap (s.time now - s.asked) = s.time now - s.asked from IntWalk.i64_in _ (by omega))
  have HWN := Lib.hid (show IntKind.i64.wrap (s.n + 1) = s.n + 1 from IntWalk.i64_in _ (by omega))
  have HQ := Lib.hid (show IntKind.i64.wrap (s.hold.tdiv 3) = s.hold / 3 from IntWalk.i64_quo _ _ (by omega))
  have HTN := Lib.hid (show Tie (s.none.ask 9 (s.time now)) z from ⟨Int.le_refl 0, fun _ => rfl, fun e => absurd rfl e⟩)
  have HTR := Lib.hid (show Tie (s.ask 10 (s.time now)) z from ⟨k.t0, k.ts, k.tz⟩)
  have HDR := fun o p n => Lib.hid (show Doc C (s.ask 10 (s.time now)) z ((((((((w.setCell ⟨C, 4, none⟩ (.int .i64 (s.n + 1))).setCell ⟨C, 5, none⟩ (.int .i64 (s.time now))).setCell ⟨C, 6, none⟩ (.bool false)).setCell ⟨C, 7, none⟩ (.bool true)).alloc o).alloc p).drewN n)) from
    (((((((h.set 4 _ { s with n := s.n + 1 } z rfl).set 5 _ { s with n := s.n + 1, asked := s.time now } z rfl).set 6 _ { s with n := s.n + 1, asked := s.time now, kind := 10 } z rfl).set 7 _ (s.ask 10 (s.time now)) z rfl).alloc _).alloc _).drewN _))
  have HKR := fun o p n => Lib.hid (show Keep C w ((((((((w.setCell ⟨C, 4, none⟩ (.int .i64 (s.n + 1))).setCell ⟨C, 5, none⟩ (.int .i64 (s.time now))).setCell ⟨C, 6, none⟩ (.bool false)).setCell ⟨C, 7, none⟩ (.bool true)).alloc o).alloc p).drewN n)) from
    ((((((((Keep.refl C w).setCell (.inl rfl) _).setCell (.inl rfl) _).setCell (.inl rfl) _).setCell (.inl rfl) _).alloc _).alloc _).drewN _))
  have HW := Lib.hid (show s.want now = (s.ask 10 (s.time now), s.asks 10, true) by simp only [St.want, hr, hw, he, hh]; simp)
  by_cases q3 : s.hold / 3 < 1
  all_goals
    go_enter Try.func25, Try.ntmps25
    go_wp2_with fail
    refine (rat_any C s _ now _ (h.alloc _)).mono ?_
    rintro e w1 ⟨rfl, rfl⟩
    go_wp2_with fail
    have hwr := HWR.out
    go_quiet (fail)
    clear hwr
    have hq := HQ.out
    go_wp2_with fail
    have hwn := HWN.out
    go_region
    clear hq hwn
    go_wp2_with fail
    refine (rholds_any C s _ (s.time now) _ (((h.alloc _).alloc _).drewN _) ok k).mono ?_
    rintro e w1 ⟨rfl, m, rfl⟩
    rw [hh]
    have HH := Lib.hid hh
    clear hh
    go_wp2_with fail
    refine bodyPost_ret (v := .tuple #[(s.asks 10).val, .bool true]) (by simp [results, Try.results25, go_sem, Fr.val, Fr.cells, St.asks]) rfl ?_
    rw [HW.out]
    refine ⟨rfl, ?_⟩
    exact ⟨_, HTR.out, (HDR _ _ _).out, (HKR _ _ _).out⟩
end Go.Proofs.Ytfbmjaelkijmnaa
