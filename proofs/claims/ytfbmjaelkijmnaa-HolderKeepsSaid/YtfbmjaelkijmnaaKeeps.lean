/-
  The walk of the law HolderKeeps.
-/
import Derived.Test.YtfbmjaelkijmnaaKeepsPlain
namespace Go.Proofs.Ytfbmjaelkijmnaa
open Go.RowKit
theorem place_of (a n : Int) (h1 : 1 ≤ n) (h2 : n ≤ 100000) : ∃ k : Nat, (k : Int) < n ∧ wrap64 ((IntKind.u64.wrap a).tmod n) = k := by
  have hw : 0 ≤ IntKind.u64.wrap a := by
    simp [IntKind.wrap, IntKind.bits, IntKind.signed]; omega
  rw [Int.tmod_eq_emod_of_nonneg hw]
  have e0 := Int.emod_nonneg (IntKind.u64.wrap a) (b := n) (by omega)
  have e1 := Int.emod_lt_of_pos (IntKind.u64.wrap a) (b := n) (by omega)
  refine ⟨((IntKind.u64.wrap a) % n).toNat, by omega, ?_⟩
  rw [IntWalk.wrap64_in _ (by omega)]
  omega
theorem Has.alloc {C : Nat} {s : St} {W w : World} (h : Has C s W w) (o : Obj) : Has C s W (w.alloc o) := h.under ((Below.refl _ _).alloc (Nat.le_refl _) _)
theorem token_of {C : Nat} {s : St} {W w : World} (h : Has C s W w) : Calls Try.prog 15 #[.pointer (some ⟨C, 0, none⟩)] w fun e w' => e = .returned (.int .i64 s.token) ∧ w' = w := token_any C s w h.here
set_option maxRecDepth 100000 in
set_option maxHeartbeats 1000000 in
theorem keeps_walk (a i h r ticks tok : Int) (W : World) :
    Calls Try.prog 3 #[.agg #[.int .i64 a, .int .i64 i], .int .i64 h, .int .i64 r, .int .i64 ticks, .int .i64 tok] W fun e w' => e = .returned (.bool true) ∧ Below W.heap.size W w' := by
  by_cases hc : h < 2 ∨ tok < 1
  · have hdec : (h < 2) ∨ (¬ h < 2 ∧ tok < 1) := by omega
    clear hc
    rcases hdec with hc1 | ⟨hc1, hc2⟩
    all_goals
      go_enter Try.func3, Try.ntmps3
      go_wp2_with fail
      refine (works_any _).mono ?_
      rintro e w0 ⟨rfl, hbw⟩
      have hb0 := then_below ((Below.refl _ _).alloc (Nat.le_refl _) _) hbw
      go_wp2_with fail
      refine (works_any _).mono ?_
      rintro e w1 ⟨rfl, hb1⟩
      have hb1 := then_below hb0 hb1
      go_wp2_with fail
      go_ret
      exact ⟨rfl, hb1⟩
  · by_cases hm : may a i h r
    · obtain ⟨m, hm1, hm2⟩ := place_of ticks 500 (by omega) (by omega)
      have HM := Lib.hid hm
      have HT := Lib.hid hm2
      have hh2 : 2 ≤ h := by omega
      have ht1 : 1 ≤ tok := by omega
      clear hc hm hm2
      go_enter Try.func3, Try.ntmps3
      go_wp2_with fail
      refine (works_any _).mono ?_
      rintro e w0 ⟨rfl, hbw⟩
      have hcw := fun (b o : Nat) (h : b < _) => hbw.cell (p := ⟨b, o, none⟩) h
      have hb0 := then_below ((Below.refl _ _).alloc (Nat.le_refl _) _) hbw
      go_wp2_with fail
      clear hcw
      refine (new_of a i h r hb0 HM.out).mono ?_
      rintro e w1 ⟨C, rfl, h1, -⟩
      clear hb0
      go_wp2_with fail
      have hh4 : h ≤ 4096 := HM.out.2.2.1
      have hr1 : 1 ≤ r := HM.out.2.2.2.1
      have hr2 : r ≤ 4096 := HM.out.2.2.2.2
      go_loopw [13] (fun x wr => ∃ (k : Nat) (s : St), (k : Int) ≤ m ∧ x = .int .i64 k ∧ Has C s W wr ∧ Keeps a i h r tok k s) (fun x _ => m - (intOf x).toNat)
      case atStart => exact ⟨0, _, by omega, rfl, h1, Keeps.start a i h r tok⟩
      case round =>
        obtain ⟨k, s, hk, rfl, hs, J⟩ := hrel
        have hTm := HT.out
        by_cases hlt : k < m
        · have htick := J.tick (by omega) hh2 hh4 hr1 hr2 ht1
          have hok := J.ok (by omega) hh2 hh4 hr1 hr2
          rcases htick with ⟨rfl, s1, s2, hw, hok1, htk, J2⟩ | ⟨h0, hw, J2⟩ | ⟨h0, s1, s2, n, hw, hok1, htk, J2⟩
          · have HW := Lib.hid hw
            have HTK := Lib.hid htk
            clear hw htk
            obtain ⟨hh1, hh2', htk2, hrf⟩ := J2.behind (by omega) hh2 ht1
            have hok2 := J2.ok (by omega) hh2 hh4 hr1 hr2
            have HH1 := Lib.hid hh1
            have HH2 := Lib.hid hh2'
            have HTK2 := Lib.hid htk2
            have HRF := Lib.hid hrf
            clear hh1 hh2' htk2 hrf
            go_wp2_with fail
            refine (want_of s1 _ true 0 hs hok HW.out).mono ?_
            rintro e w2 ⟨rfl, h2⟩
            simp only [Fr.val, Fr.cells]
            go_wp2_with fail
            refine (take_of s2 ⟨12, 0, 0, 0, 0, 1, tok⟩ true 0 (h2.alloc _) HTK.out).mono ?_
            rintro e w3 ⟨rfl, h3⟩
            go_wp2_with fail
            refine (holds_of true 0 h3 hok2 HH1.out).mono ?_
            rintro e w4 ⟨rfl, h4⟩
            go_wp2_with fail
            refine (holds_of true 1 h4 hok2 HH2.out).mono ?_
            rintro e w5 ⟨rfl, h5⟩
            go_wp2_with fail
            refine (token_of h5).mono ?_
            rintro e w6 ⟨rfl, rfl⟩
            rw [HTK2.out]
            go_wp2_with fail
            refine (refused_any _ _ _ h5.here).mono ?_
            rintro e w7 ⟨rfl, rfl⟩
            rw [HRF.out]
            go_wp2_with fail
            go_roundw
            case rel => exact ⟨0 + 1, _, by omega, by first | rfl | go_num, h5, J2⟩
            case measure => simp [intOf]; omega
          · have HW := Lib.hid hw
            clear hw
            have hk0 : (1 : Int) ≤ k := by omega
            have hkz : ((k : Int) == 0) = false := by simp; omega
            obtain ⟨hh1, hh2', htk2, hrf⟩ := J2.behind (by omega) hh2 ht1
            have hok2 := J2.ok (by omega) hh2 hh4 hr1 hr2
            have HH1 := Lib.hid hh1
            have HH2 := Lib.hid hh2'
            have HTK2 := Lib.hid htk2
            have HRF := Lib.hid hrf
            clear hh1 hh2' htk2 hrf
            go_wp2_with fail
            refine (want_of s _ false k hs hok HW.out).mono ?_
            rintro e w2 ⟨rfl, h2⟩
            simp only [Fr.val, Fr.cells, Fr.zero]
            go_wp2_with fail
            refine (holds_of true k (h2.alloc _) hok2 HH1.out).mono ?_
            rintro e w4 ⟨rfl, h4⟩
            go_wp2_with fail
            refine (holds_of true ((k : Int) + 1) h4 hok2 HH2.out).mono ?_
            rintro e w5 ⟨rfl, h5⟩
            go_wp2_with fail
            refine (token_of h5).mono ?_
            rintro e w6 ⟨rfl, rfl⟩
            rw [HTK2.out]
            go_wp2_with fail
            refine (refused_any _ _ _ h5.here).mono ?_
            rintro e w7 ⟨rfl, rfl⟩
            rw [HRF.out]
            go_wp2_with fail
            go_roundw
            case rel => exact ⟨k + 1, _, by omega, by first | rfl | go_num, h5, J2⟩
            case measure => simp [intOf]; omega
          · have HW := Lib.hid hw
            have HTK := Lib.hid htk
            clear hw htk
            have hk0 : (1 : Int) ≤ k := by omega
            have hkz : ((k : Int) == 0) = false := by simp; omega
            obtain ⟨hh1, hh2', htk2, hrf⟩ := J2.behind (by omega) hh2 ht1
            have hok2 := J2.ok (by omega) hh2 hh4 hr1 hr2
            have HH1 := Lib.hid hh1
            have HH2 := Lib.hid hh2'
            have HTK2 := Lib.hid htk2
            have HRF := Lib.hid hrf
            clear hh1 hh2' htk2 hrf
            go_wp2_with fail
            refine (want_of s1 _ true k hs hok HW.out).mono ?_
            rintro e w2 ⟨rfl, h2⟩
            simp only [Fr.val, Fr.cells]
            go_wp2_with fail
            refine (take_of s2 ⟨12, 0, 0, 0, 0, n, tok⟩ true k (h2.alloc _) HTK.out).mono ?_
            rintro e w3 ⟨rfl, h3⟩
            go_wp2_with fail
            refine (holds_of true k h3 hok2 HH1.out).mono ?_
            rintro e w4 ⟨rfl, h4⟩
            go_wp2_with fail
            refine (holds_of true ((k : Int) + 1) h4 hok2 HH2.out).mono ?_
            rintro e w5 ⟨rfl, h5⟩
            go_wp2_with fail
            refine (token_of h5).mono ?_
            rintro e w6 ⟨rfl, rfl⟩
            rw [HTK2.out]
            go_wp2_with fail
            refine (refused_any _ _ _ h5.here).mono ?_
            rintro e w7 ⟨rfl, rfl⟩
            rw [HRF.out]
            go_wp2_with fail
            go_roundw
            case rel => exact ⟨k + 1, _, by omega, by first | rfl | go_num, h5, J2⟩
            case measure => simp [intOf]; omega
        · go_wp2_with fail
          go_ret
          exact ⟨rfl, hs.below⟩
    · have HM := Lib.hid hm
      have hh2 : 2 ≤ h := by omega
      have ht1 : 1 ≤ tok := by omega
      clear hc hm
      go_enter Try.func3, Try.ntmps3
      go_wp2_with fail
      refine (works_any _).mono ?_
      rintro e w0 ⟨rfl, hbw⟩
      have hcw := fun (b o : Nat) (h : b < _) => hbw.cell (p := ⟨b, o, none⟩) h
      have hb0 := then_below ((Below.refl _ _).alloc (Nat.le_refl _) _) hbw
      go_wp2_with fail
      clear hcw
      refine (new_no a i h r w0 HM.out).mono ?_
      rintro e w1 ⟨rfl, hb1⟩
      have hb1 := then_below hb0 hb1
      go_wp2_with fail
      go_ret
      exact ⟨rfl, hb1⟩
end Go.Proofs.Ytfbmjaelkijmnaa
