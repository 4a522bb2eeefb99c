/-
  The walk of the law CrcBack.
-/
import Derived.Test.YtdiigplcpalepaaLaws
import Derived.Deep.QuietTactic
import Derived.BigQuiet
namespace Go.Proofs.Ytdiigplcpalepaa
open Go.RowKit
open Crc

theorem _root_.Go.RowKit.Below.drewN {B : Nat} {a w : World} (h : Below B a w) (n : Nat) : Below B a (w.drewN n) := ⟨h.os, h.tape, h.output, h.size, h.block⟩

set_option maxRecDepth 100000 in
set_option maxHeartbeats 400000 in
theorem back_walk (s : ByteArray) (a : Int) (x : BitVec 32) (w : World) (hs : s.size ≤ 140737488351232)
    (ha0 : -9223372036854775808 ≤ a) (ha1 : a ≤ 9223372036854775807) :
    Calls Try.prog 5 #[.string s, .int .i64 a, .int .u32 (u x)] w fun e w' => e = .returned (.bool true) ∧ Below w.heap.size w w' := by
  by_cases hlen : s.size ≤ 10000
  · obtain ⟨t, ht⟩ : ∃ t : ByteArray, t.data.toList = bend s.data.toList a x := ⟨⟨(bend s.data.toList a x).toArray⟩, by simp⟩
    have hts : t.size = s.size := by
      have := congrArg List.length ht
      rw [bend_length] at this; simpa using this
    have hout : ∀ (k : Nat) (h1 : k < s.size) (h2 : k < t.size), (a > k ∨ (k : Int) - 4 ≥ a) → ((s[k].toNat : Int) != (t[k].toNat : Int)) = false := by
      intro k h1 h2 h
      have e : t.data.toList[k]? = s.data.toList[k]? := by
        rw [ht, bend_getD _ _ _ _ (by simpa using h1), bendAt_out _ _ _ _ (by omega)]; simp
      have e2 : t[k] = s[k] := by
        have a1 : t.data.toList[k]? = some t[k] := by rw [Array.getElem?_toList]; exact Array.getElem?_eq_getElem h2
        have a2 : s.data.toList[k]? = some s[k] := by rw [Array.getElem?_toList]; exact Array.getElem?_eq_getElem h1
        rw [a1, a2] at e; exact Option.some.inj e
      rw [e2]; simp
    have hback : s.data.toList = bend t.data.toList a x := by rw [ht, bend_twice]
    have hl : s.data.toList.length ≤ 100000 := by simp; omega
    have htl : t.data.toList.length ≤ 100000 := by rw [ht, bend_length]; exact hl
    have H1 := Lib.hid ht
    have H2 := Lib.hid hback
    have H3 := Lib.hid hout
    have H4 := Lib.hid hts
    have htb : t.size ≤ s.size := by omega
    have htb2 : s.size ≤ t.size := by omega
    have hsz : ((t.size : Int) != (s.size : Int)) = false := by rw [hts]; simp
    clear ht hback hout hts
    go_enter Try.func5, Try.ntmps5
    go_wp2_with fail
    refine (works_any _).mono ?_
    rintro e w0 ⟨rfl, hb0⟩
    go_wp2_with fail
    refine (bend_to s t _ a x _ rfl hl ha0 ha1 H1.out).mono ?_
    rintro e w1 ⟨rfl, hb1⟩
    have hb1 := then_below hb0 hb1
    clear hb0
    go_wp2_with fail
    refine (bend_to t s _ a x _ rfl htl ha0 ha1 H2.out).mono ?_
    rintro e w2 ⟨rfl, hb2⟩
    have hb2 := then_below hb1 hb2
    clear hb1
    go_wp2_with fail
    clear hsz
    go_loopw [8] (fun i wr => ∃ k : Nat, k ≤ s.size ∧ i = .int .i64 k ∧ Below w.heap.size w wr) (fun i _ => s.size - (intOf i).toNat)
    case atStart => exact ⟨0, by omega, rfl, hb2⟩
    case round =>
      obtain ⟨k, hk, rfl, hbr⟩ := hrel
      by_cases hlt : k < s.size
      · have hlt2 : k < t.size := by omega
        have hne := H3.out k hlt hlt2
        by_cases c1 : (k : Int) < a
        · have hne := hne (.inl c1)
          go_wp2
          go_quiet (fail)
          go_wp2
          go_roundw
          case rel => exact ⟨k + 1, by omega, by go_num, hbr.drewN nq⟩
          case measure => simp [intOf]; omega
        · by_cases c2 : a ≤ (k : Int) - 4
          · have hne := hne (.inr c2)
            have d2 : decide ((k : Int) < a) = false := by simpa using c1
            have hw : IntKind.i64.wrap ((k : Int) - 4) = (k : Int) - 4 := IntWalk.i64_in _ (by omega)
            go_wp2
            go_quiet (fail)
            clear hw
            go_wp2
            go_roundw
            case rel => exact ⟨k + 1, by omega, by go_num, hbr.drewN nq⟩
            case measure => simp [intOf]; omega
          · clear hne
            have d1 : decide (a ≤ (k : Int) - 4) = false := by simpa using c2
            have d2 : decide ((k : Int) < a) = false := by simpa using c1
            have hw : IntKind.i64.wrap ((k : Int) - 4) = (k : Int) - 4 := IntWalk.i64_in _ (by omega)
            go_wp2
            go_quiet (fail)
            clear hw
            go_wp2
            go_roundw
            case rel => exact ⟨k + 1, by omega, by go_num, hbr.drewN nq⟩
            case measure => simp [intOf]; omega
      · go_wp2
        go_ret
        exact ⟨rfl, hbr⟩
  · go_enter Try.func5, Try.ntmps5
    go_wp2_with fail
    refine (works_any _).mono ?_
    rintro e w0 ⟨rfl, hb0⟩
    go_wp2_with fail
    refine (works_any _).mono ?_
    rintro e w1 ⟨rfl, hb1⟩
    have hb1 := then_below hb0 hb1
    clear hb0
    go_wp2_with fail
    go_ret
    exact ⟨rfl, hb1⟩
end Go.Proofs.Ytdiigplcpalepaa
