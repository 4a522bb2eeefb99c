/-
  The walk of the law CrcSums.
-/
import Derived.Test.YtdiigplcpalepaaRefBend2
import Derived.Test.YtdiigplcpalepaaWorks
namespace Go.Proofs.Ytdiigplcpalepaa
open Go.RowKit
open Crc

set_option maxRecDepth 100000 in
set_option maxHeartbeats 400000 in
theorem sums_walk (s : ByteArray) (m x : BitVec 32) (a : Int) (w : World) (hs : s.size ≤ 140737488351232) (ha0 : -9223372036854775808 ≤ a) (ha1 : a ≤ 9223372036854775807) :
    Calls Try.prog 8 #[.string s, .int .u32 (u m), .int .i64 a, .int .u32 (u x)] w fun e w' => e = .returned (.bool true) ∧ Below w.heap.size w w' := by
  by_cases hlen : s.size ≤ 3000
  · have hl : s.size ≤ 100000 := by omega
    go_enter Try.func8, Try.ntmps8
    go_wp2_with fail
    refine (sum_any s _ hl).mono ?_
    rintro e w1 ⟨rfl, hb1⟩
    go_wp2_with fail
    refine (ref_sum s _ hl).mono ?_
    rintro e w2 ⟨rfl, rfl⟩
    go_wp2_with fail
    refine (add_any m s _ hl).mono ?_
    rintro e w3 ⟨rfl, hb3⟩
    have hb3 := then_below hb1 hb3
    clear hb1
    go_wp2_with fail
    refine (ref_add s m _ hl).mono ?_
    rintro e w4 ⟨rfl, rfl⟩
    go_wp2_with fail
    refine (bend_any s a x _ hl ha0 ha1).mono ?_
    rintro e w5 ⟨rfl, hb5⟩
    have hb5 := then_below hb3 hb5
    clear hb3
    go_wp2_with fail
    refine (refbend_any s a x _ hl ha0 ha1).mono ?_
    rintro e w6 ⟨rfl, hb6⟩
    have hb6 := then_below hb5 hb6
    clear hb5
    go_wp2_with fail
    go_ret
    exact ⟨by simp, hb6⟩
  · go_enter Try.func8, Try.ntmps8
    go_wp2_with fail
    go_ret
    exact ⟨rfl, Below.refl _ _⟩
end Go.Proofs.Ytdiigplcpalepaa
