/-
  The examples, the ends, and beyond them: the call of the law CrcNames returns true.
-/
import Derived.Test.YtdiigplcpalepaaWorks
namespace Go.Proofs.Ytdiigplcpalepaa
open Go.RowKit
open Crc

set_option maxRecDepth 100000 in
set_option maxHeartbeats 1000000 in
theorem names_walk (w : World) : Calls Try.prog 7 #[] w fun e w' => e = .returned (.bool true) ∧ Below w.heap.size w w' := by
  go_enter Try.func7, Try.ntmps7
  go_wp2_with fail
  refine (works_any _).mono ?_
  rintro e w0 ⟨rfl, hb0⟩
  go_wp2_with fail
  refine (add_of ⟨#[49, 50, 51, 52, 53, 54, 55, 56, 57]⟩ 0 0xCBF43926#32 0 3421780262 _ (by decide) (by decide) (by decide +kernel) (by decide)).mono ?_
  rintro e w1 ⟨rfl, hb1⟩
  have hb1 := then_below hb0 hb1
  clear hb0
  go_wp2_with fail
  refine (sum_of ⟨#[49, 50, 51, 52]⟩ 0x9BE3E0A3#32 2615402659 _ (by decide) (by decide +kernel) (by decide)).mono ?_
  rintro e w2 ⟨rfl, hb2⟩
  go_wp2_with fail
  refine (add_of ⟨#[53, 54, 55, 56, 57]⟩ 0x9BE3E0A3#32 0xCBF43926#32 2615402659 3421780262 _ (by decide) (by decide) (by decide +kernel) (by decide)).mono ?_
  rintro e w3 ⟨rfl, hb3⟩
  have hb3 := then_below (then_below hb1 hb2) hb3
  go_wp2_with fail
  refine (bend_of ⟨#[97, 98, 99, 100]⟩ ⟨#[96, 99, 98, 101]⟩ (0) 16843009 0x1010101#32 _ (by decide) (by decide) (by decide) (by decide) (by decide +kernel)).mono ?_
  rintro e w4 ⟨rfl, hb4⟩
  have hb4 := then_below hb3 hb4
  go_wp2_with fail
  refine (bend_of ⟨#[97, 98, 99, 100]⟩ ⟨#[97, 97, 99, 100]⟩ (1) 3 0x3#32 _ (by decide) (by decide) (by decide) (by decide) (by decide +kernel)).mono ?_
  rintro e w5 ⟨rfl, hb5⟩
  have hb5 := then_below hb4 hb5
  go_wp2_with fail
  refine (bend_of ⟨#[97, 98, 99, 100]⟩ ⟨#[97, 98, 99, 101]⟩ (3) 4294967041 0xFFFFFF01#32 _ (by decide) (by decide) (by decide) (by decide) (by decide +kernel)).mono ?_
  rintro e w6 ⟨rfl, hb6⟩
  have hb6 := then_below hb5 hb6
  go_wp2_with fail
  refine (bend_of ⟨#[97, 98, 99, 100]⟩ ⟨#[98, 98, 99, 100]⟩ (-1) 1023 0x3FF#32 _ (by decide) (by decide) (by decide) (by decide) (by decide +kernel)).mono ?_
  rintro e w7 ⟨rfl, hb7⟩
  have hb7 := then_below hb6 hb7
  go_wp2_with fail
  refine (bend_of ⟨#[97, 98, 99, 100]⟩ ⟨#[97, 98, 99, 100]⟩ (-4) 4294967295 0xFFFFFFFF#32 _ (by decide) (by decide) (by decide) (by decide) (by decide +kernel)).mono ?_
  rintro e w8 ⟨rfl, hb8⟩
  have hb8 := then_below hb7 hb8
  go_wp2_with fail
  refine (bend_of ⟨#[97, 98, 99, 100]⟩ ⟨#[97, 98, 99, 100]⟩ (9223372036854775807) 1 0x1#32 _ (by decide) (by decide) (by decide) (by decide) (by decide +kernel)).mono ?_
  rintro e w9 ⟨rfl, hb9⟩
  have hb9 := then_below hb8 hb9
  go_wp2_with fail
  refine (bend_of ⟨#[97, 98, 99, 100]⟩ ⟨#[97, 98, 99, 100]⟩ (-9223372036854775808) 1 0x1#32 _ (by decide) (by decide) (by decide) (by decide) (by decide +kernel)).mono ?_
  rintro e w10 ⟨rfl, hb10⟩
  have hb10 := then_below hb9 hb10
  go_wp2_with fail
  refine (bend_of ⟨#[]⟩ ⟨#[]⟩ (0) 1 0x1#32 _ (by decide) (by decide) (by decide) (by decide) (by decide +kernel)).mono ?_
  rintro e w11 ⟨rfl, hb11⟩
  have hb11 := then_below hb10 hb11
  go_wp2_with fail
  go_ret
  exact ⟨rfl, hb11⟩
end Go.Proofs.Ytdiigplcpalepaa
