/-
  The walk of the examples that each law asks first.
-/
import Derived.Test.YtdiigplcpalepaaSums
import Derived.Test.YtdiigplcpalepaaBend
namespace Go.Proofs.Ytdiigplcpalepaa
open Go.RowKit
open Crc

theorem sum_of (s : ByteArray) (v : BitVec 32) (n : Int) (w : World) (hs : s.size ≤ 100000) (hv : sum s.data.toList = v) (hn : u v = n) :
    Calls Try.prog 11 #[.string s] w fun e w' => e = .returned (.int .u32 n) ∧ Below w.heap.size w w' := by
  subst hn; subst hv; exact sum_any s w hs
theorem add_of (s : ByteArray) (x v : BitVec 32) (m n : Int) (w : World) (hs : s.size ≤ 100000) (hm : u x = m) (hv : add x s.data.toList = v) (hn : u v = n) :
    Calls Try.prog 13 #[.int .u32 m, .string s] w fun e w' => e = .returned (.int .u32 n) ∧ Below w.heap.size w w' := by
  subst hn; subst hv; subst hm; exact add_any x s w hs
theorem bend_of (s t : ByteArray) (a n : Int) (x : BitVec 32) (w : World) (hs : s.size ≤ 100000) (h0 : -9223372036854775808 ≤ a) (h1 : a ≤ 9223372036854775807) (hx : u x = n)
    (ht : t.data.toList = bend s.data.toList a x) :
    Calls Try.prog 12 #[.string s, .int .i64 a, .int .u32 n] w fun e w' => e = .returned (.string t) ∧ Below w.heap.size w w' := by
  subst hx
  have : t = ⟨(bend s.data.toList a x).toArray⟩ := by
    rw [← ht]
  rw [this]
  exact bend_any s a x w hs h0 h1

theorem then_below {w a b : World} (h : Below w.heap.size w a) (k : Below a.heap.size a b) : Below w.heap.size w b := h.trans (k.mono h.size)

set_option maxRecDepth 100000 in
set_option maxHeartbeats 400000 in
theorem works_any (w : World) : Calls Try.prog 10 #[] w fun e w' => e = .returned (.bool true) ∧ Below w.heap.size w w' := by
  go_enter Try.func10, Try.ntmps10
  go_wp2_with fail
  refine (sum_of ⟨#[]⟩ 0 0 _ (by decide) (by decide +kernel) (by decide)).mono ?_
  rintro e w1 ⟨rfl, hb1⟩
  go_wp2_with fail
  refine (sum_of ⟨#[49, 50, 51, 52, 53, 54, 55, 56, 57]⟩ 0xCBF43926#32 3421780262 _ (by decide) (by decide +kernel) (by decide)).mono ?_
  rintro e w2 ⟨rfl, hb2⟩
  go_wp2_with fail
  refine (bend_of ⟨#[97, 98, 99, 100]⟩ ⟨#[97, 98, 99, 100]⟩ 1 0 0 _ (by decide) (by decide) (by decide) (by decide) (by decide +kernel)).mono ?_
  rintro e w3 ⟨rfl, hb3⟩
  go_wp2_with fail
  refine (bend_of ⟨#[97, 98, 99, 100]⟩ ⟨#[97, 98, 99, 100]⟩ 4 9 9 _ (by decide) (by decide) (by decide) (by decide) (by decide +kernel)).mono ?_
  rintro e w4 ⟨rfl, hb4⟩
  go_wp2_with fail
  go_ret
  exact ⟨rfl, then_below (then_below (then_below hb1 hb2) hb3) hb4⟩
end Go.Proofs.Ytdiigplcpalepaa
