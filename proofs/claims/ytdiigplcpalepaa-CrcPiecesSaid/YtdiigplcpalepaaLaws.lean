/-
  The walks of the laws CrcPieces, CrcApart, CrcBack.
-/
import Derived.Test.YtdiigplcpalepaaWorks
namespace Go.Proofs.Ytdiigplcpalepaa
open Go.RowKit
open Crc

theorem wrap64_range (n : Int) : -9223372036854775808 ≤ wrap64 n ∧ wrap64 n ≤ 9223372036854775807 := by unfold wrap64; omega
/-- Bent: whatever string reads as what comes of it. -/
theorem bend_to (s t : ByteArray) (l : List UInt8) (a : Int) (x : BitVec 32) (w : World) (hl : s.data.toList = l) (hs : l.length ≤ 100000) (h0 : -9223372036854775808 ≤ a) (h1 : a ≤ 9223372036854775807)
    (ht : t.data.toList = bend l a x) :
    Calls Try.prog 12 #[.string s, .int .i64 a, .int .u32 (u x)] w fun e w' => e = .returned (.string t) ∧ Below w.heap.size w w' := by
  subst hl
  exact bend_of s t a _ x w (by simpa using hs) h0 h1 rfl ht

set_option maxRecDepth 100000 in
set_option maxHeartbeats 400000 in
theorem pieces_walk (a b : ByteArray) (w : World) (ha : a.size ≤ 140737488351232) (hb : b.size ≤ 140737488351232) :
    Calls Try.prog 9 #[.string a, .string b] w fun e w' => e = .returned (.bool true) ∧ Below w.heap.size w w' := by
  by_cases hlen : a.size + b.size ≤ 20000
  · have e0 : u 0 = 0 := by decide
    have e1 : sum (a ++ b).data.toList = add (sum a.data.toList) b.data.toList := by
      rw [add_sum]; simp
    have c0 : ∀ w, Calls Try.prog 13 #[.int .u32 0, .string b] w fun e w' => e = .returned (.int .u32 (u (sum b.data.toList))) ∧ Below w.heap.size w w' := fun w => by
      have := add_any 0 b w (by omega)
      rw [e0] at this; exact this
    have c1 : ∀ w, Calls Try.prog 11 #[.string (a ++ b)] w fun e w' => e = .returned (.int .u32 (u (add (sum a.data.toList) b.data.toList))) ∧ Below w.heap.size w w' := fun w => by
      rw [← e1]; exact sum_any _ w (by simp; omega)
    have c2 : ∀ w, Calls Try.prog 13 #[.int .u32 (u (sum a.data.toList)), .string ⟨#[]⟩] w fun e w' => e = .returned (.int .u32 (u (sum a.data.toList))) ∧ Below w.heap.size w w' := fun w => by
      have := add_any (sum a.data.toList) ⟨#[]⟩ w (by decide)
      rw [add_sum, List.append_nil] at this; exact this
    have C0 := Lib.hid c0
    have C1 := Lib.hid c1
    have C2 := Lib.hid c2
    clear c0 c1 c2 e0 e1
    go_enter Try.func9, Try.ntmps9
    go_wp2_with fail
    refine (works_any _).mono ?_
    rintro e w0 ⟨rfl, hb0⟩
    go_wp2_with fail
    refine (sum_any a _ (by omega)).mono ?_
    rintro e w1 ⟨rfl, hb1⟩
    have hb1 := then_below hb0 hb1
    clear hb0
    go_wp2_with fail
    refine (add_any _ b _ (by omega)).mono ?_
    rintro e w2 ⟨rfl, hb2⟩
    have hb2 := then_below hb1 hb2
    clear hb1
    go_wp2_with fail
    refine (C1.out _).mono ?_
    rintro e w3 ⟨rfl, hb3⟩
    have hb3 := then_below hb2 hb3
    clear hb2
    go_wp2_with fail
    refine (sum_any a _ (by omega)).mono ?_
    rintro e w4 ⟨rfl, hb4⟩
    have hb4 := then_below hb3 hb4
    clear hb3
    go_wp2_with fail
    refine (C2.out _).mono ?_
    rintro e w5 ⟨rfl, hb5⟩
    have hb5 := then_below hb4 hb5
    clear hb4
    go_wp2_with fail
    refine (sum_any a _ (by omega)).mono ?_
    rintro e w6 ⟨rfl, hb6⟩
    have hb6 := then_below hb5 hb6
    clear hb5
    go_wp2_with fail
    refine (C0.out _).mono ?_
    rintro e w7 ⟨rfl, hb7⟩
    have hb7 := then_below hb6 hb7
    clear hb6
    go_wp2_with fail
    refine (sum_any b _ (by omega)).mono ?_
    rintro e w8 ⟨rfl, hb8⟩
    have hb8 := then_below hb7 hb8
    clear hb7
    go_wp2_with fail
    go_ret
    exact ⟨rfl, hb8⟩
  · go_enter Try.func9, Try.ntmps9
    go_wp2_with fail
    refine (works_any _).mono ?_
    rintro e w0 ⟨rfl, hb0⟩
    go_wp2_with fail
    refine (works_any _).mono ?_
    rintro e w1 ⟨rfl, hb1⟩
    have hb1 := then_below hb0 hb1
    clear hb0
    go_wp2_with fail
    go_ret
    exact ⟨rfl, hb1⟩

set_option maxRecDepth 100000 in
set_option maxHeartbeats 400000 in
theorem apart_walk (s : ByteArray) (a b : Int) (x y : BitVec 32) (w : World) (hs : s.size ≤ 140737488351232)
    (ha0 : -9223372036854775808 ≤ a) (ha1 : a ≤ 9223372036854775807) (hb0 : -9223372036854775808 ≤ b) (hb1 : b ≤ 9223372036854775807) :
    Calls Try.prog 6 #[.string s, .int .i64 a, .int .i64 b, .int .u32 (u x), .int .u32 (u y)] w fun e w' => e = .returned (.bool true) ∧ Below w.heap.size w w' := by
  by_cases hlen : s.size ≤ 10000
  · have hl : s.data.toList.length ≤ 100000 := by simp; omega
    by_cases h0 : 0 < s.size
    all_goals
      go_enter Try.func6, Try.ntmps6
      go_wp2_with fail
      refine (works_any _).mono ?_
      rintro e w0 ⟨rfl, hb0⟩
      go_wp2_with fail
    · have rA := wrap64_range ((IntKind.u64.wrap a).tmod ↑s.size)
      have rB := wrap64_range ((IntKind.u64.wrap b).tmod ↑s.size)
      generalize wrap64 ((IntKind.u64.wrap a).tmod ↑s.size) = A at rA
      generalize wrap64 ((IntKind.u64.wrap b).tmod ↑s.size) = B at rB
      refine (bend_to s ⟨(bend s.data.toList A x).toArray⟩ _ A x _ rfl hl rA.1 rA.2 (by simp)).mono ?_
      rintro e w1 ⟨rfl, hb1⟩
      have hb1 := then_below hb0 hb1
      clear hb0
      go_wp2_with fail
      refine (bend_to _ ⟨(bend (bend s.data.toList A x) B y).toArray⟩ (bend s.data.toList A x) B y _ (by simp) (by rw [bend_length]; exact hl) rB.1 rB.2 (by simp)).mono ?_
      rintro e w2 ⟨rfl, hb2⟩
      have hb2 := then_below hb1 hb2
      clear hb1
      go_wp2_with fail
      refine (bend_to s ⟨(bend s.data.toList B y).toArray⟩ _ B y _ rfl hl rB.1 rB.2 (by simp)).mono ?_
      rintro e w3 ⟨rfl, hb3⟩
      have hb3 := then_below hb2 hb3
      clear hb2
      go_wp2_with fail
      refine (bend_to _ ⟨(bend (bend s.data.toList A x) B y).toArray⟩ (bend s.data.toList B y) A x _ (by simp) (by rw [bend_length]; exact hl) rA.1 rA.2 (by simp [bend_comm])).mono ?_
      rintro e w4 ⟨rfl, hb4⟩
      have hb4 := then_below hb3 hb4
      clear hb3
      go_wp2_with fail
      go_ret
      exact ⟨by simp, hb4⟩
    · refine (bend_to s ⟨(bend s.data.toList a x).toArray⟩ _ a x _ rfl hl ha0 ha1 (by simp)).mono ?_
      rintro e w1 ⟨rfl, hb1⟩
      have hb1 := then_below hb0 hb1
      clear hb0
      go_wp2_with fail
      refine (bend_to _ ⟨(bend (bend s.data.toList a x) b y).toArray⟩ (bend s.data.toList a x) b y _ (by simp) (by rw [bend_length]; exact hl) (by omega) (by omega) (by simp)).mono ?_
      rintro e w2 ⟨rfl, hb2⟩
      have hb2 := then_below hb1 hb2
      clear hb1
      go_wp2_with fail
      refine (bend_to s ⟨(bend s.data.toList b y).toArray⟩ _ b y _ rfl hl (by omega) (by omega) (by simp)).mono ?_
      rintro e w3 ⟨rfl, hb3⟩
      have hb3 := then_below hb2 hb3
      clear hb2
      go_wp2_with fail
      refine (bend_to _ ⟨(bend (bend s.data.toList a x) b y).toArray⟩ (bend s.data.toList b y) a x _ (by simp) (by rw [bend_length]; exact hl) ha0 ha1 (by simp [bend_comm])).mono ?_
      rintro e w4 ⟨rfl, hb4⟩
      have hb4 := then_below hb3 hb4
      clear hb3
      go_wp2_with fail
      go_ret
      exact ⟨by simp, hb4⟩
  · go_enter Try.func6, Try.ntmps6
    go_wp2_with fail
    refine (works_any _).mono ?_
    rintro e w0 ⟨rfl, hb0⟩
    go_wp2_with fail
    refine (works_any _).mono ?_
    rintro e w1 ⟨rfl, hb1⟩
    have hb1 := then_below hb0 hb1
    clear hb0
    go_wp2_with fail
    go_ret
    exact ⟨rfl, hb1⟩
end Go.Proofs.Ytdiigplcpalepaa
