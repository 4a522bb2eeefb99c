/-
  The walk of what compares two lists.
-/
import Derived.Test.YtimlenapeghknaaWalks6
namespace Go.Proofs.Ytimlenapeghknaa
open Go.RowKit
set_option linter.unusedVariables false
set_option linter.unusedSimpArgs false
attribute [local go_sem ↓] Go.wp_at_zero Go.wp_at_succ
set_option maxRecDepth 100000 in
set_option maxHeartbeats 4000000 in
theorem same_any (oa oc : Option Addr) (ca cc : Nat) (a b : List Idn) (w : World) (ha : Row oa a w) (hb : Row oc b w) :
    Calls Try.prog 15 #[.slice oa a.length ca, .slice oc b.length cc] w fun e w' => e = .returned (.bool (decide (a = b))) ∧ Below w.heap.size w w' := by
  have hla := ha.len
  have hlb := hb.len
  by_cases hlen : a.length = b.length
  · rw [hlen]
    go_enter Try.func15, Try.ntmps15
    go_wp2_with fail
    go_loopw [5] (fun x wr => ∃ k : Nat, k ≤ b.length ∧ x = .int .i64 k ∧ Below w.heap.size w wr ∧ Hid (a.take k = b.take k)) (fun x _ => b.length - (intOf x).toNat)
    case atStart => exact ⟨0, by omega, rfl, Below.refl _ _, Lib.hid rfl⟩
    case round =>
      obtain ⟨k, hk, rfl, hbw, HT⟩ := hrel
      by_cases hlt : k < b.length
      · obtain ⟨g, off, rfl, hbl, q0, q1⟩ := (ha.below hbw).cell k (by omega)
        obtain ⟨g', off', rfl, hbl', p0, p1⟩ := (hb.below hbw).cell k hlt
        have HA : Hid (a.take (k + 1) = a.take k ++ [a[k]]) := Lib.hid (List.take_succ_eq_append_getElem (by omega))
        have HB : Hid (b.take (k + 1) = b.take k ++ [b[k]]) := Lib.hid (List.take_succ_eq_append_getElem hlt)
        have HN : Hid (a[k] ≠ b[k] → a ≠ b) := Lib.hid (fun h e => h (by subst e; rfl))
        generalize a[k]'(by omega) = x at q0 q1 HA HN
        generalize b[k] = y at p0 p1 HB HN
        obtain ⟨xa, xi⟩ := x
        obtain ⟨ya, yi⟩ := y
        simp only at q0 q1 p0 p1
        by_cases ca : xa = ya
        · subst ca
          by_cases ci : xi = yi
          · subst ci
            go_wp2_with fail
            go_region
            all_goals
              go_wp2_with fail
              go_roundw
              case rel => exact ⟨k + 1, by omega, by go_num, hbw.drew, Lib.hid (by rw [HA.out, HB.out, HT.out])⟩
              case measure => simp only [intOf]; omega
          · have HI := Lib.hid ci
            clear ci
            have hci : (xi = yi) = False := by simpa using HI.out
            go_wp2_with fail
            go_region
            all_goals
              go_wp2_with fail
              go_ret
              exact ⟨ret_b (by simp [HN.out (by simp [HI.out])]), hbw.drew⟩
        · have HI := Lib.hid ca
          clear ca
          have hci : (xa = ya) = False := by simpa using HI.out
          go_wp2_with fail
          go_region
          all_goals
            go_wp2_with fail
            go_ret
            exact ⟨ret_b (by simp [HN.out (by simp [HI.out])]), hbw.drew⟩
      · obtain rfl : k = b.length := by omega
        go_wp2_with fail
        go_ret
        exact ⟨ret_b (by have := HT.out; rw [List.take_length, List.take_of_length_le (by omega)] at this; simp [this]), hbw⟩
  · go_enter Try.func15, Try.ntmps15
    go_wp2_with fail
    go_ret
    exact ⟨ret_b (by simp; intro e; subst e; exact hlen rfl), Below.refl _ _⟩
end Go.Proofs.Ytimlenapeghknaa
