/-
  The walks of what compares lists: those that read the same are the same.
-/
import Derived.Test.YtjdhdmljchnidaaDeep
namespace Go.Proofs.Ytjdhdmljchnidaa
open Go.RowKit
set_option linter.unusedVariables false
set_option linter.unusedSimpArgs false
attribute [local go_sem ↓] Go.wp_at_zero Go.wp_at_succ
theorem drewN_drewN (w : World) (a b : Nat) : (w.drewN a).drewN b = w.drewN (a + b) := by
  simp [World.drewN, Nat.add_assoc]
set_option maxRecDepth 100000 in
set_option maxHeartbeats 1000000 in
theorem ms_same {P1 lo1 hi1 P2 lo2 hi2 : Nat} (s1 s2 : SL) (l : List Mem) (w : World) (h1 : Rd elM P1 lo1 hi1 s1 l w) (h2 : Rd elM P2 lo2 hi2 s2 l w) (hl : l.length ≤ 100000) :
    Calls Try.prog 43 #[s1.val, s2.val] w fun e w' => e = .returned (.bool true) ∧ ∃ t, w' = w.drewN t := by
  obtain ⟨a1, n1, c1⟩ := s1
  obtain ⟨a2, n2, c2⟩ := s2
  obtain rfl : n1 = l.length := h1.n
  obtain rfl : n2 = l.length := h2.n
  simp only [SL.val]
  have H := Lib.hid (And.intro h1 h2)
  clear h1 h2
  go_enter Try.func43, Try.ntmps43
  go_wp2_with fail
  go_loopw [5] (fun i wr => ∃ k t : Nat, k ≤ l.length ∧ i = .int .i64 k ∧ wr = w.drewN t) (fun i _ => l.length - (intOf i).toNat)
  case atStart => exact ⟨0, 0, by omega, rfl, rfl⟩
  case round =>
    obtain ⟨k, t, hk, rfl, rfl⟩ := hrel
    by_cases hlt : k < l.length
    · obtain ⟨b1, o1, e1, -, -, -, -, hx⟩ := H.out.1.cell hlt
      obtain ⟨b2, o2, e2, -, -, -, -, hy⟩ := H.out.2.cell hlt
      simp only at e1 e2
      subst e1 e2
      generalize l[k] = m at hx hy
      have x0 : w.cell? ⟨b1, o1 + k * 4, none⟩ = some (.int .i64 m.a) := hx 0 (by decide)
      have x1 : w.cell? ⟨b1, o1 + k * 4 + 1, none⟩ = some (.int .i64 m.i) := by have := hx 1 (by decide); rwa [← Nat.add_assoc] at this
      have x2 : w.cell? ⟨b1, o1 + k * 4 + 2, none⟩ = some (.int .u8 m.s) := by have := hx 2 (by decide); rwa [← Nat.add_assoc] at this
      have x3 : w.cell? ⟨b1, o1 + k * 4 + 3, none⟩ = some (.int .i64 m.n) := by have := hx 3 (by decide); rwa [← Nat.add_assoc] at this
      have y0 : w.cell? ⟨b2, o2 + k * 4, none⟩ = some (.int .i64 m.a) := hy 0 (by decide)
      have y1 : w.cell? ⟨b2, o2 + k * 4 + 1, none⟩ = some (.int .i64 m.i) := by have := hy 1 (by decide); rwa [← Nat.add_assoc] at this
      have y2 : w.cell? ⟨b2, o2 + k * 4 + 2, none⟩ = some (.int .u8 m.s) := by have := hy 2 (by decide); rwa [← Nat.add_assoc] at this
      have y3 : w.cell? ⟨b2, o2 + k * 4 + 3, none⟩ = some (.int .i64 m.n) := by have := hy 3 (by decide); rwa [← Nat.add_assoc] at this
      clear hx hy
      obtain ⟨ma, mi, ms, mn⟩ := m
      simp only at x0 x1 x2 x3 y0 y1 y2 y3
      go_wp2_with fail
      go_quiet (fail)
      go_wp2_with fail
      go_roundw
      case rel => exact ⟨k + 1, _, by omega, by go_num, rfl⟩
      case measure => simp only [intOf]; omega
    · obtain rfl : k = l.length := by omega
      go_wp2_with fail
      go_ret
      exact ⟨rfl, _, rfl⟩
set_option maxRecDepth 100000 in
set_option maxHeartbeats 1000000 in
theorem ids_same {P1 lo1 hi1 P2 lo2 hi2 : Nat} (s1 s2 : SL) (l : List ID2) (w : World) (h1 : Rd elI P1 lo1 hi1 s1 l w) (h2 : Rd elI P2 lo2 hi2 s2 l w) (hl : l.length ≤ 100000) :
    Calls Try.prog 44 #[s1.val, s2.val] w fun e w' => e = .returned (.bool true) ∧ ∃ t, w' = w.drewN t := by
  obtain ⟨a1, n1, c1⟩ := s1
  obtain ⟨a2, n2, c2⟩ := s2
  obtain rfl : n1 = l.length := h1.n
  obtain rfl : n2 = l.length := h2.n
  simp only [SL.val]
  have H := Lib.hid (And.intro h1 h2)
  clear h1 h2
  go_enter Try.func44, Try.ntmps44
  go_wp2_with fail
  go_loopw [5] (fun i wr => ∃ k t : Nat, k ≤ l.length ∧ i = .int .i64 k ∧ wr = w.drewN t) (fun i _ => l.length - (intOf i).toNat)
  case atStart => exact ⟨0, 0, by omega, rfl, rfl⟩
  case round =>
    obtain ⟨k, t, hk, rfl, rfl⟩ := hrel
    by_cases hlt : k < l.length
    · obtain ⟨b1, o1, e1, -, -, -, -, hx⟩ := H.out.1.cell hlt
      obtain ⟨b2, o2, e2, -, -, -, -, hy⟩ := H.out.2.cell hlt
      simp only at e1 e2
      subst e1 e2
      generalize l[k] = m at hx hy
      have x0 : w.cell? ⟨b1, o1 + k * 2, none⟩ = some (.int .i64 m.a) := hx 0 (by decide)
      have x1 : w.cell? ⟨b1, o1 + k * 2 + 1, none⟩ = some (.int .i64 m.i) := by have := hx 1 (by decide); rwa [← Nat.add_assoc] at this
      have y0 : w.cell? ⟨b2, o2 + k * 2, none⟩ = some (.int .i64 m.a) := hy 0 (by decide)
      have y1 : w.cell? ⟨b2, o2 + k * 2 + 1, none⟩ = some (.int .i64 m.i) := by have := hy 1 (by decide); rwa [← Nat.add_assoc] at this
      clear hx hy
      obtain ⟨ma, mi⟩ := m
      simp only at x0 x1 y0 y1
      go_wp2_with fail
      go_quiet (fail)
      go_wp2_with fail
      go_roundw
      case rel => exact ⟨k + 1, _, by omega, by go_num, rfl⟩
      case measure => simp only [intOf]; omega
    · obtain rfl : k = l.length := by omega
      go_wp2_with fail
      go_ret
      exact ⟨rfl, _, rfl⟩
set_option maxRecDepth 100000 in
set_option maxHeartbeats 1000000 in
theorem ts_same {P1 lo1 hi1 P2 lo2 hi2 : Nat} (s1 s2 : SL) (l : List Tk) (w : World) (h1 : Rd elT P1 lo1 hi1 s1 l w) (h2 : Rd elT P2 lo2 hi2 s2 l w) (hl : l.length ≤ 100000) :
    Calls Try.prog 45 #[s1.val, s2.val] w fun e w' => e = .returned (.bool true) ∧ ∃ t, w' = w.drewN t := by
  obtain ⟨a1, n1, c1⟩ := s1
  obtain ⟨a2, n2, c2⟩ := s2
  obtain rfl : n1 = l.length := h1.n
  obtain rfl : n2 = l.length := h2.n
  simp only [SL.val]
  have H := Lib.hid (And.intro h1 h2)
  clear h1 h2
  go_enter Try.func45, Try.ntmps45
  go_wp2_with fail
  go_loopw [5] (fun i wr => ∃ k t : Nat, k ≤ l.length ∧ i = .int .i64 k ∧ wr = w.drewN t) (fun i _ => l.length - (intOf i).toNat)
  case atStart => exact ⟨0, 0, by omega, rfl, rfl⟩
  case round =>
    obtain ⟨k, t, hk, rfl, rfl⟩ := hrel
    by_cases hlt : k < l.length
    · obtain ⟨b1, o1, e1, -, -, -, -, hx⟩ := H.out.1.cell hlt
      obtain ⟨b2, o2, e2, -, -, -, -, hy⟩ := H.out.2.cell hlt
      simp only at e1 e2
      subst e1 e2
      generalize l[k] = m at hx hy
      have x0 : w.cell? ⟨b1, o1 + k * 3, none⟩ = some (.int .i64 m.a) := hx 0 (by decide)
      have x1 : w.cell? ⟨b1, o1 + k * 3 + 1, none⟩ = some (.int .i64 m.i) := by have := hx 1 (by decide); rwa [← Nat.add_assoc] at this
      have x2 : w.cell? ⟨b1, o1 + k * 3 + 2, none⟩ = some (.int .i64 m.n) := by have := hx 2 (by decide); rwa [← Nat.add_assoc] at this
      have y0 : w.cell? ⟨b2, o2 + k * 3, none⟩ = some (.int .i64 m.a) := hy 0 (by decide)
      have y1 : w.cell? ⟨b2, o2 + k * 3 + 1, none⟩ = some (.int .i64 m.i) := by have := hy 1 (by decide); rwa [← Nat.add_assoc] at this
      have y2 : w.cell? ⟨b2, o2 + k * 3 + 2, none⟩ = some (.int .i64 m.n) := by have := hy 2 (by decide); rwa [← Nat.add_assoc] at this
      clear hx hy
      obtain ⟨ma, mi, mn⟩ := m
      simp only at x0 x1 x2 y0 y1 y2
      go_wp2_with fail
      go_quiet (fail)
      go_wp2_with fail
      go_roundw
      case rel => exact ⟨k + 1, _, by omega, by go_num, rfl⟩
      case measure => simp only [intOf]; omega
    · obtain rfl : k = l.length := by omega
      go_wp2_with fail
      go_ret
      exact ⟨rfl, _, rfl⟩
end Go.Proofs.Ytjdhdmljchnidaa
