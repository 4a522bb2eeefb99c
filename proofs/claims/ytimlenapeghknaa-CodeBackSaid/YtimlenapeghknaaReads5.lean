/-
  The walk of a reader's list: where it is wrong from the first.
-/
import Derived.Test.YtimlenapeghknaaReads4
import Derived.Test.YtimlenapeghknaaCopy
namespace Go.Proofs.Ytimlenapeghknaa
open Go.RowKit
set_option linter.unusedVariables false
set_option linter.unusedSimpArgs false
attribute [local go_sem ↓] Go.wp_at_zero Go.wp_at_succ
theorem own_same {base n : Nat} {v : Value} {xs : List Value} {w w' : World} (h : w.ownsRow base 23 2 v n xs) (hK : ∀ k, v.ownBlock = some k → w'.heap[k]? = w.heap[k]?) : w'.ownsRow base 23 2 v n xs := by
  refine ⟨h.1, ?_⟩
  rcases h.2 with h2 | ⟨g, cap, cur, h1, h2, h3, h4⟩
  · exact .inl h2
  · exact .inr ⟨g, cap, cur, h1, h2, (hK g (by rw [h1]; rfl)).trans h3, h4⟩
/-- How a list is read. -/
def IdsOut (R : Nat) (l : List UInt8) (w : World) (r : Ending) (w' : World) : Prop :=
  (∃ (x : List Idn) (m : List UInt8) (oa : Option Addr) (cap : Nat), rl l = (x, 0, m) ∧ r = .returned (.tuple #[.slice oa x.length cap, .int .i64 0]) ∧ Row oa x w' ∧ Rd R m 0 w' ∧ Keep R w w') ∨
  (∃ (e : Int) (v : Value) (m : List UInt8) (e' : Int), e ≠ 0 ∧ rl l = ([], e, []) ∧ r = .returned (.tuple #[v, .int .i64 e]) ∧ Rd R m e' w' ∧ Keep R w w')
section
variable {R Bp : Nat} {l : List UInt8} {w : World}
set_option maxRecDepth 100000 in
set_option maxHeartbeats 4000000 in
theorem ids29_num (e : Int) (h : Rd R l 0 w) (hp : w.cell? ⟨Bp, 0, none⟩ = some (.pointer (some ⟨R, 0, none⟩))) (hl : l.length ≤ 100000) (hr : rn l = (0, e, [])) (he : e ≠ 0) :
    Calls Try.prog 29 #[.pointer (some ⟨Bp, 0, none⟩)] w (IdsOut R l w) := by
  have heb : (e == 0) = false := by simpa using he
  have HL : Hid (rl l = ([], e, [])) := Lib.hid (by unfold rl; rw [hr]; simp [he])
  go_enter Try.func29, Try.ntmps29
  go_wp2_with fail
  refine (num17_wrong R l e _ h hl hr he).mono ?_
  rintro r w1 ⟨rfl, h1, hK⟩
  clear hr
  go_wp2_with fail
  go_loopw [1, 2, 3] (fun v x n wr => wr = w1 ∧ v = .slice none 0 0 ∧ x = .int .i64 e ∧ n = .int .i64 0) (fun _ _ _ _ => 0)
  case atStart => exact ⟨rfl, rfl, rfl, rfl⟩
  case round =>
    obtain ⟨rfl, rfl, rfl, rfl⟩ := hrel
    go_wp2_with fail
    go_ret2
    exact .inr ⟨e, _, [], e, he, HL.out, rfl, h1, hK⟩
set_option maxRecDepth 100000 in
set_option maxHeartbeats 4000000 in
theorem ids29_large (n : Nat) (m : List UInt8) (h : Rd R l 0 w) (hp : w.cell? ⟨Bp, 0, none⟩ = some (.pointer (some ⟨R, 0, none⟩))) (hl : l.length ≤ 100000) (hr : rn l = (n, 0, m)) (hn : 64 < n) :
    Calls Try.prog 29 #[.pointer (some ⟨Bp, 0, none⟩)] w (IdsOut R l w) := by
  have HL : Hid (rl l = ([], 40, [])) := Lib.hid (by unfold rl; rw [hr]; simp [hn])
  have hn' : 64 < (n : Int) := by omega
  go_enter Try.func29, Try.ntmps29
  go_wp2_with fail
  refine (num17_right R l m n _ h hl hr).mono ?_
  rintro r w1 ⟨rfl, h1, hK⟩
  clear hr
  go_wp2_with fail
  go_loopw [1, 2, 3] (fun v x k wr => wr = w1 ∧ v = .slice none 0 0 ∧ x = .int .i64 40 ∧ k = .int .i64 n) (fun _ _ _ _ => 0)
  case atStart => exact ⟨rfl, rfl, rfl, rfl⟩
  case round =>
    obtain ⟨rfl, rfl, rfl, rfl⟩ := hrel
    go_wp2_with fail
    go_ret2
    exact .inr ⟨40, _, m, 0, by decide, HL.out, rfl, h1, hK⟩
end
end Go.Proofs.Ytimlenapeghknaa
