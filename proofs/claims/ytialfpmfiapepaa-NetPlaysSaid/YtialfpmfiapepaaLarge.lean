/-
  Are steps more than a statement goes over?
-/
import Derived.Test.YtialfpmfiapepaaIns
namespace Go.Proofs.Ytialfpmfiapepaa
open Go.RowKit
set_option linter.unusedVariables false
set_option linter.unusedSimpArgs false
attribute [local go_sem ↓] Go.wp_at_zero Go.wp_at_succ
/-- What the answer is good for. -/
def LargeOk (l : List Step) (W : World) (e : Ending) (w' : World) : Prop := ∃ b : Bool, e = .returned (.bool b) ∧ w' = W ∧ (b = false → l.length ≤ 300 ∧ ∀ (k : Nat) (h : k < l.length), l[k].txt.size ≤ 100000)
set_option maxRecDepth 100000 in
set_option maxHeartbeats 1000000 in
theorem large_any (oa : Option Addr) (cap : Nat) (l : List Step) (W : World) (hl : Step.Holds W (.slice oa l.length cap) l) (ht : ∀ s ∈ l, s.txt.size ≤ 140737488351232) :
    Calls Try.prog 9 #[.slice oa l.length cap] W (LargeOk l W) := by
  have hcl : l.length ≤ 9223372036854775807 := by
    obtain ⟨oa', cap', he, h1, h2, -⟩ := hl
    unfold maxLen at h2; omega
  go_enter Try.func9, Try.ntmps9
  go_wp2_with fail
  go_loop [3, 4] (fun n i => ∃ (k : Nat) (m : Int), k ≤ l.length ∧ i = .int .i64 k ∧ n = .int .i64 m ∧ 0 ≤ m ∧ m ≤ 20000 + 140737488351262 ∧ Hid (m < 20000 → ∀ (j : Nat) (h : j < l.length), j < k → l[j].txt.size ≤ 100000)) (fun _ i => l.length - (intOf i).toNat)
  case atStart => exact ⟨0, 0, by omega, rfl, rfl, by omega, by omega, Lib.hid (fun _ j _ hj => by omega)⟩
  case round =>
    obtain ⟨k, m, hk, rfl, rfl, m0, m1, HS⟩ := hrel
    by_cases hlt : k < l.length
    · by_cases hm : m < 20000
      · obtain ⟨b, off, rfl, hb, hok, q0, q1, q2, q3, q4, q5⟩ := hl.at_ hlt
        have hsz := ht _ (List.getElem_mem hlt)
        have HX := Lib.hid hl
        have HT := Lib.hid ht
        obtain ⟨x, hx⟩ : ∃ x, x = l[k].txt := ⟨_, rfl⟩
        rw [← hx] at q1 hsz
        have HK := Lib.hid hx
        clear hx hl ht q0 q2 q3 q4 q5 hok
        go_wp2
        go_round
        case rel =>
          refine ⟨k + 1, _, by omega, by go_num, rfl, by omega, by omega, Lib.hid (fun hm2 j hj hjk => ?_)⟩
          by_cases e : j < k
          · exact HS.out hm j hj e
          · obtain rfl : j = k := by omega
            have : l[j].txt.size = x.size := by rw [HK.out]
            rw [this]; omega
        case measure => simp [intOf]; omega
      · have HL := Lib.hid hlt
        clear ht hl
        have g : decide (m < 20000) = false := by simpa using hm
        go_wp2
        go_ret
        exact ⟨true, rfl, rfl, fun h => by cases h⟩
    · obtain rfl : k = l.length := by omega
      have HX := Lib.hid hl
      clear ht hl
      by_cases hm : m < 20000
      · go_wp2
        go_ret
        refine ⟨decide (20000 ≤ m) || decide (300 < (l.length : Int)), rfl, rfl, fun h => ?_⟩
        simp at h
        exact ⟨by omega, fun j hj => HS.out hm j hj hj⟩
      · go_wp2
        go_ret
        exact ⟨true, rfl, rfl, fun h => by cases h⟩
end Go.Proofs.Ytialfpmfiapepaa
