/-
  The walk of what writes a list.
-/
import Derived.Test.YtimlenapeghknaaWalks3
namespace Go.Proofs.Ytimlenapeghknaa
open Go.RowKit
set_option linter.unusedVariables false
set_option linter.unusedSimpArgs false
attribute [local go_sem ↓] Go.wp_at_zero Go.wp_at_succ
theorem encId_le {x : Idn} (h : x.may = true) : (encId x).length ≤ 12 := by
  have hx := (x.may_iff).1 h
  have h1 := enc_le (n := x.a.toNat) (by unfold most; omega)
  have h2 := enc_le (n := x.i.toNat) (by unfold most; omega)
  unfold encId
  rw [List.length_append]; omega
theorem encAll_le (l : List Idn) (h : ∀ y ∈ l, y.may = true) : (encAll l).length ≤ l.length * 12 := by
  induction l with
  | nil => simp [encAll]
  | cons x l ih =>
    have h1 := encId_le (h x (by simp))
    have h2 := ih (fun y hy => h y (by simp [hy]))
    simp only [encAll, List.length_append, List.length_cons]
    omega
set_option maxRecDepth 100000 in
set_option maxHeartbeats 4000000 in
theorem ids13 (s : List UInt8) (oa : Option Addr) (cap : Nat) (l : List Idn) (w : World) (hl : Row oa l w) (hs : s.length ≤ 40000) :
    Calls Try.prog 13 #[str s, .slice oa l.length cap] w fun e w' => e = .returned (if 64 < l.length then .tuple #[str s, .int .i64 40] else if rise l = true then .tuple #[str (s ++ encIds l), .int .i64 0] else .tuple #[str s, .int .i64 4]) ∧ Below w.heap.size w w' := by
  have hlen := hl.len
  by_cases h64 : 64 < l.length
  · rw [if_pos h64]
    go_enter Try.func13, Try.ntmps13
    go_wp2_with fail
    go_ret2
    exact ⟨rfl, Below.refl _ _⟩
  · rw [if_neg h64]
    have h64' : l.length ≤ 64 := by omega
    clear h64
    cases hr : rise l
    · rw [if_neg (by simp)]
      have HR := Lib.hid hr
      clear hr
      go_enter Try.func13, Try.ntmps13
      go_wp2_with fail
      refine (rise_any oa cap l w hl).mono ?_
      rintro e w1 ⟨rfl, hb1⟩
      rw [HR.out]
      go_wp2_with fail
      go_ret2
      exact ⟨rfl, hb1⟩
    · rw [if_pos rfl]
      have hmay := riseFrom_may hr
      have HR := Lib.hid hr
      have HMAY := Lib.hid hmay
      clear hr hmay
      go_enter Try.func13, Try.ntmps13
      go_wp2_with fail
      refine (rise_any oa cap l w hl).mono ?_
      rintro e w1 ⟨rfl, hb1⟩
      rw [HR.out]
      go_wp2_with fail
      refine (num9 s l.length w1 (by unfold most; omega) (by omega)).mono ?_
      rintro e w2 ⟨rfl, hb2⟩
      have hb := then_below hb1 hb2
      clear hb1 hb2
      have hsix := enc_le (n := l.length) (by unfold most; omega)
      go_wp2_with fail
      go_loopw [6, 29] (fun v x wr => ∃ k : Nat, k ≤ l.length ∧ x = .int .i64 k ∧ (∃ t, v = str t ∧ Hid (t = s ++ enc l.length ++ encAll (l.take k))) ∧ Below w.heap.size w wr) (fun _ x _ => l.length - (intOf x).toNat)
      case atStart => exact ⟨0, by omega, rfl, ⟨_, rfl, Lib.hid (by simp [encAll])⟩, hb⟩
      case round =>
        clear hb
        obtain ⟨k, hk, rfl, ⟨t, rfl, ht⟩, hb⟩ := hrel
        have hB := hb.size
        by_cases hlt : k < l.length
        · obtain ⟨b, off, rfl, hbl, q0, q1⟩ := (hl.below hb).cell k hlt
          have hm := HMAY.out _ (List.getElem_mem hlt)
          have HT : Hid (l.take (k + 1) = l.take k ++ [l[k]]) := Lib.hid (List.take_succ_eq_append_getElem hlt)
          have hlen2 : (encAll (l.take k)).length ≤ k * 12 := by
            have := encAll_le (l.take k) (fun y hy => HMAY.out _ (List.mem_of_mem_take hy))
            rw [List.length_take] at this
            omega
          have htl : t.length ≤ 49000 := by rw [ht.out, List.length_append, List.length_append]; omega
          clear hlen2
          generalize l[k] = x at q0 q1 hm HT
          have HM := Lib.hid hm
          clear hm
          go_wp2_with fail
          refine (id11 t x _ htl).mono ?_
          rintro e w3 ⟨rfl, hb3⟩
          rw [if_pos HM.out]
          go_wp2_with fail
          go_roundw
          case rel => exact ⟨k + 1, by omega, by go_num, ⟨_, rfl, Lib.hid (by rw [ht.out, HT.out, encAll_append]; simp [encAll])⟩, (hb.alloc hB _).trans (hb3.mono (by simp; omega))⟩
          case measure => simp only [intOf]; omega
        · obtain rfl : k = l.length := by omega
          go_wp2_with fail
          go_ret2
          exact ⟨by rw [ht.out, List.take_length]; simp [encIds], hb⟩
end Go.Proofs.Ytimlenapeghknaa
