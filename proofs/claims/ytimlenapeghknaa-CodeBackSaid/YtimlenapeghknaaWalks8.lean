/-
  The walks of the document's ID and list.
-/
import Derived.Test.YtimlenapeghknaaWalks7
namespace Go.Proofs.Ytimlenapeghknaa
open Go.RowKit
set_option linter.unusedVariables false
set_option linter.unusedSimpArgs false
attribute [local go_sem ↓] Go.wp_at_zero Go.wp_at_succ
theorem num10_int (l : List UInt8) (n : Int) (w : World) (h0 : 0 ≤ n) (h : n ≤ 1099511627776) (hs : l.length ≤ 50000) :
    Calls Try.prog 10 #[str l, .int .i64 n] w fun e w' => e = .returned (.tuple #[str (l ++ enc n.toNat), .int .i64 0]) ∧ Below w.heap.size w w' := by
  have := num10 l n.toNat w (by unfold most; omega) hs
  rwa [show ((n.toNat : Nat) : Int) = n by omega] at this
set_option maxRecDepth 100000 in
set_option maxHeartbeats 1000000 in
theorem id12 (l : List UInt8) (x : Idn) (w : World) (hs : l.length ≤ 49000) :
    Calls Try.prog 12 #[str l, .agg #[.int .i64 x.a, .int .i64 x.i]] w fun e w' => e = .returned (if x.may = true then .tuple #[str (l ++ encId x), .int .i64 0] else .tuple #[str l, .int .i64 4]) ∧ Below w.heap.size w w' := by
  cases hm : x.may
  · go_enter Try.func12, Try.ntmps12
    go_wp2_with fail
    refine (may23 x.a x.i _).mono ?_
    rintro e w1 ⟨rfl, hb1⟩
    rw [show mayB x.a x.i = false from hm]
    go_wp2_with fail
    go_ret2
    exact ⟨rfl, ((Below.refl _ w).alloc (Nat.le_refl _) _).trans (hb1.mono (by simp))⟩
  · have hx := (x.may_iff).1 hm
    go_enter Try.func12, Try.ntmps12
    go_wp2_with fail
    refine (may23 x.a x.i _).mono ?_
    rintro e w1 ⟨rfl, hb1⟩
    rw [show mayB x.a x.i = true from hm]
    have hc1 := fun (b o : Nat) (h : b < _) => hb1.cell (p := ⟨b, o, none⟩) h
    go_wp2_with fail
    refine (num10_int l x.a _ (by omega) (by omega) (by omega)).mono ?_
    rintro e w2 ⟨rfl, hb2⟩
    have hc2 := fun (b o : Nat) (h : b < _) => hb2.cell (p := ⟨b, o, none⟩) h
    have hz1 : w.heap.size < w1.heap.size := by have := hb1.size; simp at this; omega
    go_wp2_with fail
    have hsix := enc_le (n := x.a.toNat) (by unfold most; omega)
    refine (num10_int (l ++ enc x.a.toNat) x.i _ (by omega) (by omega) (by rw [List.length_append]; omega)).mono ?_
    rintro e w3 ⟨rfl, hb3⟩
    go_wp2_with fail
    go_ret2
    refine ⟨by simp [encId], ?_⟩
    have b2 := then_below hb1 hb2
    have b3 := then_below b2 hb3
    exact ((Below.refl _ w).alloc (Nat.le_refl _) _).trans (b3.mono (by simp))
set_option maxRecDepth 100000 in
set_option maxHeartbeats 4000000 in
theorem ids14 (s : List UInt8) (oa : Option Addr) (cap : Nat) (l : List Idn) (w : World) (hl : Row oa l w) (hs : s.length ≤ 40000) :
    Calls Try.prog 14 #[str s, .slice oa l.length cap] w fun e w' => e = .returned (if 64 < l.length then .tuple #[str s, .int .i64 40] else if rise l = true then .tuple #[str (s ++ encIds l), .int .i64 0] else .tuple #[str s, .int .i64 4]) ∧ Below w.heap.size w w' := by
  have hlen := hl.len
  by_cases h64 : 64 < l.length
  · rw [if_pos h64]
    go_enter Try.func14, Try.ntmps14
    go_wp2_with fail
    go_ret2
    exact ⟨rfl, Below.refl _ _⟩
  · rw [if_neg h64]
    have h64' : l.length ≤ 64 := by omega
    clear h64
    cases hr : rise l
    · rw [if_neg (by simp)]
      have HR := Lib.hid hr
      clear hr
      go_enter Try.func14, Try.ntmps14
      go_wp2_with fail
      refine (rises_any oa cap l w hl).mono ?_
      rintro e w1 ⟨rfl, hb1⟩
      rw [HR.out]
      go_wp2_with fail
      go_ret2
      exact ⟨rfl, hb1⟩
    · rw [if_pos rfl]
      have hmay := riseFrom_may hr
      have HR := Lib.hid hr
      have HMAY := Lib.hid hmay
      clear hr hmay
      go_enter Try.func14, Try.ntmps14
      go_wp2_with fail
      refine (rises_any oa cap l w hl).mono ?_
      rintro e w1 ⟨rfl, hb1⟩
      rw [HR.out]
      go_wp2_with fail
      refine (num10 s l.length w1 (by unfold most; omega) (by omega)).mono ?_
      rintro e w2 ⟨rfl, hb2⟩
      have hb := then_below hb1 hb2
      clear hb1 hb2
      have hsix := enc_le (n := l.length) (by unfold most; omega)
      go_wp2_with fail
      go_loopw [6, 8] (fun v x wr => ∃ k : Nat, k ≤ l.length ∧ x = .int .i64 k ∧ (∃ t, v = str t ∧ Hid (t = s ++ enc l.length ++ encAll (l.take k))) ∧ Below w.heap.size w wr) (fun _ x _ => l.length - (intOf x).toNat)
      case atStart => exact ⟨0, by omega, rfl, ⟨_, rfl, Lib.hid (by simp [encAll])⟩, hb⟩
      case round =>
        clear hb
        obtain ⟨k, hk, rfl, ⟨t, rfl, ht⟩, hb⟩ := hrel
        have hB := hb.size
        by_cases hlt : k < l.length
        · obtain ⟨b, off, rfl, hbl, q0, q1⟩ := (hl.below hb).cell k hlt
          have hm := HMAY.out _ (List.getElem_mem hlt)
          have HT : Hid (l.take (k + 1) = l.take k ++ [l[k]]) := Lib.hid (List.take_succ_eq_append_getElem hlt)
          have hlen2 : (encAll (l.take k)).length ≤ k * 12 := by
            have := encAll_le (l.take k) (fun y hy => HMAY.out _ (List.mem_of_mem_take hy))
            rw [List.length_take] at this
            omega
          have htl : t.length ≤ 49000 := by rw [ht.out, List.length_append, List.length_append]; omega
          clear hlen2
          generalize l[k] = x at q0 q1 hm HT
          have HM := Lib.hid hm
          clear hm
          go_wp2_with fail
          refine (id12 t x _ htl).mono ?_
          rintro e w3 ⟨rfl, hb3⟩
          rw [if_pos HM.out]
          go_wp2_with fail
          go_roundw
          case rel => exact ⟨k + 1, by omega, by go_num, ⟨_, rfl, Lib.hid (by rw [ht.out, HT.out, encAll_append]; simp [encAll])⟩, hb.trans (hb3.mono hb.size)⟩
          case measure => simp only [intOf]; omega
        · obtain rfl : k = l.length := by omega
          go_wp2_with fail
          go_ret2
          exact ⟨by rw [ht.out, List.take_length]; simp [encIds], hb⟩
end Go.Proofs.Ytimlenapeghknaa
