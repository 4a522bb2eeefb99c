/-
  The walk of the law CodeShort.
-/
import Derived.Test.YtimlenapeghknaaReads7
import Derived.Test.YtimlenapeghknaaWrites
import Derived.Deep.DeepCutAuto
namespace Go.Proofs.Ytimlenapeghknaa
open Go.RowKit
set_option linter.unusedVariables false
set_option linter.unusedSimpArgs false
attribute [local go_sem ↓] Go.wp_at_zero Go.wp_at_succ
theorem place_of (a n : Int) (h1 : 1 ≤ n) (h2 : n ≤ 100000) : ∃ k : Nat, (k : Int) < n ∧ wrap64 ((IntKind.u64.wrap a).tmod n) = k := by
  have hw : 0 ≤ IntKind.u64.wrap a := by
    simp [IntKind.wrap, IntKind.bits, IntKind.signed]; omega
  rw [Int.tmod_eq_emod_of_nonneg hw]
  have e0 := Int.emod_nonneg (IntKind.u64.wrap a) (b := n) (by omega)
  have e1 := Int.emod_lt_of_pos (IntKind.u64.wrap a) (b := n) (by omega)
  refine ⟨((IntKind.u64.wrap a) % n).toNat, by omega, ?_⟩
  rw [IntWalk.wrap64_in _ (by omega)]
  omega
theorem ext_take (l : List UInt8) (k : Nat) : (⟨l.toArray⟩ : ByteArray).extract 0 k = ⟨(l.take k).toArray⟩ := by
  apply ByteArray.ext
  simp
theorem ids13_nil (oa : Option Addr) (cap : Nat) (l : List Idn) (w : World) (hl : Row oa l w) :
    Calls Try.prog 13 #[.string ⟨#[]⟩, .slice oa l.length cap] w fun e w' => e = .returned (.tuple #[str (idsS [] l), .int .i64 (idsE l)]) ∧ Below w.heap.size w w' := ids13_all [] oa cap l w hl (by decide)
theorem idsE_cases (l : List Idn) : (idsE l = 0 ∧ l.length ≤ 64 ∧ rise l = true ∧ idsS [] l = encIds l) ∨ ((idsE l = 40 ∨ idsE l = 4) ∧ idsS [] l = []) := by
  unfold idsE idsS
  by_cases h : 64 < l.length
  · rw [if_pos h, if_pos h]; exact .inr ⟨.inl rfl, rfl⟩
  · rw [if_neg h, if_neg h]
    cases hr : rise l
    · exact .inr ⟨.inr rfl, rfl⟩
    · exact .inl ⟨rfl, by omega, rfl, rfl⟩
theorem encIds_bounds {l : List Idn} (h : l.length ≤ 64) (hr : rise l = true) : 1 ≤ (encIds l).length ∧ (encIds l).length ≤ 1000 := by
  have h1 := encAll_le l (riseFrom_may hr)
  have h2 := enc_le (n := l.length) (by unfold most; omega)
  have h3 := enc_pos l.length
  unfold encIds
  rw [List.length_append]
  omega
set_option maxRecDepth 100000 in
set_option maxHeartbeats 8000000 in
theorem short_walk (n : Int) (oa : Option Addr) (cap : Nat) (l : List Idn) (less : Int) (w : World) (hl : Idn.Holds w (.slice oa l.length cap) l) :
    Calls Try.prog 5 #[.int .i64 n, .slice oa l.length cap, .int .i64 less] w fun r w' => r = .returned (.bool true) ∧ Below w.heap.size w w' := by
  by_cases h2 : l.length ≤ 200
  · have hR : Row oa l w := hl.row (by omega)
    go_enter Try.func5, Try.ntmps5
    go_wp2_with fail
    refine (awake_any _).mono ?_
    rintro r w1 ⟨rfl, hb1⟩
    go_wp2_with fail
    refine (num9_nil n _).mono ?_
    rintro r w2 ⟨rfl, hb2⟩
    have HB2 := Lib.hid (then_below hb1 hb2)
    clear hb1 hb2
    go_upto_if 28 with fail
    go_cut [7, 8, 9, 10] (fun _ _ _ _ wx => Below w.heap.size w wx)
    case first =>
      rcases numE_cases n with ⟨he, n0, n1, hs⟩ | he
      · rw [he, hs]
        have hlen := enc_len_int n n0 n1
        have hpos := enc_pos n.toNat
        have hsh := fun k hk => rn_short (n := n.toNat) (k := k) (by unfold most; omega) hk
        generalize enc n.toNat = sa at hlen hpos hsh
        obtain ⟨k, hk, hmod⟩ := place_of less sa.length (by omega) (by omega)
        have hx := ext_take sa k
        have HS := Lib.hid (hsh k (by omega))
        clear hsh
        go_wp2_with fail
        refine (open_any (sa.take k) _).mono ?_
        rintro r w3 ⟨rfl, h3, hb3⟩
        clear hx hmod
        go_wp2_with fail
        refine (num17_wrong _ (sa.take k) 8 _ h3 (by rw [List.length_take]; omega) HS.out (by decide)).mono ?_
        rintro r w4 ⟨rfl, -, hK4⟩
        have HB4 := Lib.hid (then_below HB2.out (hb3.trans (hK4.below (Nat.le_refl _) hb3.size)))
        clear hb3 hK4 h3
        go_wp2_with fail
        go_meet
        case rel => exact HB4.out
      · rw [he]
        go_wp2_with fail
        go_meet
        case rel => exact HB2.out
    case rest =>
      have HBC := Lib.hid hcut
      have hRc := hR.below hcut
      clear hcut HB2
      go_wp2_with fail
      refine (ids13_nil oa cap l _ hRc).mono ?_
      rintro r w5 ⟨rfl, hb5⟩
      have HB5 := Lib.hid (then_below HBC.out hb5)
      clear hb5 HBC hRc
      rcases idsE_cases l with ⟨he, h64, hrise, hs⟩ | ⟨he, hs⟩
      · rw [he, hs]
        obtain ⟨hpos, hlen⟩ := encIds_bounds h64 hrise
        have hsh := fun k hk => rl_short hrise h64 (k := k) hk
        generalize encIds l = sa at hlen hpos hsh
        obtain ⟨k, hk, hmod⟩ := place_of less sa.length (by omega) (by omega)
        have hx := ext_take sa k
        have HS := Lib.hid (hsh k (by omega))
        clear hsh he hs hrise
        go_wp2_with fail
        refine (open_any (sa.take k) _).mono ?_
        rintro r w6 ⟨rfl, h6, hb6⟩
        clear hx hmod
        go_wp2_with fail
        refine (ids18_wrong 8 h6 (by rw [List.length_take]; omega) HS.out (by decide)).mono ?_
        rintro r w7 ⟨rfl, -, hK7⟩
        have HB7 := Lib.hid (then_below HB5.out (hb6.trans (hK7.below (Nat.le_refl _) hb6.size)))
        clear hb6 hK7 h6
        go_wp2_with fail
        go_ret
        exact ⟨rfl, HB7.out⟩
      · rw [hs]
        have hne : (idsE l != 0) = true := by rcases he with e | e <;> (rw [e]; rfl)
        clear hs he
        generalize idsE l = ie at hne
        go_wp2_with fail
        go_ret
        exact ⟨rfl, HB5.out⟩
  · go_enter Try.func5, Try.ntmps5
    go_wp2_with fail
    refine (awake_any _).mono ?_
    rintro r w1 ⟨rfl, hb1⟩
    go_wp2_with fail
    go_ret
    exact ⟨rfl, hb1⟩
end Go.Proofs.Ytimlenapeghknaa
