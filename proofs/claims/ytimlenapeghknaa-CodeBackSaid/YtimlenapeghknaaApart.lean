/-
  The walk of the law CodeApart.
-/
import Derived.Test.YtimlenapeghknaaWorks
namespace Go.Proofs.Ytimlenapeghknaa
open Go.RowKit
set_option linter.unusedVariables false
set_option linter.unusedSimpArgs false
attribute [local go_sem ↓] Go.wp_at_zero Go.wp_at_succ
def numS (n : Int) : List UInt8 := if 0 ≤ n ∧ n ≤ 1099511627776 then enc n.toNat else []
def numE (n : Int) : Int := if 0 ≤ n ∧ n ≤ 1099511627776 then 0 else 1
theorem num9_all (l : List UInt8) (n : Int) (w : World) (hs : l.length ≤ 50000) :
    Calls Try.prog 9 #[str l, .int .i64 n] w fun e w' => e = .returned (.tuple #[str (l ++ numS n), .int .i64 (numE n)]) ∧ Below w.heap.size w w' := by
  by_cases h : 0 ≤ n ∧ n ≤ 1099511627776
  · have := num9_int l n w h.1 h.2 hs
    simp only [numS, numE, if_pos h]
    exact this
  · have hn : n < 0 ∨ 1099511627776 < n := by omega
    simp only [numS, numE, if_neg h, List.append_nil]
    exact (num_no ⟨l.toArray⟩ n w hn).mono fun e w' ⟨h1, h2⟩ => ⟨h1, by subst h2; exact Below.refl _ _⟩
theorem num9_nil (n : Int) (w : World) :
    Calls Try.prog 9 #[.string ⟨#[]⟩, .int .i64 n] w fun e w' => e = .returned (.tuple #[str (numS n), .int .i64 (numE n)]) ∧ Below w.heap.size w w' := num9_all [] n w (by decide)
theorem numE_cases (n : Int) : (numE n = 0 ∧ 0 ≤ n ∧ n ≤ 1099511627776 ∧ numS n = enc n.toNat) ∨ numE n = 1 := by
  unfold numE numS
  by_cases h : 0 ≤ n ∧ n ≤ 1099511627776
  · rw [if_pos h, if_pos h]; exact .inl ⟨rfl, h.1, h.2, rfl⟩
  · rw [if_neg h]; exact .inr rfl
theorem enc_len_int (n : Int) (h0 : 0 ≤ n) (h1 : n ≤ 1099511627776) : (enc n.toNat).length ≤ 6 := enc_le (by unfold most; omega)
theorem begins_iff {sa sb : List UInt8} {a b : Int} (hle : sa.length ≤ sb.length) (ha : sa = enc a.toNat) (hb : sb = enc b.toNat) (he : a.toNat = b.toNat → a = b) : (((⟨sb.toArray⟩ : ByteArray).extract 0 sa.length).toList == sa) = (a == b) := by
  have e : ((⟨sb.toArray⟩ : ByteArray).extract 0 sa.length).toList = sb.take sa.length := by
    rw [ByteArray.toList_eq]
    simp
  rw [e, Bool.eq_iff_iff]
  simp only [beq_iff_eq]
  constructor
  · intro h
    rw [ha, hb] at h
    exact he (enc_begins h)
  · rintro rfl
    rw [ha, hb]; simp
set_option maxRecDepth 100000 in
set_option maxHeartbeats 4000000 in
theorem apart_walk (a b : Int) (w : World) : Calls Try.prog 4 #[.int .i64 a, .int .i64 b] w fun r w' => r = .returned (.bool true) ∧ Below w.heap.size w w' := by
  have hA := numE_cases a
  have hB := numE_cases b
  have na := num9_nil a
  have nb := num9_nil b
  generalize numE a = ea at hA na
  generalize numS a = sa at hA na
  generalize numE b = eb at hB nb
  generalize numS b = sb at hB nb
  rcases hA with ⟨rfl, a0, a1, hsa⟩ | rfl
  · rcases hB with ⟨rfl, b0, b1, hsb⟩ | rfl
    · have la : sa.length ≤ 6 := by rw [hsa]; exact enc_len_int a a0 a1
      have lb : sb.length ≤ 6 := by rw [hsb]; exact enc_len_int b b0 b1
      have HSA := Lib.hid hsa
      have HSB := Lib.hid hsb
      clear hsa hsb
      go_enter Try.func4, Try.ntmps4
      go_wp2_with fail
      refine (awake_any _).mono ?_
      rintro r w1 ⟨rfl, hb1⟩
      go_wp2_with fail
      refine (na _).mono ?_
      rintro r w2 ⟨rfl, hb2⟩
      go_wp2_with fail
      refine (nb _).mono ?_
      rintro r w3 ⟨rfl, hb3⟩
      have HBL := Lib.hid (then_below hb1 (then_below hb2 hb3))
      clear na nb hb1 hb2 hb3
      have HEQ : Hid (a.toNat = b.toNat → a = b) := Lib.hid (by omega)
      by_cases hle : sa.length ≤ sb.length
      · have hx : (((⟨sb.toArray⟩ : ByteArray).extract 0 sa.length).toList == sa) = (a == b) := begins_iff hle HSA.out HSB.out HEQ.out
        go_wp2_with fail
        all_goals
          go_ret
          exact ⟨rfl, HBL.out⟩
      · have hba : b < a := by
          have HM := enc_mono a.toNat b.toNat
          rw [← HSA.out, ← HSB.out] at HM
          omega
        have hne : (a == b) = false := by simp; omega
        have hle' : sb.length < sa.length := by omega
        clear hle
        go_wp2_with fail
        go_ret
        exact ⟨rfl, HBL.out⟩
    · go_enter Try.func4, Try.ntmps4
      go_wp2_with fail
      refine (awake_any _).mono ?_
      rintro r w1 ⟨rfl, hb1⟩
      go_wp2_with fail
      refine (na _).mono ?_
      rintro r w2 ⟨rfl, hb2⟩
      go_wp2_with fail
      refine (nb _).mono ?_
      rintro r w3 ⟨rfl, hb3⟩
      have HBL := Lib.hid (then_below hb1 (then_below hb2 hb3))
      clear na nb hb1 hb2 hb3
      go_wp2_with fail
      go_ret
      exact ⟨rfl, HBL.out⟩
  · go_enter Try.func4, Try.ntmps4
    go_wp2_with fail
    refine (awake_any _).mono ?_
    rintro r w1 ⟨rfl, hb1⟩
    go_wp2_with fail
    refine (na _).mono ?_
    rintro r w2 ⟨rfl, hb2⟩
    go_wp2_with fail
    refine (nb _).mono ?_
    rintro r w3 ⟨rfl, hb3⟩
    have HBL := Lib.hid (then_below hb1 (then_below hb2 hb3))
    clear na nb hb1 hb2 hb3 hB
    go_wp2_with fail
    go_ret
    exact ⟨rfl, HBL.out⟩
end Go.Proofs.Ytimlenapeghknaa
