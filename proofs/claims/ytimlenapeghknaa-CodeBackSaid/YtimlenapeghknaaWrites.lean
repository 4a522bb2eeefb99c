/-
  The walk of the law CodeWrites.
-/
import Derived.Test.YtimlenapeghknaaApart
import Derived.Test.YtimlenapeghknaaCopy
namespace Go.Proofs.Ytimlenapeghknaa
open Go.RowKit
set_option linter.unusedVariables false
set_option linter.unusedSimpArgs false
attribute [local go_sem ↓] Go.wp_at_zero Go.wp_at_succ
theorem num10_all (l : List UInt8) (n : Int) (w : World) (hs : l.length ≤ 50000) :
    Calls Try.prog 10 #[str l, .int .i64 n] w fun e w' => e = .returned (.tuple #[str (l ++ numS n), .int .i64 (numE n)]) ∧ Below w.heap.size w w' := by
  by_cases h : 0 ≤ n ∧ n ≤ 1099511627776
  · have := num10_int l n w h.1 h.2 hs
    simp only [numS, numE, if_pos h]
    exact this
  · have hn : n < 0 ∨ 1099511627776 < n := by omega
    simp only [numS, numE, if_neg h, List.append_nil]
    exact (ref_no l n w hn).mono fun e w' ⟨h1, h2⟩ => ⟨h1, by subst h2; exact Below.refl _ _⟩
/-- What writing an ID gives, and a list. -/
def idS (l : List UInt8) (x : Idn) : List UInt8 := if x.may = true then l ++ encId x else l
def idE (x : Idn) : Int := if x.may = true then 0 else 4
def idsS (s : List UInt8) (l : List Idn) : List UInt8 := if 64 < l.length then s else if rise l = true then s ++ encIds l else s
def idsE (l : List Idn) : Int := if 64 < l.length then 40 else if rise l = true then 0 else 4
theorem id11_all (l : List UInt8) (x : Idn) (w : World) (hs : l.length ≤ 49000) :
    Calls Try.prog 11 #[str l, .agg #[.int .i64 x.a, .int .i64 x.i]] w fun e w' => e = .returned (.tuple #[str (idS l x), .int .i64 (idE x)]) ∧ Below w.heap.size w w' :=
  (id11 l x w hs).mono fun e w' ⟨h1, h2⟩ => ⟨by rw [h1]; unfold idS idE; split <;> rfl, h2⟩
theorem id12_all (l : List UInt8) (x : Idn) (w : World) (hs : l.length ≤ 49000) :
    Calls Try.prog 12 #[str l, .agg #[.int .i64 x.a, .int .i64 x.i]] w fun e w' => e = .returned (.tuple #[str (idS l x), .int .i64 (idE x)]) ∧ Below w.heap.size w w' :=
  (id12 l x w hs).mono fun e w' ⟨h1, h2⟩ => ⟨by rw [h1]; unfold idS idE; split <;> rfl, h2⟩
theorem ids13_all (s : List UInt8) (oa : Option Addr) (cap : Nat) (l : List Idn) (w : World) (hl : Row oa l w) (hs : s.length ≤ 40000) :
    Calls Try.prog 13 #[str s, .slice oa l.length cap] w fun e w' => e = .returned (.tuple #[str (idsS s l), .int .i64 (idsE l)]) ∧ Below w.heap.size w w' :=
  (ids13 s oa cap l w hl hs).mono fun e w' ⟨h1, h2⟩ => ⟨by rw [h1]; unfold idsS idsE; split <;> (try split) <;> rfl, h2⟩
theorem ids14_all (s : List UInt8) (oa : Option Addr) (cap : Nat) (l : List Idn) (w : World) (hl : Row oa l w) (hs : s.length ≤ 40000) :
    Calls Try.prog 14 #[str s, .slice oa l.length cap] w fun e w' => e = .returned (.tuple #[str (idsS s l), .int .i64 (idsE l)]) ∧ Below w.heap.size w w' :=
  (ids14 s oa cap l w hl hs).mono fun e w' ⟨h1, h2⟩ => ⟨by rw [h1]; unfold idsS idsE; split <;> (try split) <;> rfl, h2⟩
theorem strs_beq (l : List UInt8) : ((⟨l.toArray⟩ : ByteArray).toList == (⟨l.toArray⟩ : ByteArray).toList) = true := by simp
set_option maxRecDepth 100000 in
set_option maxHeartbeats 8000000 in
theorem writes_walk (s : ByteArray) (n : Int) (x : Idn) (oa : Option Addr) (cap : Nat) (l : List Idn) (w : World) (hl : Idn.Holds w (.slice oa l.length cap) l) :
    Calls Try.prog 3 #[.string s, .int .i64 n, .agg #[.int .i64 x.a, .int .i64 x.i], .slice oa l.length cap] w fun r w' => r = .returned (.bool true) ∧ Below w.heap.size w w' := by
  by_cases h1 : s.size ≤ 2000
  · by_cases h2 : l.length ≤ 200
    · have hR : Row oa l w := hl.row (by omega)
      obtain ⟨t, ht⟩ : ∃ t, t = s.data.toList := ⟨_, rfl⟩
      have hst : s = ⟨t.toArray⟩ := by rw [ht, Array.toArray_toList]
      have htl : t.length ≤ 2000 := by rw [ht]; simpa using h1
      subst hst
      clear ht h1
      go_enter Try.func3, Try.ntmps3
      go_wp2_with fail
      refine (num9_all t n _ (by omega)).mono ?_
      rintro r w1 ⟨rfl, hb1⟩
      have y0 : w1.cell? ⟨w.heap.size, 0, none⟩ = some (.int .i64 x.a) := (hb1.cell (p := ⟨w.heap.size, 0, none⟩) (by simp)).trans (by simp)
      have y1 : w1.cell? ⟨w.heap.size, 1, none⟩ = some (.int .i64 x.i) := (hb1.cell (p := ⟨w.heap.size, 1, none⟩) (by simp)).trans (by simp)
      have hz : w.heap.size < w1.heap.size := by have := hb1.size; simp at this; omega
      have HB1 := Lib.hid (((Below.refl _ w).alloc (Nat.le_refl _) (.cells #[.int .i64 x.a, .int .i64 x.i] 23)).trans (hb1.mono (by simp)))
      clear hb1
      go_wp2_with fail
      refine (num10_all t n _ (by omega)).mono ?_
      rintro r w2 ⟨rfl, hb2⟩
      have y0 := (hb2.cell (p := ⟨w.heap.size, 0, none⟩) hz).trans y0
      have y1 := (hb2.cell (p := ⟨w.heap.size, 1, none⟩) hz).trans y1
      have hz := Nat.lt_of_lt_of_le hz hb2.size
      have HB2 := Lib.hid (then_below HB1.out hb2)
      clear hb2 HB1
      go_wp2_with fail
      refine (id11_all t x _ (by omega)).mono ?_
      rintro r w3 ⟨rfl, hb3⟩
      have y0 := (hb3.cell (p := ⟨w.heap.size, 0, none⟩) hz).trans y0
      have y1 := (hb3.cell (p := ⟨w.heap.size, 1, none⟩) hz).trans y1
      have hz := Nat.lt_of_lt_of_le hz hb3.size
      have HB3 := Lib.hid (then_below HB2.out hb3)
      clear hb3 HB2
      go_wp2_with fail
      refine (id12_all t x _ (by omega)).mono ?_
      rintro r w4 ⟨rfl, hb4⟩
      have HB4 := Lib.hid (then_below HB3.out hb4)
      clear hb4 HB3 y0 y1 hz
      generalize numS n = ns
      generalize numE n = ne
      generalize idS t x = is
      generalize idE x = ie
      have hR4 := hR.below HB4.out
      go_wp2_with (first | (at_builtin; refine wpList_copy_ids rfl _ _ rfl oa cap l w4 rfl rfl rfl hR4 (by omega) ?_; intro ob cap' w5 hR5 hb5) | fail)
      have HB5 := Lib.hid (then_below HB4.out hb5)
      clear hb5 HB4
      refine (ids13_all t ob cap' l _ hR5 (by omega)).mono ?_
      rintro r w6 ⟨rfl, hb6⟩
      have HB6 := Lib.hid (then_below HB5.out hb6)
      have hR6 := hR5.below hb6
      clear hb6 HB5 hR5 hR4
      go_wp2_with fail
      refine (ids14_all t oa cap l _ (hR.below HB6.out) (by omega)).mono ?_
      rintro r w7 ⟨rfl, hb7⟩
      have HB7 := Lib.hid (then_below HB6.out hb7)
      have hR7 := hR6.below hb7
      clear hb7 HB6 hR6
      generalize idsS t l = iss
      generalize idsE l = ise
      go_wp2_with fail
      refine (same_any ob oa cap' cap l l _ hR7 (hR.below HB7.out)).mono ?_
      rintro r w8 ⟨rfl, hb8⟩
      have HB8 := Lib.hid (then_below HB7.out hb8)
      clear hb8 HB7 hR7
      rw [show decide (l = l) = true by simp]
      go_wp2_with fail
      refine (awake_any _).mono ?_
      rintro r w9 ⟨rfl, hb9⟩
      have HB9 := Lib.hid (then_below HB8.out hb9)
      clear hb9 HB8
      go_wp2_with fail
      go_ret
      exact ⟨rfl, HB9.out⟩
    · go_enter Try.func3, Try.ntmps3
      go_wp2_with fail
      refine (awake_any _).mono ?_
      rintro r w1 ⟨rfl, hb1⟩
      go_wp2_with fail
      go_ret
      exact ⟨rfl, ((Below.refl _ w).alloc (Nat.le_refl _) _).trans (hb1.mono (by simp))⟩
  · go_enter Try.func3, Try.ntmps3
    go_wp2_with fail
    refine (awake_any _).mono ?_
    rintro r w1 ⟨rfl, hb1⟩
    go_wp2_with fail
    go_ret
    exact ⟨rfl, ((Below.refl _ w).alloc (Nat.le_refl _) _).trans (hb1.mono (by simp))⟩
end Go.Proofs.Ytimlenapeghknaa
