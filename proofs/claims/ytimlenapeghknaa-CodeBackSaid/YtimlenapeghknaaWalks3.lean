/-
  The walks of what writes an ID.
-/
import Derived.Test.YtimlenapeghknaaWalks2
namespace Go.Proofs.Ytimlenapeghknaa
open Go.RowKit
set_option linter.unusedVariables false
set_option linter.unusedSimpArgs false
attribute [local go_sem ↓] Go.wp_at_zero Go.wp_at_succ
theorem of_list (s : ByteArray) : Value.string s = str s.data.toList := by
  show Value.string s = .string ⟨s.data.toList.toArray⟩
  rw [Array.toArray_toList]
theorem toList_str (l : List UInt8) : (⟨l.toArray⟩ : ByteArray).data.toList = l := by simp
theorem size_str (l : List UInt8) : (⟨l.toArray⟩ : ByteArray).size = l.length := by simp [ByteArray.size]
theorem num9 (l : List UInt8) (n : Nat) (w : World) (h : n ≤ most) (hs : l.length ≤ 50000) :
    Calls Try.prog 9 #[str l, .int .i64 n] w fun e w' => e = .returned (.tuple #[str (l ++ enc n), .int .i64 0]) ∧ Below w.heap.size w w' := by
  have := num_any ⟨l.toArray⟩ n w h (by rw [size_str]; exact hs)
  rw [toList_str] at this
  exact this
theorem num9_int (l : List UInt8) (n : Int) (w : World) (h0 : 0 ≤ n) (h : n ≤ 1099511627776) (hs : l.length ≤ 50000) :
    Calls Try.prog 9 #[str l, .int .i64 n] w fun e w' => e = .returned (.tuple #[str (l ++ enc n.toNat), .int .i64 0]) ∧ Below w.heap.size w w' := by
  have := num9 l n.toNat w (by unfold most; omega) hs
  rwa [show ((n.toNat : Nat) : Int) = n by omega] at this
set_option maxRecDepth 100000 in
set_option maxHeartbeats 1000000 in
theorem id11 (l : List UInt8) (x : Idn) (w : World) (hs : l.length ≤ 49000) :
    Calls Try.prog 11 #[str l, .agg #[.int .i64 x.a, .int .i64 x.i]] w fun e w' => e = .returned (if x.may = true then .tuple #[str (l ++ encId x), .int .i64 0] else .tuple #[str l, .int .i64 4]) ∧ Below w.heap.size w w' := by
  cases hm : x.may
  · go_enter Try.func11, Try.ntmps11
    go_wp2_with fail
    refine (may22 x.a x.i _).mono ?_
    rintro e w1 ⟨rfl, hb1⟩
    rw [show mayB x.a x.i = false from hm]
    go_wp2_with fail
    go_ret2
    exact ⟨rfl, ((Below.refl _ w).alloc (Nat.le_refl _) _).trans (hb1.mono (by simp))⟩
  · have hx := (x.may_iff).1 hm
    go_enter Try.func11, Try.ntmps11
    go_wp2_with fail
    refine (may22 x.a x.i _).mono ?_
    rintro e w1 ⟨rfl, hb1⟩
    rw [show mayB x.a x.i = true from hm]
    have hc1 := fun (b o : Nat) (h : b < _) => hb1.cell (p := ⟨b, o, none⟩) h
    go_wp2_with fail
    refine (num9_int l x.a _ (by omega) (by omega) (by omega)).mono ?_
    rintro e w2 ⟨rfl, hb2⟩
    have hc2 := fun (b o : Nat) (h : b < _) => hb2.cell (p := ⟨b, o, none⟩) h
    have hz1 : w.heap.size < w1.heap.size := by have := hb1.size; simp at this; omega
    go_wp2_with fail
    have hsix := enc_le (n := x.a.toNat) (by unfold most; omega)
    refine (num9_int (l ++ enc x.a.toNat) x.i _ (by omega) (by omega) (by rw [List.length_append]; omega)).mono ?_
    rintro e w3 ⟨rfl, hb3⟩
    go_wp2_with fail
    go_ret2
    refine ⟨by simp [encId], ?_⟩
    have b2 := then_below hb1 hb2
    have b3 := then_below b2 hb3
    exact ((Below.refl _ w).alloc (Nat.le_refl _) _).trans (b3.mono (by simp))
end Go.Proofs.Ytimlenapeghknaa
