/-
  What Bend makes of bytes, in plain words.
-/
import Derived.Test.YtdiigplcpalepaaPlain
namespace Go.Proofs.Ytdiigplcpalepaa.Crc

/-- Byte k of a number of 32 bits. -/
def nthByte (x : BitVec 32) (k : Nat) : UInt8 := UInt8.ofNat (x.toNat / 2 ^ (8 * k) % 256)
/-- The byte that stands at place i behind the bending, where a number is put in from place a on. -/
def bendAt (a : Int) (x : BitVec 32) (i : Nat) (c : UInt8) : UInt8 :=
  if a ≤ (i : Int) ∧ (i : Int) < a + 4 then c ^^^ nthByte x ((i : Int) - a).toNat else c
def bend (s : List UInt8) (a : Int) (x : BitVec 32) : List UInt8 := s.mapIdx (bendAt a x)
/-- Bent as far as the first k of the four places. -/
def bendTo (s : List UInt8) (a : Int) (x : BitVec 32) (k : Nat) : List UInt8 :=
  s.mapIdx fun i c => if a ≤ (i : Int) ∧ (i : Int) < a + k then c ^^^ nthByte x ((i : Int) - a).toNat else c
theorem bendTo_length (s : List UInt8) (a : Int) (x : BitVec 32) (k : Nat) : (bendTo s a x k).length = s.length := by simp [bendTo]
theorem bend_length (s : List UInt8) (a : Int) (x : BitVec 32) : (bend s a x).length = s.length := by simp [bend]
theorem bendTo_four (s : List UInt8) (a : Int) (x : BitVec 32) : bendTo s a x 4 = bend s a x := rfl
theorem bendTo_zero (s : List UInt8) (a : Int) (x : BitVec 32) : bendTo s a x 0 = s := by
  apply List.ext_getElem
  · simp [bendTo]
  · intro i h1 h2
    simp only [bendTo, List.getElem_mapIdx]
    rw [if_neg (by omega)]
theorem bendTo_out (s : List UInt8) (a : Int) (x : BitVec 32) (k : Nat) (h : ¬ (0 ≤ a + k ∧ a + k < s.length)) : bendTo s a x (k + 1) = bendTo s a x k := by
  apply List.ext_getElem
  · simp [bendTo]
  · intro i h1 h2
    simp only [bendTo, List.length_mapIdx] at h1
    simp only [bendTo, List.getElem_mapIdx]
    by_cases e : a ≤ (i : Int) ∧ (i : Int) < a + k
    · rw [if_pos e, if_pos (by omega)]
    · rw [if_neg e, if_neg (by omega)]
theorem bendTo_in (s : List UInt8) (a : Int) (x : BitVec 32) (k m : Nat) (h : a + k = m) :
    bendTo s a x (k + 1) = (bendTo s a x k).set m ((bendTo s a x k).getD m 0 ^^^ nthByte x k) := by
  apply List.ext_getElem
  · simp [bendTo]
  · intro i h1 h2
    simp only [bendTo, List.length_mapIdx] at h1
    rw [List.getElem_set]
    by_cases e : m = i
    · subst e
      have e2 : (bendTo s a x k).getD m 0 = s[m] := by
        rw [List.getD_eq_getElem?_getD, List.getElem?_eq_getElem (by rw [bendTo_length]; exact h1)]
        simp only [bendTo, List.getElem_mapIdx, Option.getD_some]
        rw [if_neg (by omega)]
      rw [if_pos rfl, e2]
      simp only [bendTo, List.getElem_mapIdx]
      rw [if_pos (by omega)]
      congr 2
      omega
    · rw [if_neg e]
      simp only [bendTo, List.getElem_mapIdx]
      by_cases e2 : a ≤ (i : Int) ∧ (i : Int) < a + k
      · rw [if_pos e2, if_pos (by omega)]
      · rw [if_neg e2, if_neg (by omega)]
theorem bend_getD (s : List UInt8) (a : Int) (x : BitVec 32) (i : Nat) (h : i < s.length) : (bend s a x)[i]? = some (bendAt a x i s[i]) := by
  simp [bend, h]
/-- Outside of the four places nothing has turned. -/
theorem bendAt_out (a : Int) (x : BitVec 32) (i : Nat) (c : UInt8) (h : ¬ (a ≤ (i : Int) ∧ (i : Int) < a + 4)) : bendAt a x i c = c := if_neg h
theorem bendAt_twice (a : Int) (x : BitVec 32) (i : Nat) (c : UInt8) : bendAt a x i (bendAt a x i c) = c := by
  unfold bendAt
  split
  · rw [UInt8.xor_assoc, UInt8.xor_self, UInt8.xor_zero]
  · rfl
theorem bendAt_comm (a b : Int) (x y : BitVec 32) (i : Nat) (c : UInt8) : bendAt b y i (bendAt a x i c) = bendAt a x i (bendAt b y i c) := by
  unfold bendAt
  split <;> split <;> first | rfl | rw [UInt8.xor_assoc, UInt8.xor_assoc, UInt8.xor_comm (nthByte x _)]
theorem bend_twice (s : List UInt8) (a : Int) (x : BitVec 32) : bend (bend s a x) a x = s := by
  apply List.ext_getElem
  · simp [bend]
  · intro i h1 h2
    simp [bend, bendAt_twice]
theorem bend_comm (s : List UInt8) (a b : Int) (x y : BitVec 32) : bend (bend s a x) b y = bend (bend s b y) a x := by
  apply List.ext_getElem
  · simp [bend]
  · intro i h1 h2
    simp only [bend, List.getElem_mapIdx]
    exact bendAt_comm a b x y i _
/-- What is bent is cut in three: ahead of the four places, they, behind them. -/
theorem bend_sum (s : List UInt8) (a : Int) (x : BitVec 32) (h : sum (bend s a x) = sum s) : bend s a x = s := by
  -- the four places begin at lo
  have key : ∀ lo : Nat, (∀ i : Nat, i < s.length → ¬ (lo ≤ i ∧ i < lo + 4) → ¬ (a ≤ (i : Int) ∧ (i : Int) < a + 4)) → bend s a x = s := by
    intro lo hlo
    have cut : ∀ t : List UInt8, t = t.take lo ++ (t.drop lo).take 4 ++ t.drop (lo + 4) := by
      intro t
      rw [← List.take_add, List.take_append_drop]
    have e1 : (bend s a x).take lo = s.take lo := by
      apply List.ext_getElem
      · simp [bend]
      · intro i h1 h2
        simp only [List.length_take] at h2
        simp only [List.getElem_take, bend, List.getElem_mapIdx]
        exact bendAt_out _ _ _ _ (hlo i (by omega) (by omega))
    have e2 : (bend s a x).drop (lo + 4) = s.drop (lo + 4) := by
      apply List.ext_getElem
      · simp [bend]
      · intro i h1 h2
        simp only [List.length_drop] at h2
        simp only [List.getElem_drop, bend, List.getElem_mapIdx]
        exact bendAt_out _ _ _ _ (hlo _ (by omega) (by omega))
    have c1 := cut (bend s a x)
    have c2 := cut s
    rw [e1, e2] at c1
    have h' : sum (s.take lo ++ ((bend s a x).drop lo).take 4 ++ s.drop (lo + 4)) = sum (s.take lo ++ (s.drop lo).take 4 ++ s.drop (lo + 4)) := by
      rw [← c1, ← c2]; exact h
    have h2 := window_sum (s.take lo) _ _ (s.drop (lo + 4)) ?_ ?_ h'
    · rw [c1, h2, ← c2]
    · simp [bend]
    · simp; omega
  by_cases ha : 0 ≤ a
  · exact key a.toNat (fun i _ hi => by omega)
  · exact key 0 (fun i _ hi => by omega)
end Go.Proofs.Ytdiigplcpalepaa.Crc
