/-
  What is done to one frame leaves the others: in plain words.
-/
import Derived.Test.YtialfpmfiapepaaLarge
namespace Go.Proofs.Ytialfpmfiapepaa
open Go.RowKit
set_option linter.unusedVariables false
set_option linter.unusedSimpArgs false
theorem N.get_nat {n : N} {k : Nat} (hk : k < n.l.length) : n.has k = true ∧ n.get k = n.l[k] := by
  have hh : n.has (k : Int) = true := by simp [N.has, hk]
  refine ⟨hh, ?_⟩
  obtain ⟨h, e⟩ := N.get_of hh
  rw [e]; rfl
/-- The same text and address stand at another place. -/
def Stays (n n' : N) (k : Nat) (p : Int) : Prop := n'.has p = true ∧ (n'.get p).s = (n.get k).s ∧ (n'.get p).to = (n.get k).to
theorem Stays.same (n : N) (k : Nat) (hk : k < n.l.length) : Stays n n k k := ⟨(N.get_nat hk).1, rfl, rfl⟩
theorem Stays.push_room {n : N} {k : Nat} (u : U) (hk : k < n.l.length) (hf : n.full = false) : Stays n (n.push u) k k := by
  have hf' : ¬ (n.l.length : Int) = n.max := by simpa [N.full] using hf
  have hp : n.push u = ⟨n.max, n.l ++ [u]⟩ := by unfold N.push; rw [if_neg hf']
  have h2 : k < (n.push u).l.length := by rw [hp]; simp; omega
  obtain ⟨a, b⟩ := N.get_nat h2
  obtain ⟨c, d⟩ := N.get_nat hk
  refine ⟨a, ?_, ?_⟩ <;> rw [b, d] <;> simp [hp, List.getElem_append, hk]
theorem Stays.push_full {n : N} {k : Nat} (u : U) (hk : k < n.l.length) (h0 : 0 < k) (hf : n.full = true) : Stays n (n.push u) k ((k : Int) - 1) := by
  have hf' : (n.l.length : Int) = n.max := by simpa [N.full] using hf
  have hp : n.push u = ⟨n.max, n.l.tail ++ [u]⟩ := by unfold N.push; rw [if_pos hf']
  obtain ⟨j, rfl⟩ : ∃ j, k = j + 1 := ⟨k - 1, by omega⟩
  have e : ((j + 1 : Nat) : Int) - 1 = (j : Int) := by omega
  rw [e]
  have h2 : j < (n.push u).l.length := by rw [hp]; simp; omega
  obtain ⟨a, b⟩ := N.get_nat h2
  obtain ⟨c, d⟩ := N.get_nat hk
  have hj : j < n.l.tail.length := by simp; omega
  have hj' : j < n.l.length - 1 := by omega
  refine ⟨a, ?_, ?_⟩ <;> rw [b, d] <;> simp [hp, List.getElem_append, hj']
theorem Stays.lose_before {n : N} {k : Nat} (j : Int) (hk : k < n.l.length) (hj : (k : Int) < j) : Stays n (n.lose j) k k := by
  cases hh : n.has j
  · rw [N.lose_out hh]; exact Stays.same n k hk
  · have hjl : 0 ≤ j ∧ j < n.l.length := by simpa [N.has] using hh
    have hp : n.lose j = ⟨n.max, n.l.eraseIdx j.toNat⟩ := by unfold N.lose; rw [if_pos hh]
    have h2 : k < (n.lose j).l.length := by rw [hp]; simp only [List.length_eraseIdx]; split <;> omega
    obtain ⟨a, b⟩ := N.get_nat h2
    obtain ⟨c, d⟩ := N.get_nat hk
    refine ⟨a, ?_, ?_⟩ <;> rw [b, d] <;> simp only [hp] <;> rw [List.getElem_eraseIdx_of_lt (h' := by omega)]
theorem Stays.lose_after {n : N} {k : Nat} (j : Int) (hk : k < n.l.length) (hh : n.has j = true) (hj : j < (k : Int)) : Stays n (n.lose j) k ((k : Int) - 1) := by
  have hjl : 0 ≤ j ∧ j < n.l.length := by simpa [N.has] using hh
  obtain ⟨m, rfl⟩ : ∃ m, k = m + 1 := ⟨k - 1, by omega⟩
  have e : ((m + 1 : Nat) : Int) - 1 = (m : Int) := by omega
  rw [e]
  have hp : n.lose j = ⟨n.max, n.l.eraseIdx j.toNat⟩ := by unfold N.lose; rw [if_pos hh]
  have h2 : m < (n.lose j).l.length := by rw [hp]; simp only [List.length_eraseIdx]; split <;> omega
  obtain ⟨a, b⟩ := N.get_nat h2
  obtain ⟨c, d⟩ := N.get_nat hk
  refine ⟨a, ?_, ?_⟩ <;> rw [b, d] <;> simp only [hp] <;> rw [List.getElem_eraseIdx_of_ge (h' := by omega)]
theorem Stays.bend {n : N} {k : Nat} (j a : Int) (x : BitVec 32) (hk : k < n.l.length) (hj : (k : Int) ≠ j) : Stays n (n.bend j a x) k k := by
  cases hh : n.has j
  · have : n.bend j a x = n := N.put_out hh _
    rw [this]; exact Stays.same n k hk
  · have hjl : 0 ≤ j ∧ j < n.l.length := by simpa [N.has] using hh
    have hp : n.bend j a x = ⟨n.max, n.l.set j.toNat ((n.get j).bend a x)⟩ := by unfold N.bend N.put; rw [if_pos hh]
    have h2 : k < (n.bend j a x).l.length := by rw [hp]; simpa using hk
    obtain ⟨a', b⟩ := N.get_nat h2
    obtain ⟨c, d⟩ := N.get_nat hk
    have hne : j.toNat ≠ k := by omega
    refine ⟨a', ?_, ?_⟩ <;> rw [b, d] <;> simp [hp, List.getElem_set, hne]
end Go.Proofs.Ytialfpmfiapepaa
