/-
  A copy of a frame with all its lists; frames that lie apart, and what they read.
-/
import Derived.Test.YtjdhdmljchnidaaRw
import Derived.Test.YtjdhdmljchnidaaOwn2
import Derived.Test.YtjdhdmljchnidaaEach
namespace Go.Proofs.Ytjdhdmljchnidaa
open Go.RowKit
set_option linter.unusedVariables false
set_option linter.unusedSimpArgs false
def lists (P q : Nat) (d : Dat) (i : Nat) (s : SL) (b : World) : Prop :=
  match i with
  | 1 => Rd elM P (q + 2) b.heap.size s d.ms b
  | 2 => Rd elI P (q + 2) b.heap.size s d.fs b
  | 3 => Rws P (q + 2) b.heap.size s d.rs b
  | 4 => Rd elT P (q + 2) b.heap.size s d.cs b
  | _ => Rd elI P (q + 2) b.heap.size s d.ss b
theorem own_deep {P lo hi : Nat} {d : Dat} (f : Fr) (w : World) (h : Deep P lo hi d f w) (hP : P ≤ w.heap.size) :
    Calls Try.prog 31 #[f.val] w fun e w' => ∃ f' : Fr, e = .returned f'.val ∧ Deep P w.heap.size w'.heap.size d f' w' ∧ Below w.heap.size w w' := by
  obtain ⟨k, fa, fi, ta, ti, n, tk, ba, bi, ⟨a1, n1, c1⟩, ⟨a2, n2, c2⟩, ⟨a3, n3, c3⟩, ⟨a4, n4, c4⟩, ⟨a5, n5, c5⟩⟩ := f
  have hL : Lists (lists P w.heap.size d) w ⟨a1, n1, c1⟩ ⟨a2, n2, c2⟩ ⟨a3, n3, c3⟩ ⟨a4, n4, c4⟩ ⟨a5, n5, c5⟩ := by
    refine ⟨?_, ?_, ?_, ?_, ?_, ?_⟩
    · intro i s a b hR hS
      have hb : ∀ k, w.heap.size + 2 ≤ k → k < a.heap.size → b.heap[k]? = a.heap[k]? := fun k h1 h2 => hS.block k h2 (by omega) (by omega)
      unfold lists at hR ⊢
      split at hR
      · exact (hR.same hS.size fun k a _ b _ => hb k a b).wide (Nat.le_refl _) hS.size
      · exact (hR.same hS.size fun k a _ b _ => hb k a b).wide (Nat.le_refl _) hS.size
      · exact (hR.same hS.size fun k a _ b _ => hb k a b).wide (Nat.le_refl _) hS.size
      · exact (hR.same hS.size fun k a _ b _ => hb k a b).wide (Nat.le_refl _) hS.size
      · exact (hR.same hS.size fun k a _ b _ => hb k a b).wide (Nat.le_refl _) hS.size
    · intro a hb hs
      exact (clone_ms _ _ a (h.ms.below hb) h.zms).mono fun e b ⟨s, he, hR, hb⟩ => ⟨s, he, hR.wide hs (Nat.le_refl _), hb⟩
    · intro a hb hs
      exact (clone_ids _ _ a (h.fs.below hb) h.zfs).mono fun e b ⟨s, he, hR, hb⟩ => ⟨s, he, hR.wide hs (Nat.le_refl _), hb⟩
    · intro a hb hs
      exact (rows_own _ _ a (h.rs.below hb) h.zrs (Nat.le_trans hP hb.size)).mono fun e b ⟨s, he, hR, hb⟩ => ⟨s, he, hR.wide hs (Nat.le_refl _), hb⟩
    · intro a hb hs
      exact (clone_ts _ _ a (h.cs.below hb) h.zcs).mono fun e b ⟨s, he, hR, hb⟩ => ⟨s, he, hR.wide hs (Nat.le_refl _), hb⟩
    · intro a hb hs
      exact (clone_ids _ _ a (h.ss.below hb) h.zss).mono fun e b ⟨s, he, hR, hb⟩ => ⟨s, he, hR.wide hs (Nat.le_refl _), hb⟩
  refine (own_any (lists P w.heap.size d) k fa fi ta ti n tk ba bi a1 a2 a3 a4 a5 n1 c1 n2 c2 n3 c3 n4 c4 n5 c5 w hL).mono ?_
  rintro e w' ⟨s1, s2, s3, s4, s5, rfl, h1, h2, h3, h4, h5, hb⟩
  exact ⟨_, rfl, { h with
    ms := h1.wide (by omega) (Nat.le_refl _)
    fs := h2.wide (by omega) (Nat.le_refl _)
    rs := h3.wide (by omega) (Nat.le_refl _)
    cs := h4.wide (by omega) (Nat.le_refl _)
    ss := h5.wide (by omega) (Nat.le_refl _) }, hb⟩
/-! ### Frames that lie apart -/
/-- What one of them reads, and from where till where its lists lie. -/
structure X where
  d : Dat
  lo : Nat
  hi : Nat
structure Bx (P base : Nat) (xs : List X) (l : List Fr) (w : World) : Prop where
  len : l.length = xs.length
  at_ : ∀ j (h1 : j < l.length) (h2 : j < xs.length), Deep P xs[j].lo xs[j].hi xs[j].d l[j] w
  ord : xs.Pairwise (fun x y => x.hi ≤ y.lo)
  lo : ∀ x ∈ xs, base ≤ x.lo
  hi : ∀ x ∈ xs, x.hi ≤ w.heap.size
section
variable {P base : Nat} {xs : List X} {l : List Fr} {w w' : World}
theorem Bx.nil (P base : Nat) (w : World) : Bx P base [] [] w := ⟨rfl, fun j h => by simp at h, List.Pairwise.nil, by simp, by simp⟩
theorem Bx.same (h : Bx P base xs l w) (hs : w.heap.size ≤ w'.heap.size) (hb : ∀ k, base ≤ k → k < w.heap.size → (k < P ∨ Nest k w) → w'.heap[k]? = w.heap[k]?) : Bx P base xs l w' :=
  ⟨h.len, fun j h1 h2 => (h.at_ j h1 h2).same hs fun k a b c e => hb k (Nat.le_trans (h.lo _ (List.getElem_mem h2)) a) c e, h.ord, h.lo, fun x hx => Nat.le_trans (h.hi x hx) hs⟩
theorem Bx.below (h : Bx P base xs l w) (hb : Below w.heap.size w w') : Bx P base xs l w' := h.same hb.size fun k _ hk _ => hb.block k hk
theorem Bx.snoc {d : Dat} {a b : Nat} {f : Fr} (h : Bx P base xs l w) (hf : Deep P a b d f w) (ha : ∀ x ∈ xs, x.hi ≤ a) (hba : base ≤ a) (hb : b ≤ w.heap.size) : Bx P base (xs ++ [⟨d, a, b⟩]) (l ++ [f]) w := by
  refine ⟨by simp [h.len], fun j h1 h2 => ?_, ?_, ?_, ?_⟩
  · by_cases hj : j < xs.length
    · have hj' : j < l.length := by rw [h.len]; exact hj
      rw [List.getElem_append_left hj']
      have := h.at_ j hj' hj
      simpa [List.getElem_append_left hj] using this
    · have e : j = xs.length := by simp at h2; omega
      subst e
      have e1 : (xs ++ [(⟨d, a, b⟩ : X)])[xs.length]'h2 = ⟨d, a, b⟩ := by simp
      have e2 : (l ++ [f])[xs.length]'h1 = f := by
        rw [List.getElem_append_right (by rw [h.len]; exact Nat.le_refl _)]
        simp [h.len]
      rw [e1, e2]
      exact hf
  · rw [List.pairwise_append]
    refine ⟨h.ord, List.pairwise_singleton _ _, fun x hx y hy => ?_⟩
    simp only [List.mem_singleton] at hy
    subst hy
    exact ha x hx
  · intro x hx
    rcases List.mem_append.1 hx with hx | hx
    · exact h.lo x hx
    · simp only [List.mem_singleton] at hx; subst hx; exact hba
  · intro x hx
    rcases List.mem_append.1 hx with hx | hx
    · exact h.hi x hx
    · simp only [List.mem_singleton] at hx; subst hx; exact hb
theorem Bx.erase (h : Bx P base xs l w) (k : Nat) : Bx P base (xs.eraseIdx k) (l.eraseIdx k) w := by
  refine ⟨by simp [List.length_eraseIdx, h.len], fun j h1 h2 => ?_, h.ord.sublist (List.eraseIdx_sublist _ _), fun x hx => h.lo x (List.mem_of_mem_eraseIdx hx), fun x hx => h.hi x (List.mem_of_mem_eraseIdx hx)⟩
  simp only [List.getElem_eraseIdx]
  by_cases hj : j < k
  · simp only [hj, dif_pos]
    exact h.at_ j _ _
  · simp only [hj, dif_neg, not_false_eq_true]
    exact h.at_ (j + 1) _ _
theorem Bx.tail (h : Bx P base xs l w) : Bx P base xs.tail l.tail w := by
  have := h.erase 0
  simpa using this
end
end Go.Proofs.Ytjdhdmljchnidaa
