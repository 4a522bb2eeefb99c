/-
  The walk of spoil: what a frame of the call's own has is written over; nothing else turns.
-/
import Derived.Test.YtjdhdmljchnidaaCopied
namespace Go.Proofs.Ytjdhdmljchnidaa
open Go.RowKit
set_option linter.unusedVariables false
set_option linter.unusedSimpArgs false
attribute [local go_sem ↓] Go.wp_at_zero Go.wp_at_succ
theorem copied_of {P lo hi : Nat} (d : Dat) (f : Fr) (w : World) (h : Deep P lo hi d f w) (hhi : hi ≤ w.heap.size) (hP : P ≤ w.heap.size) :
    Calls Try.prog 24 #[f.val] w fun e w' => ∃ f' : Fr, e = .returned f'.val ∧ Deep P w.heap.size w'.heap.size d f' w' ∧ Below w.heap.size w w' := by
  obtain ⟨k, fa, fi, ta, ti, n, tk, ba, bi, ⟨a1, n1, c1⟩, ⟨a2, n2, c2⟩, ⟨a3, n3, c3⟩, ⟨a4, n4, c4⟩, ⟨a5, n5, c5⟩⟩ := f
  refine (copied_deep d k fa fi ta ti n tk ba bi a1 a2 a3 a4 a5 n1 c1 n2 c2 n3 c3 n4 c4 n5 c5 w hhi hP h.ms h.fs h.rs h.cs h.ss h.zms h.zfs h.zrs h.zcs h.zss).mono ?_
  rintro e w' ⟨s1, s2, s3, s4, s5, rfl, r1, r2, r3, r4, r5, hb⟩
  exact ⟨⟨k, fa, fi, ta, ti, n, tk, ba, bi, s1, s2, s3, s4, s5⟩, rfl, { h with ms := r1, fs := r2, rs := r3, cs := r4, ss := r5 }, hb⟩
/-! ### What is written over -/
/-- Only lists' blocks from lo to hi have turned; each is of its type still, and its size; the rows' lists lie where they lay. -/
structure Over (lo hi : Nat) (w w' : World) : Prop where
  os : w'.os = w.os
  tape : w'.tape = w.tape
  output : w'.output = w.output
  size : w.heap.size ≤ w'.heap.size
  block : ∀ k, k < w.heap.size → ¬ (lo ≤ k ∧ k < hi ∧ Nest k w) → w'.heap[k]? = w.heap[k]?
  tag : ∀ k, k < w.heap.size → ∀ e, Of e k w → Of e k w'
theorem Over.refl (lo hi : Nat) (w : World) : Over lo hi w w := ⟨rfl, rfl, rfl, Nat.le_refl _, fun _ _ _ => rfl, fun _ _ _ h => h⟩
theorem Over.of_below {lo hi : Nat} {w w' : World} (h : Below w.heap.size w w') : Over lo hi w w' :=
  ⟨h.os, h.tape, h.output, h.size, fun k hk _ => h.block k hk, fun k hk e ⟨c, hc⟩ => ⟨c, (h.block k hk).trans hc⟩⟩
/-- A store into a list's block. -/
theorem Over.setCell {lo hi : Nat} {w w' : World} (h : Over lo hi w w') {g j : Nat} (h1 : lo ≤ g) (h2 : g < hi) (h3 : g < w.heap.size → Nest g w) (x : Value) : Over lo hi w (w'.setCell ⟨g, j, none⟩ x) := by
  refine ⟨h.os, h.tape, h.output, by simp only [World.setCell, Array.size_modify]; exact h.size, fun k hk hn => ?_, fun k hk e he => ?_⟩
  · by_cases e : k = g
    · subst e; exact absurd ⟨h1, h2, h3 hk⟩ hn
    · rw [Below.heap_setCell _ _ _ _ e]; exact h.block k hk hn
  · obtain ⟨c, hc⟩ := h.tag k hk e he
    by_cases e2 : k = g
    · subst e2
      exact ⟨_, heap_setCell_same _ _ _ _ _ _ hc⟩
    · exact ⟨c, (Below.heap_setCell _ _ _ _ e2).trans hc⟩
/-- A frame that lies apart reads as it did. -/
theorem Deep.over {P lo hi a b : Nat} {d : Dat} {f : Fr} {w w' : World} (h : Deep P a b d f w) (ho : Over lo hi w w') (hoff : b ≤ lo ∨ hi ≤ a) : Deep P a b d f w' :=
  h.same ho.size fun k h1 h2 h3 _ => ho.block k h3 (by omega)
theorem Bx.over {P base lo hi : Nat} {xs : List X} {l : List Fr} {w w' : World} (h : Bx P base xs l w) (ho : Over lo hi w w') (hoff : Off lo hi xs) : Bx P base xs l w' :=
  ⟨h.len, fun j h1 h2 => (h.at_ j h1 h2).over ho (hoff _ (List.getElem_mem h2)), h.ord, h.lo, fun x hx => Nat.le_trans (h.hi x hx) ho.size⟩
theorem Nt.over {P B lo hi : Nat} {v : Value} {n : N} {w w' : World} (h : Nt P B v n w) (ho : Over lo hi w w') : Nt P B v n w' := by
  refine ⟨(ho.block _ h.lt ?_).trans h.here, ⟨h.row.1, ?_⟩, h.ne, h.ok, h.pB⟩
  · rintro ⟨-, -, hn⟩
    have hh := h.here
    rcases hn with ⟨c, hn⟩ | ⟨c, hn⟩ | ⟨c, hn⟩ | ⟨c, hn⟩ <;> (rw [hn] at hh; simp at hh)
  · rcases h.row.2 with hn | ⟨g, cap, cur, rfl, hb, hgg, rest⟩
    · exact .inl hn
    · refine .inr ⟨g, cap, cur, rfl, hb, (ho.block _ (Array.getElem?_eq_some_iff.1 hgg).1 ?_).trans hgg, rest⟩
      rintro ⟨-, -, hn⟩
      rcases hn with ⟨c, hn⟩ | ⟨c, hn⟩ | ⟨c, hn⟩ | ⟨c, hn⟩ <;> (rw [hn] at hgg; simp at hgg)
end Go.Proofs.Ytjdhdmljchnidaa
