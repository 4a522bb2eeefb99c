/-
  A net, the document's net, and a box of a step, side by side.
-/
import Derived.Test.YtialfpmfiapepaaRefBendN
import Derived.Test.YtialfpmfiapepaaWorks
import Derived.Test.YtialfpmfiapepaaLarge
namespace Go.Proofs.Ytialfpmfiapepaa
open Go.RowKit
set_option linter.unusedVariables false
set_option linter.unusedSimpArgs false
theorem far {w : World} {k j t t' : Nat} {c c' : Array Value} {z z' : Nat × Nat} (h : w.heap[k]? = some (.cells c t z)) (h' : w.heap[j]? = some (.cells c' t' z')) (ht : t ≠ t') : k ≠ j := by
  rintro rfl
  rw [h] at h'
  simp only [Option.some.injEq, Obj.cells.injEq] at h'
  exact ht h'.2.1
theorem Nt.far {P B : Nat} {v : Value} {n : N} {w : World} {k t : Nat} {c : Array Value} {z : Nat × Nat} (h : Nt P B v n w) (hk : w.heap[k]? = some (.cells c t z)) (ht : t ≠ 65) : v.ownBlock ≠ some k := by
  intro e
  rcases h.row.2 with ⟨rfl, -⟩ | ⟨g, cap, cur, rfl, -, hg, -⟩
  · simp [Value.ownBlock] at e
  · simp only [Value.ownBlock, Option.some.injEq] at e
    exact Go.Proofs.Ytialfpmfiapepaa.far hk hg ht e.symm
theorem Nt.up {P P' B : Nat} {v : Value} {n : N} {w : World} (h : Nt P B v n w) (hB : P' ≤ B) (hv : ∀ k, v.ownBlock = some k → P' ≤ k) : Nt P' B v n w := by
  refine ⟨h.here, ⟨h.row.1, ?_⟩, h.ne, h.ok, hB⟩
  rcases h.row.2 with hn | ⟨g, cap, cur, rfl, hb, hgg, rest⟩
  · exact .inl hn
  · exact .inr ⟨g, cap, cur, rfl, hv g rfl, hgg, rest⟩
theorem Rd.turn {P R : Nat} {v : Value} {l : List U} {w w' : World} (h : Rd P R v l w) (hs : w.heap.size ≤ w'.heap.size) (hb : ∀ k, k < w.heap.size → Of53 k w → w'.heap[k]? = w.heap[k]?) : Rd P R v l w' := by
  obtain ⟨oa, c, e, h1, h2, h3⟩ := h
  refine ⟨oa, c, e, h1, h2, ?_⟩
  rcases h3 with h3 | ⟨b, off, e2, hP, hlt, hR, ht, hc⟩
  · exact .inl h3
  · have hq := hb b hlt ht
    exact .inr ⟨b, off, e2, hP, Nat.lt_of_lt_of_le hlt hs, hR, (by obtain ⟨cur, fz, e⟩ := ht; exact ⟨cur, fz, hq.trans e⟩), fun j u hj => (World.cell?_of_block (a := ⟨b, off + j, none⟩) hq).trans (hc j u hj)⟩
/-- The three, side by side. -/
structure Tr (B R X : Nat) (v v' : Value) (n m : N) (c : Array Value) (W w : World) : Prop where
  hs : Hs B v n W w
  doc : Doc W.heap.size R v' m w
  box : w.heap[X]? = some (.cells c 32 (0, 0))
section
variable {B R X : Nat} {v v' : Value} {n m k : N} {c : Array Value} {W w w' : World}
theorem Tr.xl (h : Tr B R X v v' n m c W w) : X < w.heap.size := (Array.getElem?_eq_some_iff.1 h.box).1
theorem Tr.kept (h : Tr B R X v v' n m c W w) (hb : Below w.heap.size w w') : Tr B R X v v' n m c W w' := ⟨h.hs.kept hb, h.doc.kept hb, (hb.block _ h.xl).trans h.box⟩
theorem Tr.drew (h : Tr B R X v v' n m c W w) : Tr B R X v v' n m c W w.drew := ⟨h.hs.drew, h.doc.drew, h.box⟩
theorem Tr.alloc (h : Tr B R X v v' n m c W w) (o : Obj) : Tr B R X v v' n m c W (w.alloc o) := h.kept ((Below.refl _ _).alloc (Nat.le_refl _) _)
theorem Tr.cell (h : Tr B R X v v' n m c W w) (j : Nat) : w.cell? ⟨X, j, none⟩ = c[j]? := cell_of_row _ _ _ _ _ _ h.box
/-- An act of the net. -/
theorem Tr.net (h : Tr B R X v v' n m c W w) (hN : Now B v k W w w') : ∃ v2, Tr B R X v2 v' k m c W w' := by
  obtain ⟨v2, hs2, hT⟩ := hN
  have hR := hT.block R h.doc.lt (far h.doc.here h.hs.nt.here (by decide)) (h.hs.nt.far h.doc.here (by decide))
  have hX := hT.block X h.xl (far h.box h.hs.nt.here (by decide)) (h.hs.nt.far h.box (by decide))
  refine ⟨v2, hs2, ⟨hR.trans h.doc.here, h.doc.rd.turn hT.size (fun i hi ht => ?_), h.doc.ok, h.doc.pR⟩, hX.trans h.box⟩
  obtain ⟨cur, fz, e⟩ := ht
  exact hT.block i hi (far e h.hs.nt.here (by decide)) (h.hs.nt.far e (by decide))
/-- An act of the document's. -/
theorem Tr.ref (h : Tr B R X v v' n m c W w) (hD : DidD W.heap.size R k w w') : ∃ v2, Tr B R X v v2 n k c W w' := by
  obtain ⟨v2, hd, hK⟩ := hD
  have hX := hK.block X h.xl (far h.box h.doc.here (by decide))
  have hB := hK.block B h.hs.nt.lt (far h.hs.nt.here h.doc.here (by decide))
  refine ⟨v2, ⟨⟨hB.trans h.hs.nt.here, ⟨h.hs.nt.row.1, ?_⟩, h.hs.nt.ne, h.hs.nt.ok, h.hs.nt.pB⟩, h.hs.small, h.hs.below.trans ⟨hK.os, hK.tape, hK.output, hK.size, fun i hi => hK.block i (Nat.lt_of_lt_of_le hi h.hs.below.size) (fun e => by have := h.doc.pR; omega)⟩⟩, hd, hX.trans h.box⟩
  rcases h.hs.nt.row.2 with hn | ⟨g, cap, cur, rfl, hb, hgg, rest⟩
  · exact .inl hn
  · exact .inr ⟨g, cap, cur, rfl, hb, (hK.block g (Array.getElem?_eq_some_iff.1 hgg).1 (far hgg h.doc.here (by decide))).trans hgg, rest⟩
end
/-- The copy, a net of its own behind Y. -/
theorem copy_of {B : Nat} {v : Value} {n : N} {W w : World} (h : Hs B v n W w) :
    Calls Try.prog 19 #[.pointer (some ⟨B, 0, none⟩)] w fun e w' => ∃ C u, e = .returned (.pointer (some ⟨C, 0, none⟩)) ∧ Hs C u n w w' :=
  (copy_any _ B v n w h.nt).mono fun e w' ⟨C, u, he, hn, hb, hC, hu⟩ => ⟨C, u, he, hn.up hC hu, h.small, hb⟩
theorem rgive_lit (P R : Nat) (v : Value) (n : N) (k : Int) (w : World) (h : Doc P R v n w) :
    Calls Try.prog 22 #[.pointer (some ⟨R, 0, none⟩), .int .i64 k] w fun e w' => e = .returned (.tuple #[.agg #[.string (n.get k).s, .int .i64 (n.get k).to, .bool (n.get k).bent], .int .i64 (n.noneE k)]) ∧ DidD P R (n.lose k) w w' := rgive_any P R v n k w h
end Go.Proofs.Ytialfpmfiapepaa
