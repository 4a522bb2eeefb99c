/-
  A frame laid cell by cell into a block of its own.
-/
import Derived.Test.YtjjbfmaldhlenaaHeld
namespace Go.Proofs.Ytjjbfmaldhlenaa
open Go.RowKit
theorem below_undrew {B : Nat} {a w : World} (h : Below B a.drew w) : Below B a w := ⟨h.os, h.tape, h.output, h.size, h.block⟩
theorem lay14 (w : World) (g : Nat) (f : Fr) (h : w.heap[g]? = some (.cells Fr.zero.cells 48 (0, 0))) :
    ((((((((((((((w.setCell ⟨g, 0, none⟩ (.int .u8 f.kind)).setCell ⟨g, 1, none⟩ (.int .i64 f.fa)).setCell ⟨g, 2, none⟩ (.int .i64 f.fi)).setCell ⟨g, 3, none⟩ (.int .i64 f.ta)).setCell ⟨g, 4, none⟩ (.int .i64 f.ti)).setCell
      ⟨g, 5, none⟩ (.int .i64 f.n)).setCell ⟨g, 6, none⟩ (.int .i64 f.token)).setCell ⟨g, 7, none⟩ (.int .i64 0)).setCell ⟨g, 8, none⟩ (.int .i64 0)).setCell ⟨g, 9, none⟩ (.slice none 0 0)).setCell ⟨g, 10, none⟩ (.slice none 0 0)).setCell
      ⟨g, 11, none⟩ (.slice none 0 0)).setCell ⟨g, 12, none⟩ (.slice none 0 0)).setCell ⟨g, 13, none⟩ (.slice none 0 0)).heap[g]? = some (.cells f.cells 48 (0, 0)) := by
  have h0 := heap_setCell_same _ _ 0 _ _ (.int .u8 f.kind) h
  have h1 := heap_setCell_same _ _ 1 _ _ (.int .i64 f.fa) h0
  have h2 := heap_setCell_same _ _ 2 _ _ (.int .i64 f.fi) h1
  have h3 := heap_setCell_same _ _ 3 _ _ (.int .i64 f.ta) h2
  have h4 := heap_setCell_same _ _ 4 _ _ (.int .i64 f.ti) h3
  have h5 := heap_setCell_same _ _ 5 _ _ (.int .i64 f.n) h4
  have h6 := heap_setCell_same _ _ 6 _ _ (.int .i64 f.token) h5
  have h7 := heap_setCell_same _ _ 7 _ _ (.int .i64 0) h6
  have h8 := heap_setCell_same _ _ 8 _ _ (.int .i64 0) h7
  have h9 := heap_setCell_same _ _ 9 _ _ (.slice none 0 0) h8
  have h10 := heap_setCell_same _ _ 10 _ _ (.slice none 0 0) h9
  have h11 := heap_setCell_same _ _ 11 _ _ (.slice none 0 0) h10
  have h12 := heap_setCell_same _ _ 12 _ _ (.slice none 0 0) h11
  have h13 := heap_setCell_same _ _ 13 _ _ (.slice none 0 0) h12
  refine h13.trans ?_
  simp [Fr.cells, Fr.zero]
theorem lay14_below {B : Nat} {a w : World} (g : Nat) (f : Fr) (h : Below B a w) (hg : B ≤ g) :
    Below B a ((((((((((((((w.setCell ⟨g, 0, none⟩ (.int .u8 f.kind)).setCell ⟨g, 1, none⟩ (.int .i64 f.fa)).setCell ⟨g, 2, none⟩ (.int .i64 f.fi)).setCell ⟨g, 3, none⟩ (.int .i64 f.ta)).setCell ⟨g, 4, none⟩ (.int .i64 f.ti)).setCell
      ⟨g, 5, none⟩ (.int .i64 f.n)).setCell ⟨g, 6, none⟩ (.int .i64 f.token)).setCell ⟨g, 7, none⟩ (.int .i64 0)).setCell ⟨g, 8, none⟩ (.int .i64 0)).setCell ⟨g, 9, none⟩ (.slice none 0 0)).setCell ⟨g, 10, none⟩ (.slice none 0 0)).setCell
      ⟨g, 11, none⟩ (.slice none 0 0)).setCell ⟨g, 12, none⟩ (.slice none 0 0)).setCell ⟨g, 13, none⟩ (.slice none 0 0)) :=
  (((((((((((((h.setCell hg _).setCell hg _).setCell hg _).setCell hg _).setCell hg _).setCell hg _).setCell hg _).setCell hg _).setCell hg _).setCell hg _).setCell hg _).setCell hg _).setCell hg _).setCell hg _
theorem new_cells_drew (w : World) (g : Nat) (hg : w.heap.size = g) (c : Array Value) (t : TypeId) : ∀ j u, c.toList[j]? = some u → ((w.alloc (.cells c t)).drew).cell? ((⟨g, 0, none⟩ : Addr).add j) = some u := by
  subst hg; exact new_cells w c t
end Go.Proofs.Ytjjbfmaldhlenaa
