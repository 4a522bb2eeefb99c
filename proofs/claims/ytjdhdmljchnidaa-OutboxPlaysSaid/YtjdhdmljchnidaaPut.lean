/-
  The walk of Put, by a contract of own.
-/
import Derived.Test.YtjdhdmljchnidaaWalks2
namespace Go.Proofs.Ytjdhdmljchnidaa
open Go.RowKit
set_option linter.unusedVariables false
set_option linter.unusedSimpArgs false
attribute [local go_sem ↓] Go.wp_at_zero Go.wp_at_succ
/-- Its own copy of a frame, wherever the box may stand. -/
def OwnOf (B : Nat) (v : Value) (w : World) (f : Fr) (Q : Fr → World → World → Prop) : Prop :=
  ∀ v1 a, Turn B v v1 w a → (∀ k, v1.ownBlock = some k → k < a.heap.size) → Calls Try.prog 31 #[f.val] a fun e b => ∃ f' : Fr, e = .returned f'.val ∧ Below a.heap.size a b ∧ Q f' a b
/-- What Put leaves. -/
def PutOut (P B : Nat) (v : Value) (n : N) (Q : Fr → World → World → Prop) (w : World) (e : Ending) (w' : World) : Prop :=
  ∃ (f' : Fr) (v2 : Value) (a b : World), e = .returned (.tuple #[(n.out f').val, .bool n.full, .int .i64 0]) ∧ Q f' a b ∧ Turn B v v2 w w' ∧ Nt P B v2 (n.put f') w' ∧
    w.heap.size ≤ a.heap.size ∧ a.heap.size ≤ b.heap.size ∧ b.heap.size ≤ w'.heap.size ∧ (∀ k, a.heap.size ≤ k → k < b.heap.size → w'.heap[k]? = b.heap[k]?) ∧ (∀ k, v2.ownBlock = some k → k < a.heap.size ∨ b.heap.size ≤ k)
theorem Nt.stay {P B q : Nat} {v : Value} {n : N} {w w' : World} (h : Nt P B v n w) (hs : Stay q w w') (hB : B ≠ q ∧ B ≠ q + 1) (hv : ∀ k, v.ownBlock = some k → k ≠ q ∧ k ≠ q + 1) : Nt P B v n w' := by
  refine ⟨(hs.block _ h.lt hB.1 hB.2).trans h.here, ⟨h.row.1, ?_⟩, h.ne, h.ok, h.pB⟩
  rcases h.row.2 with hn | ⟨g, cap, cur, rfl, hb, hgg, rest⟩
  · exact .inl hn
  · have := hv g rfl
    exact .inr ⟨g, cap, cur, rfl, hb, (hs.block _ (Array.getElem?_eq_some_iff.1 hgg).1 this.1 this.2).trans hgg, rest⟩
theorem two_new (w : World) (a b : Obj) : ((w.alloc a).alloc b).heap[w.heap.size]? = some a ∧ ((w.alloc a).alloc b).heap[w.heap.size + 1]? = some b := by
  constructor
  · rw [Below.heap_alloc _ _ _ (by simp)]; exact heap_alloc_new _ _
  · rw [show w.heap.size + 1 = (w.alloc a).heap.size by simp]; exact heap_alloc_new _ _
theorem Nt.more {P B : Nat} {v : Value} {n : N} {u : Fr} {w w1 : World} (h : Nt P B v n w) (hf : n.full = false) (gg cap : Nat)
    (hown : w1.ownsRow P 38 14 (.slice (some ⟨gg, 0, none⟩) (n.l.length + 1) cap) (n.l.length + 1) (rows n.l ++ u.cells.toList)) (hgrow : w.grownBy w1 v.ownBlock) (hat : v.ownBlock = some gg ∨ w.heap.size ≤ gg) :
    Nt P B (.slice (some ⟨gg, 0, none⟩) (n.l.length + 1) cap) ⟨n.max, n.l ++ [u]⟩ (w1.setCell ⟨B, 1, none⟩ (.slice (some ⟨gg, 0, none⟩) (n.l.length + 1) cap)) ∧ Turn B v (.slice (some ⟨gg, 0, none⟩) (n.l.length + 1) cap) w (w1.setCell ⟨B, 1, none⟩ (.slice (some ⟨gg, 0, none⟩) (n.l.length + 1) cap)) := by
  have hlt := h.lt
  have hB1 : w1.heap[B]? = some (.cells #[.int .i64 n.max, v] 71 (0, 0)) := (hgrow.block B hlt (Ne.symm h.ne)).trans h.here
  have hne : (n.l.length : Int) ≠ n.max := by simpa [N.full] using hf
  have hok := h.ok
  constructor
  · refine Nt.set (n := ⟨n.max, n.l ++ [u]⟩) (u := v) hB1 ?_ ?_ ⟨hok.m1, hok.m2, by have := hok.le; simp; omega⟩ h.pB
    · simpa [rows_append, rows] using hown
    · intro e
      have e : gg = B := by simpa [Value.ownBlock] using e
      rcases hat with hat | hat
      · exact h.ne (by rw [hat, e])
      · omega
  · refine (Turn.grown (Turn.refl B v w) hgrow ?_).setCell (.inl rfl) _
    intro k hk
    have e : gg = k := by simpa [Value.ownBlock] using hk
    subst e
    exact hat
/-- What stands behind the append. -/
structure PutEnd (P B gg cap : Nat) (v : Value) (n : N) (f2 : Fr) (C : Array Value) (w wc w2 Z : World) : Prop where
  nt : Nt P B (.slice (some ⟨gg, 0, none⟩) (n.l.length + 1) cap) ⟨n.max, n.l ++ [f2]⟩ Z
  turn : Turn B v (.slice (some ⟨gg, 0, none⟩) (n.l.length + 1) cap) w Z
  keep : ∀ k, wc.heap.size ≤ k → k < w2.heap.size → Z.heap[k]? = w2.heap[k]?
  s2 : wc.heap.size ≤ w2.heap.size
  s4 : w2.heap.size ≤ Z.heap.size
  at_ : gg < wc.heap.size ∨ w2.heap.size ≤ gg
  gq : gg ≠ w.heap.size ∧ gg ≠ w.heap.size + 1
  q1 : Z.heap[w.heap.size + 1]? = some (.cells C 38 (0, 0))
theorem put_close {P B gg cap : Nat} {v v' : Value} {n : N} {f2 : Fr} {C : Array Value} {w wc w2 w3 : World} (hN : Nt P B v' n wc) (hnf : n.full = false) (hT : Turn B v v' w wc)
    (hq1 : wc.heap[w.heap.size + 1]? = some (.cells C 38 (0, 0))) (hsz : w.heap.size + 2 ≤ wc.heap.size) (hB : B < w.heap.size) (hv0 : v'.ownBlock ≠ some w.heap.size) (hv1 : v'.ownBlock ≠ some (w.heap.size + 1))
    (hb : Below wc.drew.heap.size wc.drew w2) (hown1 : w3.ownsRow P 38 14 (.slice (some ⟨gg, 0, none⟩) (n.l.length + 1) cap) (n.l.length + 1) (rows n.l ++ f2.cells.toList))
    (hgrow : (w2.alloc (.cells f2.cells 38)).grownBy w3 v'.ownBlock) (hat : v'.ownBlock = some gg ∨ gg = w2.heap.size + 1) :
    PutEnd P B gg cap v n f2 C w wc w2 (w3.setCell ⟨B, 1, none⟩ (.slice (some ⟨gg, 0, none⟩) (n.l.length + 1) cap)) := by
  have hs2 : wc.heap.size ≤ w2.heap.size := hb.size
  have hNa := (hN.drew.kept hb).alloc (.cells f2.cells 38)
  have hAs : (w2.alloc (.cells f2.cells 38)).heap.size = w2.heap.size + 1 := by simp
  have hAb : ∀ k, k < w2.heap.size → (w2.alloc (.cells f2.cells 38)).heap[k]? = w2.heap[k]? := fun k hk => Below.heap_alloc _ _ _ hk
  obtain ⟨hN3, hT3⟩ := hNa.more (u := f2) hnf gg cap hown1 hgrow (by
    rcases hat with e | e
    · exact .inl e
    · right; rw [hAs]; omega)
  have hT4 := ((hT.drew.trans (Turn.of_below hb)).alloc (.cells f2.cells 38)).trans hT3
  generalize w2.alloc (.cells f2.cells 38) = wa at hgrow hAs hAb
  have hgs := hgrow.size
  have hfar : ∀ k, k ≠ B → (w3.setCell ⟨B, 1, none⟩ (.slice (some ⟨gg, 0, none⟩) (n.l.length + 1) cap)).heap[k]? = w3.heap[k]? := fun k hk => Below.heap_setCell _ _ _ _ hk
  have hs3 : (w3.setCell ⟨B, 1, none⟩ (.slice (some ⟨gg, 0, none⟩) (n.l.length + 1) cap)).heap.size = w3.heap.size := by simp only [World.setCell, Array.size_modify]
  generalize w3.setCell ⟨B, 1, none⟩ (.slice (some ⟨gg, 0, none⟩) (n.l.length + 1) cap) = Z at hN3 hT4 hfar hs3 ⊢
  have hlt := hN.lt
  refine ⟨hN3, hT4, fun k hk hk2 => ?_, hs2, by omega, ?_, ?_, ?_⟩
  · rw [hfar k (by omega), hgrow.block k (by omega) (fun e => by have := (hN.vlt k e.symm).2; omega), hAb k hk2]
  · rcases hat with e | e
    · exact .inl (hN.vlt gg e).2
    · exact .inr (by omega)
  · rcases hat with e | e
    · exact ⟨fun e2 => hv0 (by rw [← e2]; exact e), fun e2 => hv1 (by rw [← e2]; exact e)⟩
    · omega
  · rw [hfar _ (by omega), hgrow.block (w.heap.size + 1) (by omega) (fun e => hv1 e.symm), hAb _ (by omega)]
    exact (hb.block _ (by show w.heap.size + 1 < wc.heap.size; omega)).trans hq1
def PutCut (P B : Nat) (n : N) (oa : Option Addr) (vcap : Nat) (F : Array Value) (W w : World) (a5 : Value) : Prop :=
  a5 = .bool n.full ∧ ∃ (v' : Value) (n' : N) (o : Fr), Nt P B v' n' w ∧ n'.full = false ∧ (∀ f, n.put f = ⟨n'.max, n'.l ++ [f]⟩ ∧ n.out f = o) ∧ Turn B (.slice oa n.l.length vcap) v' W w ∧
    w.heap[W.heap.size]? = some (.cells F 38 (0, 0)) ∧ w.heap[W.heap.size + 1]? = some (.cells o.cells 38 (0, 0)) ∧ W.heap.size + 2 ≤ w.heap.size ∧ v'.ownBlock ≠ some W.heap.size ∧ v'.ownBlock ≠ some (W.heap.size + 1)

/-- A frame laid cell by cell. -/
def Fr.laid (f : Fr) (w : World) (g : Nat) : World := ((((((((((((((w.setCell ⟨g, 0, none⟩ (.int .u8 f.kind)).setCell ⟨g, 1, none⟩ (.int .i64 f.fa)).setCell ⟨g, 2, none⟩ (.int .i64 f.fi)).setCell ⟨g, 3, none⟩ (.int .i64 f.ta)).setCell ⟨g, 4, none⟩ (.int .i64 f.ti)).setCell ⟨g, 5, none⟩ (.int .i64 f.n)).setCell ⟨g, 6, none⟩ (.int .i64 f.token)).setCell ⟨g, 7, none⟩ (.int .i64 f.ba)).setCell ⟨g, 8, none⟩ (.int .i64 f.bi)).setCell ⟨g, 9, none⟩ (.slice f.ms.a f.ms.n f.ms.c)).setCell ⟨g, 10, none⟩ (.slice f.fs.a f.fs.n f.fs.c)).setCell ⟨g, 11, none⟩ (.slice f.rs.a f.rs.n f.rs.c)).setCell ⟨g, 12, none⟩ (.slice f.cs.a f.cs.n f.cs.c)).setCell ⟨g, 13, none⟩ (.slice f.ss.a f.ss.n f.ss.c))
theorem Fr.laid_row (f : Fr) (w : World) (g : Nat) (h : w.heap[g]? = some (.cells Fr.zero.cells 38 (0, 0))) : (f.laid w g).heap[g]? = some (.cells f.cells 38 (0, 0)) := by
  have h0 := heap_setCell_same _ _ 0 _ _ (.int .u8 f.kind) h
  have h1 := heap_setCell_same _ _ 1 _ _ (.int .i64 f.fa) h0
  have h2 := heap_setCell_same _ _ 2 _ _ (.int .i64 f.fi) h1
  have h3 := heap_setCell_same _ _ 3 _ _ (.int .i64 f.ta) h2
  have h4 := heap_setCell_same _ _ 4 _ _ (.int .i64 f.ti) h3
  have h5 := heap_setCell_same _ _ 5 _ _ (.int .i64 f.n) h4
  have h6 := heap_setCell_same _ _ 6 _ _ (.int .i64 f.token) h5
  have h7 := heap_setCell_same _ _ 7 _ _ (.int .i64 f.ba) h6
  have h8 := heap_setCell_same _ _ 8 _ _ (.int .i64 f.bi) h7
  have h9 := heap_setCell_same _ _ 9 _ _ (.slice f.ms.a f.ms.n f.ms.c) h8
  have h10 := heap_setCell_same _ _ 10 _ _ (.slice f.fs.a f.fs.n f.fs.c) h9
  have h11 := heap_setCell_same _ _ 11 _ _ (.slice f.rs.a f.rs.n f.rs.c) h10
  have h12 := heap_setCell_same _ _ 12 _ _ (.slice f.cs.a f.cs.n f.cs.c) h11
  have h13 := heap_setCell_same _ _ 13 _ _ (.slice f.ss.a f.ss.n f.ss.c) h12
  refine h13.trans ?_
  simp [Fr.cells, Fr.zero]
theorem Fr.laid_stay (f : Fr) (w : World) (q : Nat) : Stay q w (f.laid w (q + 1)) := (((((((((((((((Stay.refl q w).setCell (p := ⟨q + 1, 0, none⟩) (.inr rfl) (.int .u8 f.kind)).setCell (p := ⟨q + 1, 1, none⟩) (.inr rfl) (.int .i64 f.fa)).setCell (p := ⟨q + 1, 2, none⟩) (.inr rfl) (.int .i64 f.fi)).setCell (p := ⟨q + 1, 3, none⟩) (.inr rfl) (.int .i64 f.ta)).setCell (p := ⟨q + 1, 4, none⟩) (.inr rfl) (.int .i64 f.ti)).setCell (p := ⟨q + 1, 5, none⟩) (.inr rfl) (.int .i64 f.n)).setCell (p := ⟨q + 1, 6, none⟩) (.inr rfl) (.int .i64 f.token)).setCell (p := ⟨q + 1, 7, none⟩) (.inr rfl) (.int .i64 f.ba)).setCell (p := ⟨q + 1, 8, none⟩) (.inr rfl) (.int .i64 f.bi)).setCell (p := ⟨q + 1, 9, none⟩) (.inr rfl) (.slice f.ms.a f.ms.n f.ms.c)).setCell (p := ⟨q + 1, 10, none⟩) (.inr rfl) (.slice f.fs.a f.fs.n f.fs.c)).setCell (p := ⟨q + 1, 11, none⟩) (.inr rfl) (.slice f.rs.a f.rs.n f.rs.c)).setCell (p := ⟨q + 1, 12, none⟩) (.inr rfl) (.slice f.cs.a f.cs.n f.cs.c)).setCell (p := ⟨q + 1, 13, none⟩) (.inr rfl) (.slice f.ss.a f.ss.n f.ss.c))
theorem Fr.laid_turn (f : Fr) {B : Nat} {v v' : Value} {w0 w : World} {g : Nat} (h : Turn B v v' w0 w) (hg : w0.heap.size ≤ g) : Turn B v v' w0 (f.laid w g) := ((((((((((((((h.setCell (p := ⟨g, 0, none⟩) (.inr hg) (.int .u8 f.kind)).setCell (p := ⟨g, 1, none⟩) (.inr hg) (.int .i64 f.fa)).setCell (p := ⟨g, 2, none⟩) (.inr hg) (.int .i64 f.fi)).setCell (p := ⟨g, 3, none⟩) (.inr hg) (.int .i64 f.ta)).setCell (p := ⟨g, 4, none⟩) (.inr hg) (.int .i64 f.ti)).setCell (p := ⟨g, 5, none⟩) (.inr hg) (.int .i64 f.n)).setCell (p := ⟨g, 6, none⟩) (.inr hg) (.int .i64 f.token)).setCell (p := ⟨g, 7, none⟩) (.inr hg) (.int .i64 f.ba)).setCell (p := ⟨g, 8, none⟩) (.inr hg) (.int .i64 f.bi)).setCell (p := ⟨g, 9, none⟩) (.inr hg) (.slice f.ms.a f.ms.n f.ms.c)).setCell (p := ⟨g, 10, none⟩) (.inr hg) (.slice f.fs.a f.fs.n f.fs.c)).setCell (p := ⟨g, 11, none⟩) (.inr hg) (.slice f.rs.a f.rs.n f.rs.c)).setCell (p := ⟨g, 12, none⟩) (.inr hg) (.slice f.cs.a f.cs.n f.cs.c)).setCell (p := ⟨g, 13, none⟩) (.inr hg) (.slice f.ss.a f.ss.n f.ss.c))
/-- What stands behind the load of the one that goes. -/
structure Mid (P B : Nat) (v : Value) (n : N) (o : Fr) (F : Array Value) (w V : World) : Prop where
  nt : Nt P B v n V
  turn : Turn B v v w V
  q0 : V.heap[w.heap.size]? = some (.cells F 38 (0, 0))
  q1 : V.heap[w.heap.size + 1]? = some (.cells o.cells 38 (0, 0))
  s : w.heap.size + 2 ≤ V.heap.size
theorem Mid.of {P B : Nat} {v : Value} {n : N} (o : Fr) {F : Array Value} {w w1 : World} (hN1 : Nt P B v n w1) (hT1 : Turn B v v w w1) (hq0 : w1.heap[w.heap.size]? = some (.cells F 38 (0, 0)))
    (hq1 : w1.heap[w.heap.size + 1]? = some (.cells Fr.zero.cells 38 (0, 0))) (hs1 : w.heap.size + 2 ≤ w1.heap.size) (hlt : B < w.heap.size) (hvl : ∀ k, v.ownBlock = some k → k < w.heap.size) : Mid P B v n o F w (o.laid w1 (w.heap.size + 1)) := by
  have hS := o.laid_stay w1 w.heap.size
  refine ⟨hN1.stay hS ⟨by omega, by omega⟩ (fun k hk => by have := hvl k hk; omega), o.laid_turn hT1 (by omega), ?_, o.laid_row _ _ hq1, Nat.le_trans hs1 hS.size⟩
  rw [← hq0]
  exact (Below.heap_setCell _ _ _ _ (Nat.ne_of_lt (Nat.lt_succ_self _))).trans ((Below.heap_setCell _ _ _ _ (Nat.ne_of_lt (Nat.lt_succ_self _))).trans ((Below.heap_setCell _ _ _ _ (Nat.ne_of_lt (Nat.lt_succ_self _))).trans ((Below.heap_setCell _ _ _ _ (Nat.ne_of_lt (Nat.lt_succ_self _))).trans ((Below.heap_setCell _ _ _ _ (Nat.ne_of_lt (Nat.lt_succ_self _))).trans ((Below.heap_setCell _ _ _ _ (Nat.ne_of_lt (Nat.lt_succ_self _))).trans ((Below.heap_setCell _ _ _ _ (Nat.ne_of_lt (Nat.lt_succ_self _))).trans ((Below.heap_setCell _ _ _ _ (Nat.ne_of_lt (Nat.lt_succ_self _))).trans ((Below.heap_setCell _ _ _ _ (Nat.ne_of_lt (Nat.lt_succ_self _))).trans ((Below.heap_setCell _ _ _ _ (Nat.ne_of_lt (Nat.lt_succ_self _))).trans ((Below.heap_setCell _ _ _ _ (Nat.ne_of_lt (Nat.lt_succ_self _))).trans ((Below.heap_setCell _ _ _ _ (Nat.ne_of_lt (Nat.lt_succ_self _))).trans ((Below.heap_setCell _ _ _ _ (Nat.ne_of_lt (Nat.lt_succ_self _))).trans ((Below.heap_setCell _ _ _ _ (Nat.ne_of_lt (Nat.lt_succ_self _))))))))))))))))
theorem Mid.del {P B g r cap p : Nat} {n : N} {o : Fr} {F : Array Value} {w V w2 : World} (h : Mid P B (.slice (some ⟨g, 0, none⟩) n.l.length cap) n o F w V) (hr : n.l.length = r + 1) (hfe : (n.l.length : Int) = n.max) (hp : p < n.l.length) (hgl : g < w.heap.size) (hgB : g ≠ B) (hlt : B < w.heap.size)
    (hr2 : w2.ownsRow P 38 14 (.slice (some ⟨g, 0, none⟩) r cap) r ((rows n.l).take (p * 14) ++ (rows n.l).drop ((p + 1) * 14))) (hg2 : V.grownBy w2 (some g)) (hput : ∀ f, n.put f = ⟨n.max, n.l.eraseIdx p ++ [f]⟩ ∧ n.out f = o) (hfull : n.full = true) :
    PutCut P B n (some ⟨g, 0, none⟩) cap F w (w2.setCell ⟨B, 1, none⟩ (.slice (some ⟨g, 0, none⟩) r cap)) (.bool true) := by
  obtain ⟨hN, hT, hq0, hq1, hs⟩ := h
  have hlen : (n.l.eraseIdx p).length = r := by rw [List.length_eraseIdx, if_pos hp]; omega
  have hB2 := (hg2.block B hN.lt (by simp; omega)).trans hN.here
  have hV1 := (hg2.block (w.heap.size + 1) (by omega) (by simp; omega)).trans hq1
  have hV0 := (hg2.block w.heap.size (by omega) (by simp; omega)).trans hq0
  have hT2 := hT.grown (v'' := .slice (some ⟨g, 0, none⟩) r cap) hg2 (fun k hk => .inl hk)
  have hs2 := Nat.le_trans hs hg2.size
  have hok := hN.ok
  refine ⟨by rw [hfull], .slice (some ⟨g, 0, none⟩) r cap, ⟨n.max, n.l.eraseIdx p⟩, o, Nt.set hB2 (by rw [hlen, ← rows_erase _ _ hp]; exact hr2) (by simp [Value.ownBlock]; omega) ⟨hok.m1, hok.m2, by show (((n.l.eraseIdx p).length : Nat) : Int) ≤ n.max; rw [hlen]; omega⟩ hN.pB, ?_, hput, ?_, ?_, ?_, ?_, ?_, ?_⟩
  · show decide (((n.l.eraseIdx p).length : Int) = n.max) = false
    rw [hlen]; simp; omega
  · exact hT2.setCell (.inl rfl) _
  · rw [Below.heap_setCell _ _ _ _ (by show w.heap.size ≠ B; omega)]; exact hV0
  · rw [Below.heap_setCell _ _ _ _ (by show w.heap.size + 1 ≠ B; omega)]; exact hV1
  · simp only [World.setCell, Array.size_modify]; exact hs2
  · simp [Value.ownBlock]; omega
  · simp [Value.ownBlock]; omega
theorem del_len (P g cap len r : Nat) (hlr : len = r + 1) (xs : List Value) (i : Nat) (w : World) (h : w.ownsRow P 38 14 (.slice (some ⟨g, 0, none⟩) len cap) len xs) (hi : i < len) (h1 : ∀ u ∈ xs, u.oneCell' = true) :
    Calls Try.prog 32 #[.slice (some ⟨g, 0, none⟩) len cap, .int .i64 i, .int .i64 (i + 1)] w fun e w' => e = .returned (.slice (some ⟨g, 0, none⟩) r cap) ∧
      w'.ownsRow P 38 14 (.slice (some ⟨g, 0, none⟩) r cap) r (xs.take (i * 14) ++ xs.drop ((i + 1) * 14)) ∧ w.grownBy w' (some g) := by
  subst hlr; exact del_any P g cap r xs i w h hi h1
theorem hnb (w : World) (b : Obj) : (w.alloc b).heap[w.heap.size]? = some b := heap_alloc_new w b
set_option maxRecDepth 100000 in
set_option maxHeartbeats 4000000 in
theorem put_any (P B : Nat) (v : Value) (n : N) (k fa fi ta ti fn tk ba bi : Int) (sa1 sa2 sa3 sa4 sa5 : Option Addr) (sn1 sc1 sn2 sc2 sn3 sc3 sn4 sc4 sn5 sc5 : Nat) (Q : Fr → World → World → Prop) (w : World) (h : Nt P B v n w)
    (ho : OwnOf B v w ⟨k, fa, fi, ta, ti, fn, tk, ba, bi, ⟨sa1, sn1, sc1⟩, ⟨sa2, sn2, sc2⟩, ⟨sa3, sn3, sc3⟩, ⟨sa4, sn4, sc4⟩, ⟨sa5, sn5, sc5⟩⟩ Q) :
    Calls Try.prog 11 #[.pointer (some ⟨B, 0, none⟩), .agg #[.int .u8 k, .int .i64 fa, .int .i64 fi, .int .i64 ta, .int .i64 ti, .int .i64 fn, .int .i64 tk, .int .i64 ba, .int .i64 bi, .slice sa1 sn1 sc1, .slice sa2 sn2 sc2, .slice sa3 sn3 sc3, .slice sa4 sn4 sc4, .slice sa5 sn5 sc5]] w (PutOut P B v n Q w) := by
  obtain ⟨i0, hi0, hz0, hz1, hz2⟩ := info_parts info38
  have hlt := h.lt
  obtain ⟨c0, c1⟩ := h.reads
  have hvB := h.ne
  have hle := h.ok.le
  have hm1 := h.ok.m1
  have hm2 := h.ok.m2
  obtain ⟨oa, vcap, rfl⟩ := h.len_form
  have hbf : ((n.l.length : Int) == n.max) = n.full := by
    unfold N.full; rw [Bool.eq_iff_iff]; simp
  have HBF := Lib.hid hbf
  clear hbf
  have HO := Lib.hid ho
  clear ho
  obtain ⟨hw0, hw1⟩ := two_new w (.cells #[.int .u8 k, .int .i64 fa, .int .i64 fi, .int .i64 ta, .int .i64 ti, .int .i64 fn, .int .i64 tk, .int .i64 ba, .int .i64 bi, .slice sa1 sn1 sc1, .slice sa2 sn2 sc2, .slice sa3 sn3 sc3, .slice sa4 sn4 sc4, .slice sa5 sn5 sc5] 38) (.cells #[.int .u8 0, .int .i64 0, .int .i64 0, .int .i64 0, .int .i64 0, .int .i64 0, .int .i64 0, .int .i64 0, .int .i64 0, .slice none 0 0, .slice none 0 0, .slice none 0 0, .slice none 0 0, .slice none 0 0] 38)
  have hhY := (h.alloc (.cells #[.int .u8 k, .int .i64 fa, .int .i64 fi, .int .i64 ta, .int .i64 ti, .int .i64 fn, .int .i64 tk, .int .i64 ba, .int .i64 bi, .slice sa1 sn1 sc1, .slice sa2 sn2 sc2, .slice sa3 sn3 sc3, .slice sa4 sn4 sc4, .slice sa5 sn5 sc5] 38)).alloc (.cells #[.int .u8 0, .int .i64 0, .int .i64 0, .int .i64 0, .int .i64 0, .int .i64 0, .int .i64 0, .int .i64 0, .int .i64 0, .slice none 0 0, .slice none 0 0, .slice none 0 0, .slice none 0 0, .slice none 0 0] 38)
  have hTY := ((Turn.refl B (.slice oa n.l.length vcap) w).alloc (.cells #[.int .u8 k, .int .i64 fa, .int .i64 fi, .int .i64 ta, .int .i64 ti, .int .i64 fn, .int .i64 tk, .int .i64 ba, .int .i64 bi, .slice sa1 sn1 sc1, .slice sa2 sn2 sc2, .slice sa3 sn3 sc3, .slice sa4 sn4 sc4, .slice sa5 sn5 sc5] 38)).alloc (.cells #[.int .u8 0, .int .i64 0, .int .i64 0, .int .i64 0, .int .i64 0, .int .i64 0, .int .i64 0, .int .i64 0, .int .i64 0, .slice none 0 0, .slice none 0 0, .slice none 0 0, .slice none 0 0, .slice none 0 0] 38)
  have hvl := h.vlt
  have HX := Lib.hid (And.intro hw0 (And.intro hw1 (And.intro hhY (And.intro hTY (And.intro hvl h)))))
  clear hw0 hw1 hhY hTY hvl h
  go_enter Try.func11, Try.ntmps11
  go_wp2_with fail
  go_quiet (fail)
  rw [HBF.out]
  go_upto_if 20 with fail
  go_cut [5, 7] (fun a5 a7 wx => PutCut P B n oa vcap #[.int .u8 k, .int .i64 fa, .int .i64 fi, .int .i64 ta, .int .i64 ti, .int .i64 fn, .int .i64 tk, .int .i64 ba, .int .i64 bi, .slice sa1 sn1 sc1, .slice sa2 sn2 sc2, .slice sa3 sn3 sc3, .slice sa4 sn4 sc4, .slice sa5 sn5 sc5] w wx a5)
  case first =>
    obtain ⟨hw0, hw1, hhY, hTY, hvl, h⟩ := HX.out
    cases hf : n.full
    · have HF := Lib.hid hf
      go_wp2_with fail
      go_meet
      case rel => exact ⟨by rw [HF.out], _, n, .zero, hhY.drewN nq, HF.out, fun f => N.put_free HF.out f, hTY.drewN nq, hw0, hw1, by simp, fun e => by have := (hvl _ e).2; omega, fun e => by have := (hvl _ e).2; omega⟩
    · have HF := Lib.hid hf
      clear hf c0 c1
      have hN2 := hhY.drewN nq
      have hT2 := hTY.drewN nq
      have hs2 : w.heap.size + 2 ≤ (((w.alloc (.cells #[.int .u8 k, .int .i64 fa, .int .i64 fi, .int .i64 ta, .int .i64 ti, .int .i64 fn, .int .i64 tk, .int .i64 ba, .int .i64 bi, .slice sa1 sn1 sc1, .slice sa2 sn2 sc2, .slice sa3 sn3 sc3, .slice sa4 sn4 sc4, .slice sa5 sn5 sc5] 38)).alloc (.cells #[.int .u8 0, .int .i64 0, .int .i64 0, .int .i64 0, .int .i64 0, .int .i64 0, .int .i64 0, .int .i64 0, .int .i64 0, .slice none 0 0, .slice none 0 0, .slice none 0 0, .slice none 0 0, .slice none 0 0] 38)).drewN nq).heap.size := by simp
      have hq0 : (((w.alloc (.cells #[.int .u8 k, .int .i64 fa, .int .i64 fi, .int .i64 ta, .int .i64 ti, .int .i64 fn, .int .i64 tk, .int .i64 ba, .int .i64 bi, .slice sa1 sn1 sc1, .slice sa2 sn2 sc2, .slice sa3 sn3 sc3, .slice sa4 sn4 sc4, .slice sa5 sn5 sc5] 38)).alloc (.cells #[.int .u8 0, .int .i64 0, .int .i64 0, .int .i64 0, .int .i64 0, .int .i64 0, .int .i64 0, .int .i64 0, .int .i64 0, .slice none 0 0, .slice none 0 0, .slice none 0 0, .slice none 0 0, .slice none 0 0] 38)).drewN nq).heap[w.heap.size]? = some (.cells #[.int .u8 k, .int .i64 fa, .int .i64 fi, .int .i64 ta, .int .i64 ti, .int .i64 fn, .int .i64 tk, .int .i64 ba, .int .i64 bi, .slice sa1 sn1 sc1, .slice sa2 sn2 sc2, .slice sa3 sn3 sc3, .slice sa4 sn4 sc4, .slice sa5 sn5 sc5] 38 (0, 0)) := hw0
      have hq1 : (((w.alloc (.cells #[.int .u8 k, .int .i64 fa, .int .i64 fi, .int .i64 ta, .int .i64 ti, .int .i64 fn, .int .i64 tk, .int .i64 ba, .int .i64 bi, .slice sa1 sn1 sc1, .slice sa2 sn2 sc2, .slice sa3 sn3 sc3, .slice sa4 sn4 sc4, .slice sa5 sn5 sc5] 38)).alloc (.cells #[.int .u8 0, .int .i64 0, .int .i64 0, .int .i64 0, .int .i64 0, .int .i64 0, .int .i64 0, .int .i64 0, .int .i64 0, .slice none 0 0, .slice none 0 0, .slice none 0 0, .slice none 0 0, .slice none 0 0] 38)).drewN nq).heap[w.heap.size + 1]? = some (.cells #[.int .u8 0, .int .i64 0, .int .i64 0, .int .i64 0, .int .i64 0, .int .i64 0, .int .i64 0, .int .i64 0, .int .i64 0, .slice none 0 0, .slice none 0 0, .slice none 0 0, .slice none 0 0, .slice none 0 0] 38 (0, 0)) := hw1
      clear hw0 hw1 hhY hTY
      generalize (((w.alloc (.cells #[.int .u8 k, .int .i64 fa, .int .i64 fi, .int .i64 ta, .int .i64 ti, .int .i64 fn, .int .i64 tk, .int .i64 ba, .int .i64 bi, .slice sa1 sn1 sc1, .slice sa2 sn2 sc2, .slice sa3 sn3 sc3, .slice sa4 sn4 sc4, .slice sa5 sn5 sc5] 38)).alloc (.cells #[.int .u8 0, .int .i64 0, .int .i64 0, .int .i64 0, .int .i64 0, .int .i64 0, .int .i64 0, .int .i64 0, .int .i64 0, .slice none 0 0, .slice none 0 0, .slice none 0 0, .slice none 0 0, .slice none 0 0] 38)).drewN nq) = Y at hN2 hT2 hq0 hq1 hs2 ⊢
      obtain ⟨c0, c1⟩ := hN2.reads
      go_wp2_with fail
      refine (index_any P B oa vcap n Y hN2).mono ?_
      rintro e w1 ⟨rfl, hb⟩
      have hN1 := hN2.kept hb
      have hT1 := hT2.trans (Turn.of_below hb)
      have hs1 : w.heap.size + 2 ≤ w1.heap.size := Nat.le_trans hs2 hb.size
      have hq0 := (hb.block _ (by omega)).trans hq0
      have hq1 := (hb.block _ (by omega)).trans hq1
      clear hb hN2 hT2 hs2 c0 c1
      obtain ⟨c0, c1⟩ := hN1.reads
      have hlt1 := hN1.lt
      cases hp : first n.l with
      | none =>
        have HP := Lib.hid (N.put_none HF.out hp)
        simp only [place]
        clear hp
        have hown := HO.out (.slice oa n.l.length vcap) w1 hT1 (fun k hk => (hN1.vlt k hk).2)
        simp only [Fr.val, Fr.cells] at hown
        have z0 : w1.cell? ⟨w.heap.size, 0, none⟩ = some (.int .u8 k) := (cell_of_row _ _ _ _ _ _ hq0).trans rfl
        have z1 : w1.cell? ⟨w.heap.size, 1, none⟩ = some (.int .i64 fa) := (cell_of_row _ _ _ _ _ _ hq0).trans rfl
        have z2 : w1.cell? ⟨w.heap.size, 2, none⟩ = some (.int .i64 fi) := (cell_of_row _ _ _ _ _ _ hq0).trans rfl
        have z3 : w1.cell? ⟨w.heap.size, 3, none⟩ = some (.int .i64 ta) := (cell_of_row _ _ _ _ _ _ hq0).trans rfl
        have z4 : w1.cell? ⟨w.heap.size, 4, none⟩ = some (.int .i64 ti) := (cell_of_row _ _ _ _ _ _ hq0).trans rfl
        have z5 : w1.cell? ⟨w.heap.size, 5, none⟩ = some (.int .i64 fn) := (cell_of_row _ _ _ _ _ _ hq0).trans rfl
        have z6 : w1.cell? ⟨w.heap.size, 6, none⟩ = some (.int .i64 tk) := (cell_of_row _ _ _ _ _ _ hq0).trans rfl
        have z7 : w1.cell? ⟨w.heap.size, 7, none⟩ = some (.int .i64 ba) := (cell_of_row _ _ _ _ _ _ hq0).trans rfl
        have z8 : w1.cell? ⟨w.heap.size, 8, none⟩ = some (.int .i64 bi) := (cell_of_row _ _ _ _ _ _ hq0).trans rfl
        have z9 : w1.cell? ⟨w.heap.size, 9, none⟩ = some (.slice sa1 sn1 sc1) := (cell_of_row _ _ _ _ _ _ hq0).trans rfl
        have z10 : w1.cell? ⟨w.heap.size, 10, none⟩ = some (.slice sa2 sn2 sc2) := (cell_of_row _ _ _ _ _ _ hq0).trans rfl
        have z11 : w1.cell? ⟨w.heap.size, 11, none⟩ = some (.slice sa3 sn3 sc3) := (cell_of_row _ _ _ _ _ _ hq0).trans rfl
        have z12 : w1.cell? ⟨w.heap.size, 12, none⟩ = some (.slice sa4 sn4 sc4) := (cell_of_row _ _ _ _ _ _ hq0).trans rfl
        have z13 : w1.cell? ⟨w.heap.size, 13, none⟩ = some (.slice sa5 sn5 sc5) := (cell_of_row _ _ _ _ _ _ hq0).trans rfl
        go_wp2_with fail
        refine hown.mono ?_
        rintro e w2 ⟨f2, rfl, hb, hQ⟩
        have hq1 := (hb.block _ (by omega)).trans hq1
        have hN2 := hN1.kept hb
        have hlt2 : w.heap.size + 1 < w2.heap.size := Nat.lt_of_lt_of_le (by omega) hb.size
        have y0 : w2.cell? ⟨w.heap.size + 1, 0, none⟩ = some (.int .u8 0) := (cell_of_row _ _ _ _ _ _ hq1).trans rfl
        have yf0 : w2.frozen? ⟨w.heap.size + 1, 0, none⟩ = false := frozen_of_row _ _ _ _ _ hq1
        have y1 : w2.cell? ⟨w.heap.size + 1, 1, none⟩ = some (.int .i64 0) := (cell_of_row _ _ _ _ _ _ hq1).trans rfl
        have yf1 : w2.frozen? ⟨w.heap.size + 1, 1, none⟩ = false := frozen_of_row _ _ _ _ _ hq1
        have y2 : w2.cell? ⟨w.heap.size + 1, 2, none⟩ = some (.int .i64 0) := (cell_of_row _ _ _ _ _ _ hq1).trans rfl
        have yf2 : w2.frozen? ⟨w.heap.size + 1, 2, none⟩ = false := frozen_of_row _ _ _ _ _ hq1
        have y3 : w2.cell? ⟨w.heap.size + 1, 3, none⟩ = some (.int .i64 0) := (cell_of_row _ _ _ _ _ _ hq1).trans rfl
        have yf3 : w2.frozen? ⟨w.heap.size + 1, 3, none⟩ = false := frozen_of_row _ _ _ _ _ hq1
        have y4 : w2.cell? ⟨w.heap.size + 1, 4, none⟩ = some (.int .i64 0) := (cell_of_row _ _ _ _ _ _ hq1).trans rfl
        have yf4 : w2.frozen? ⟨w.heap.size + 1, 4, none⟩ = false := frozen_of_row _ _ _ _ _ hq1
        have y5 : w2.cell? ⟨w.heap.size + 1, 5, none⟩ = some (.int .i64 0) := (cell_of_row _ _ _ _ _ _ hq1).trans rfl
        have yf5 : w2.frozen? ⟨w.heap.size + 1, 5, none⟩ = false := frozen_of_row _ _ _ _ _ hq1
        have y6 : w2.cell? ⟨w.heap.size + 1, 6, none⟩ = some (.int .i64 0) := (cell_of_row _ _ _ _ _ _ hq1).trans rfl
        have yf6 : w2.frozen? ⟨w.heap.size + 1, 6, none⟩ = false := frozen_of_row _ _ _ _ _ hq1
        have y7 : w2.cell? ⟨w.heap.size + 1, 7, none⟩ = some (.int .i64 0) := (cell_of_row _ _ _ _ _ _ hq1).trans rfl
        have yf7 : w2.frozen? ⟨w.heap.size + 1, 7, none⟩ = false := frozen_of_row _ _ _ _ _ hq1
        have y8 : w2.cell? ⟨w.heap.size + 1, 8, none⟩ = some (.int .i64 0) := (cell_of_row _ _ _ _ _ _ hq1).trans rfl
        have yf8 : w2.frozen? ⟨w.heap.size + 1, 8, none⟩ = false := frozen_of_row _ _ _ _ _ hq1
        have y9 : w2.cell? ⟨w.heap.size + 1, 9, none⟩ = some (.slice none 0 0) := (cell_of_row _ _ _ _ _ _ hq1).trans rfl
        have yf9 : w2.frozen? ⟨w.heap.size + 1, 9, none⟩ = false := frozen_of_row _ _ _ _ _ hq1
        have y10 : w2.cell? ⟨w.heap.size + 1, 10, none⟩ = some (.slice none 0 0) := (cell_of_row _ _ _ _ _ _ hq1).trans rfl
        have yf10 : w2.frozen? ⟨w.heap.size + 1, 10, none⟩ = false := frozen_of_row _ _ _ _ _ hq1
        have y11 : w2.cell? ⟨w.heap.size + 1, 11, none⟩ = some (.slice none 0 0) := (cell_of_row _ _ _ _ _ _ hq1).trans rfl
        have yf11 : w2.frozen? ⟨w.heap.size + 1, 11, none⟩ = false := frozen_of_row _ _ _ _ _ hq1
        have y12 : w2.cell? ⟨w.heap.size + 1, 12, none⟩ = some (.slice none 0 0) := (cell_of_row _ _ _ _ _ _ hq1).trans rfl
        have yf12 : w2.frozen? ⟨w.heap.size + 1, 12, none⟩ = false := frozen_of_row _ _ _ _ _ hq1
        have y13 : w2.cell? ⟨w.heap.size + 1, 13, none⟩ = some (.slice none 0 0) := (cell_of_row _ _ _ _ _ _ hq1).trans rfl
        have yf13 : w2.frozen? ⟨w.heap.size + 1, 13, none⟩ = false := frozen_of_row _ _ _ _ _ hq1
        simp only [Fr.val, Fr.cells]
        go_wp2_with fail
        refine bodyPost_ret (v := .tuple #[.agg #[.int .u8 f2.kind, .int .i64 f2.fa, .int .i64 f2.fi, .int .i64 f2.ta, .int .i64 f2.ti, .int .i64 f2.n, .int .i64 f2.token, .int .i64 f2.ba, .int .i64 f2.bi, .slice f2.ms.a f2.ms.n f2.ms.c, .slice f2.fs.a f2.fs.n f2.fs.c, .slice f2.rs.a f2.rs.n f2.rs.c, .slice f2.cs.a f2.cs.n f2.cs.c, .slice f2.ss.a f2.ss.n f2.ss.c], .bool true, .int .i64 0]) (by simp [results, Try.results11, go_sem, *]) rfl ?_
        have hSt : Stay w.heap.size w2 ((((((((((((((w2.setCell ⟨w.heap.size + 1, 0, none⟩ (.int .u8 f2.kind)).setCell ⟨w.heap.size + 1, 1, none⟩ (.int .i64 f2.fa)).setCell ⟨w.heap.size + 1, 2, none⟩ (.int .i64 f2.fi)).setCell ⟨w.heap.size + 1, 3, none⟩ (.int .i64 f2.ta)).setCell ⟨w.heap.size + 1, 4, none⟩ (.int .i64 f2.ti)).setCell ⟨w.heap.size + 1, 5, none⟩ (.int .i64 f2.n)).setCell ⟨w.heap.size + 1, 6, none⟩ (.int .i64 f2.token)).setCell ⟨w.heap.size + 1, 7, none⟩ (.int .i64 f2.ba)).setCell ⟨w.heap.size + 1, 8, none⟩ (.int .i64 f2.bi)).setCell ⟨w.heap.size + 1, 9, none⟩ (.slice f2.ms.a f2.ms.n f2.ms.c)).setCell ⟨w.heap.size + 1, 10, none⟩ (.slice f2.fs.a f2.fs.n f2.fs.c)).setCell ⟨w.heap.size + 1, 11, none⟩ (.slice f2.rs.a f2.rs.n f2.rs.c)).setCell ⟨w.heap.size + 1, 12, none⟩ (.slice f2.cs.a f2.cs.n f2.cs.c)).setCell ⟨w.heap.size + 1, 13, none⟩ (.slice f2.ss.a f2.ss.n f2.ss.c)) := (((((((((((((((Stay.refl w.heap.size w2).setCell (p := ⟨w.heap.size + 1, 0, none⟩) (.inr rfl) (.int .u8 f2.kind)).setCell (p := ⟨w.heap.size + 1, 1, none⟩) (.inr rfl) (.int .i64 f2.fa)).setCell (p := ⟨w.heap.size + 1, 2, none⟩) (.inr rfl) (.int .i64 f2.fi)).setCell (p := ⟨w.heap.size + 1, 3, none⟩) (.inr rfl) (.int .i64 f2.ta)).setCell (p := ⟨w.heap.size + 1, 4, none⟩) (.inr rfl) (.int .i64 f2.ti)).setCell (p := ⟨w.heap.size + 1, 5, none⟩) (.inr rfl) (.int .i64 f2.n)).setCell (p := ⟨w.heap.size + 1, 6, none⟩) (.inr rfl) (.int .i64 f2.token)).setCell (p := ⟨w.heap.size + 1, 7, none⟩) (.inr rfl) (.int .i64 f2.ba)).setCell (p := ⟨w.heap.size + 1, 8, none⟩) (.inr rfl) (.int .i64 f2.bi)).setCell (p := ⟨w.heap.size + 1, 9, none⟩) (.inr rfl) (.slice f2.ms.a f2.ms.n f2.ms.c)).setCell (p := ⟨w.heap.size + 1, 10, none⟩) (.inr rfl) (.slice f2.fs.a f2.fs.n f2.fs.c)).setCell (p := ⟨w.heap.size + 1, 11, none⟩) (.inr rfl) (.slice f2.rs.a f2.rs.n f2.rs.c)).setCell (p := ⟨w.heap.size + 1, 12, none⟩) (.inr rfl) (.slice f2.cs.a f2.cs.n f2.cs.c)).setCell (p := ⟨w.heap.size + 1, 13, none⟩) (.inr rfl) (.slice f2.ss.a f2.ss.n f2.ss.c))
        have hTu : Turn B (.slice oa n.l.length vcap) (.slice oa n.l.length vcap) w ((((((((((((((w2.setCell ⟨w.heap.size + 1, 0, none⟩ (.int .u8 f2.kind)).setCell ⟨w.heap.size + 1, 1, none⟩ (.int .i64 f2.fa)).setCell ⟨w.heap.size + 1, 2, none⟩ (.int .i64 f2.fi)).setCell ⟨w.heap.size + 1, 3, none⟩ (.int .i64 f2.ta)).setCell ⟨w.heap.size + 1, 4, none⟩ (.int .i64 f2.ti)).setCell ⟨w.heap.size + 1, 5, none⟩ (.int .i64 f2.n)).setCell ⟨w.heap.size + 1, 6, none⟩ (.int .i64 f2.token)).setCell ⟨w.heap.size + 1, 7, none⟩ (.int .i64 f2.ba)).setCell ⟨w.heap.size + 1, 8, none⟩ (.int .i64 f2.bi)).setCell ⟨w.heap.size + 1, 9, none⟩ (.slice f2.ms.a f2.ms.n f2.ms.c)).setCell ⟨w.heap.size + 1, 10, none⟩ (.slice f2.fs.a f2.fs.n f2.fs.c)).setCell ⟨w.heap.size + 1, 11, none⟩ (.slice f2.rs.a f2.rs.n f2.rs.c)).setCell ⟨w.heap.size + 1, 12, none⟩ (.slice f2.cs.a f2.cs.n f2.cs.c)).setCell ⟨w.heap.size + 1, 13, none⟩ (.slice f2.ss.a f2.ss.n f2.ss.c)) := (((((((((((((((hT1.trans (Turn.of_below hb)).setCell (p := ⟨w.heap.size + 1, 0, none⟩) (.inr (Nat.le_succ _)) (.int .u8 f2.kind)).setCell (p := ⟨w.heap.size + 1, 1, none⟩) (.inr (Nat.le_succ _)) (.int .i64 f2.fa)).setCell (p := ⟨w.heap.size + 1, 2, none⟩) (.inr (Nat.le_succ _)) (.int .i64 f2.fi)).setCell (p := ⟨w.heap.size + 1, 3, none⟩) (.inr (Nat.le_succ _)) (.int .i64 f2.ta)).setCell (p := ⟨w.heap.size + 1, 4, none⟩) (.inr (Nat.le_succ _)) (.int .i64 f2.ti)).setCell (p := ⟨w.heap.size + 1, 5, none⟩) (.inr (Nat.le_succ _)) (.int .i64 f2.n)).setCell (p := ⟨w.heap.size + 1, 6, none⟩) (.inr (Nat.le_succ _)) (.int .i64 f2.token)).setCell (p := ⟨w.heap.size + 1, 7, none⟩) (.inr (Nat.le_succ _)) (.int .i64 f2.ba)).setCell (p := ⟨w.heap.size + 1, 8, none⟩) (.inr (Nat.le_succ _)) (.int .i64 f2.bi)).setCell (p := ⟨w.heap.size + 1, 9, none⟩) (.inr (Nat.le_succ _)) (.slice f2.ms.a f2.ms.n f2.ms.c)).setCell (p := ⟨w.heap.size + 1, 10, none⟩) (.inr (Nat.le_succ _)) (.slice f2.fs.a f2.fs.n f2.fs.c)).setCell (p := ⟨w.heap.size + 1, 11, none⟩) (.inr (Nat.le_succ _)) (.slice f2.rs.a f2.rs.n f2.rs.c)).setCell (p := ⟨w.heap.size + 1, 12, none⟩) (.inr (Nat.le_succ _)) (.slice f2.cs.a f2.cs.n f2.cs.c)).setCell (p := ⟨w.heap.size + 1, 13, none⟩) (.inr (Nat.le_succ _)) (.slice f2.ss.a f2.ss.n f2.ss.c))
        generalize ((((((((((((((w2.setCell ⟨w.heap.size + 1, 0, none⟩ (.int .u8 f2.kind)).setCell ⟨w.heap.size + 1, 1, none⟩ (.int .i64 f2.fa)).setCell ⟨w.heap.size + 1, 2, none⟩ (.int .i64 f2.fi)).setCell ⟨w.heap.size + 1, 3, none⟩ (.int .i64 f2.ta)).setCell ⟨w.heap.size + 1, 4, none⟩ (.int .i64 f2.ti)).setCell ⟨w.heap.size + 1, 5, none⟩ (.int .i64 f2.n)).setCell ⟨w.heap.size + 1, 6, none⟩ (.int .i64 f2.token)).setCell ⟨w.heap.size + 1, 7, none⟩ (.int .i64 f2.ba)).setCell ⟨w.heap.size + 1, 8, none⟩ (.int .i64 f2.bi)).setCell ⟨w.heap.size + 1, 9, none⟩ (.slice f2.ms.a f2.ms.n f2.ms.c)).setCell ⟨w.heap.size + 1, 10, none⟩ (.slice f2.fs.a f2.fs.n f2.fs.c)).setCell ⟨w.heap.size + 1, 11, none⟩ (.slice f2.rs.a f2.rs.n f2.rs.c)).setCell ⟨w.heap.size + 1, 12, none⟩ (.slice f2.cs.a f2.cs.n f2.cs.c)).setCell ⟨w.heap.size + 1, 13, none⟩ (.slice f2.ss.a f2.ss.n f2.ss.c)) = V at hSt hTu ⊢
        refine ⟨f2, .slice oa n.l.length vcap, w1, w2, ?_, hQ, hTu, ?_, by omega, hb.size, hSt.size, fun k hk hk2 => hSt.block k hk2 (by omega) (by omega), fun k hk => .inl (hN1.vlt k hk).2⟩
        · rw [(HP.out f2).2, HF.out]; rfl
        · rw [(HP.out f2).1]; exact hN2.stay hSt ⟨Nat.ne_of_lt hlt, Nat.ne_of_lt (Nat.lt_succ_of_lt hlt)⟩ (fun k hk => ⟨Nat.ne_of_lt (hvl k hk).2, Nat.ne_of_lt (Nat.lt_succ_of_lt (hvl k hk).2)⟩)
      | some p =>
        obtain ⟨hpl, hpk, -⟩ := first_some hp
        have HP := Lib.hid (fun f => N.put_some HF.out hp hpl f)
        have hfe : (n.l.length : Int) = n.max := by simpa [N.full] using HF.out
        obtain ⟨r, hr⟩ : ∃ r, n.l.length = r + 1 := ⟨n.l.length - 1, by omega⟩
        obtain ⟨g, rfl, hPg, hgl, hgB⟩ : ∃ g, oa = some ⟨g, 0, none⟩ ∧ P ≤ g ∧ g < w.heap.size ∧ g ≠ B := by
          rcases h.shape with ⟨he, e⟩ | ⟨g, cap, he, hPg, hgl, -, -, hgB⟩
          · rw [e] at hr; simp at hr
          · simp only [Value.slice.injEq] at he
            exact ⟨g, he.1, hPg, hgl, hgB⟩
        obtain ⟨x0, x1, x2, x3, x4, x5, x6, x7, x8, x9, x10, x11, x12, x13⟩ := hN1.at_ p hpl
        have hnc : n.l.length ≤ vcap ∧ vcap ≤ 9223372036854775807 := by
          rcases h.shape with ⟨he, -⟩ | ⟨g, cap, he, -, -, h1, h2, -⟩
          · simp at he
          · simp only [Value.slice.injEq] at he
            obtain ⟨-, -, rfl⟩ := he
            exact ⟨h1, h2⟩
        obtain ⟨hnc1, hnc2⟩ := hnc
        obtain ⟨o, ho⟩ : ∃ o, o = n.l[p] := ⟨_, rfl⟩
        rw [← ho] at x0 x1 x2 x3 x4 x5 x6 x7 x8 x9 x10 x11 x12 x13
        have HOO := Lib.hid ho
        clear ho
        obtain ⟨ok, ofa, ofi, ota, oti, ofn, otk, oba, obi, ⟨ga1, gn1, gc1⟩, ⟨ga2, gn2, gc2⟩, ⟨ga3, gn3, gc3⟩, ⟨ga4, gn4, gc4⟩, ⟨ga5, gn5, gc5⟩⟩ := o
        simp only at x0 x1 x2 x3 x4 x5 x6 x7 x8 x9 x10 x11 x12 x13
        have y0 : w1.cell? ⟨w.heap.size + 1, 0, none⟩ = some (.int .u8 0) := (cell_of_row _ _ _ _ _ _ hq1).trans rfl
        have yf0 : w1.frozen? ⟨w.heap.size + 1, 0, none⟩ = false := frozen_of_row _ _ _ _ _ hq1
        have y1 : w1.cell? ⟨w.heap.size + 1, 1, none⟩ = some (.int .i64 0) := (cell_of_row _ _ _ _ _ _ hq1).trans rfl
        have yf1 : w1.frozen? ⟨w.heap.size + 1, 1, none⟩ = false := frozen_of_row _ _ _ _ _ hq1
        have y2 : w1.cell? ⟨w.heap.size + 1, 2, none⟩ = some (.int .i64 0) := (cell_of_row _ _ _ _ _ _ hq1).trans rfl
        have yf2 : w1.frozen? ⟨w.heap.size + 1, 2, none⟩ = false := frozen_of_row _ _ _ _ _ hq1
        have y3 : w1.cell? ⟨w.heap.size + 1, 3, none⟩ = some (.int .i64 0) := (cell_of_row _ _ _ _ _ _ hq1).trans rfl
        have yf3 : w1.frozen? ⟨w.heap.size + 1, 3, none⟩ = false := frozen_of_row _ _ _ _ _ hq1
        have y4 : w1.cell? ⟨w.heap.size + 1, 4, none⟩ = some (.int .i64 0) := (cell_of_row _ _ _ _ _ _ hq1).trans rfl
        have yf4 : w1.frozen? ⟨w.heap.size + 1, 4, none⟩ = false := frozen_of_row _ _ _ _ _ hq1
        have y5 : w1.cell? ⟨w.heap.size + 1, 5, none⟩ = some (.int .i64 0) := (cell_of_row _ _ _ _ _ _ hq1).trans rfl
        have yf5 : w1.frozen? ⟨w.heap.size + 1, 5, none⟩ = false := frozen_of_row _ _ _ _ _ hq1
        have y6 : w1.cell? ⟨w.heap.size + 1, 6, none⟩ = some (.int .i64 0) := (cell_of_row _ _ _ _ _ _ hq1).trans rfl
        have yf6 : w1.frozen? ⟨w.heap.size + 1, 6, none⟩ = false := frozen_of_row _ _ _ _ _ hq1
        have y7 : w1.cell? ⟨w.heap.size + 1, 7, none⟩ = some (.int .i64 0) := (cell_of_row _ _ _ _ _ _ hq1).trans rfl
        have yf7 : w1.frozen? ⟨w.heap.size + 1, 7, none⟩ = false := frozen_of_row _ _ _ _ _ hq1
        have y8 : w1.cell? ⟨w.heap.size + 1, 8, none⟩ = some (.int .i64 0) := (cell_of_row _ _ _ _ _ _ hq1).trans rfl
        have yf8 : w1.frozen? ⟨w.heap.size + 1, 8, none⟩ = false := frozen_of_row _ _ _ _ _ hq1
        have y9 : w1.cell? ⟨w.heap.size + 1, 9, none⟩ = some (.slice none 0 0) := (cell_of_row _ _ _ _ _ _ hq1).trans rfl
        have yf9 : w1.frozen? ⟨w.heap.size + 1, 9, none⟩ = false := frozen_of_row _ _ _ _ _ hq1
        have y10 : w1.cell? ⟨w.heap.size + 1, 10, none⟩ = some (.slice none 0 0) := (cell_of_row _ _ _ _ _ _ hq1).trans rfl
        have yf10 : w1.frozen? ⟨w.heap.size + 1, 10, none⟩ = false := frozen_of_row _ _ _ _ _ hq1
        have y11 : w1.cell? ⟨w.heap.size + 1, 11, none⟩ = some (.slice none 0 0) := (cell_of_row _ _ _ _ _ _ hq1).trans rfl
        have yf11 : w1.frozen? ⟨w.heap.size + 1, 11, none⟩ = false := frozen_of_row _ _ _ _ _ hq1
        have y12 : w1.cell? ⟨w.heap.size + 1, 12, none⟩ = some (.slice none 0 0) := (cell_of_row _ _ _ _ _ _ hq1).trans rfl
        have yf12 : w1.frozen? ⟨w.heap.size + 1, 12, none⟩ = false := frozen_of_row _ _ _ _ _ hq1
        have y13 : w1.cell? ⟨w.heap.size + 1, 13, none⟩ = some (.slice none 0 0) := (cell_of_row _ _ _ _ _ _ hq1).trans rfl
        have yf13 : w1.frozen? ⟨w.heap.size + 1, 13, none⟩ = false := frozen_of_row _ _ _ _ _ hq1
        simp only [place]
        have hql1 : w.heap.size + 1 < w1.heap.size := by omega
        have HS := Lib.hid (And.intro hfe (And.intro hT1 (And.intro hN1 (And.intro hq0 (And.intro hq1 (And.intro hs1 hr))))))
        have hpr : (p : Int) + 1 ≤ n.l.length := by omega
        clear hfe hT1 hN1 hq0 hq1 hs1 h hp hpk hr
        go_wp2_with fail
        have hM := Mid.of ⟨ok, ofa, ofi, ota, oti, ofn, otk, oba, obi, ⟨ga1, gn1, gc1⟩, ⟨ga2, gn2, gc2⟩, ⟨ga3, gn3, gc3⟩, ⟨ga4, gn4, gc4⟩, ⟨ga5, gn5, gc5⟩⟩ HS.out.2.2.1 HS.out.2.1 HS.out.2.2.2.1 HS.out.2.2.2.2.1 HS.out.2.2.2.2.2.1 hlt (fun k hk => (hvl k hk).2)
        have hM : Mid P B (.slice (some ⟨g, 0, none⟩) n.l.length vcap) n ⟨ok, ofa, ofi, ota, oti, ofn, otk, oba, obi, ⟨ga1, gn1, gc1⟩, ⟨ga2, gn2, gc2⟩, ⟨ga3, gn3, gc3⟩, ⟨ga4, gn4, gc4⟩, ⟨ga5, gn5, gc5⟩⟩ #[.int .u8 k, .int .i64 fa, .int .i64 fi, .int .i64 ta, .int .i64 ti, .int .i64 fn, .int .i64 tk, .int .i64 ba, .int .i64 bi, .slice sa1 sn1 sc1, .slice sa2 sn2 sc2, .slice sa3 sn3 sc3, .slice sa4 sn4 sc4, .slice sa5 sn5 sc5] w ((((((((((((((w1.setCell ⟨w.heap.size + 1, 0, none⟩ (.int .u8 ok)).setCell ⟨w.heap.size + 1, 1, none⟩ (.int .i64 ofa)).setCell ⟨w.heap.size + 1, 2, none⟩ (.int .i64 ofi)).setCell ⟨w.heap.size + 1, 3, none⟩ (.int .i64 ota)).setCell ⟨w.heap.size + 1, 4, none⟩ (.int .i64 oti)).setCell ⟨w.heap.size + 1, 5, none⟩ (.int .i64 ofn)).setCell ⟨w.heap.size + 1, 6, none⟩ (.int .i64 otk)).setCell ⟨w.heap.size + 1, 7, none⟩ (.int .i64 oba)).setCell ⟨w.heap.size + 1, 8, none⟩ (.int .i64 obi)).setCell ⟨w.heap.size + 1, 9, none⟩ (.slice ga1 gn1 gc1)).setCell ⟨w.heap.size + 1, 10, none⟩ (.slice ga2 gn2 gc2)).setCell ⟨w.heap.size + 1, 11, none⟩ (.slice ga3 gn3 gc3)).setCell ⟨w.heap.size + 1, 12, none⟩ (.slice ga4 gn4 gc4)).setCell ⟨w.heap.size + 1, 13, none⟩ (.slice ga5 gn5 gc5)) := hM
        generalize ((((((((((((((w1.setCell ⟨w.heap.size + 1, 0, none⟩ (.int .u8 ok)).setCell ⟨w.heap.size + 1, 1, none⟩ (.int .i64 ofa)).setCell ⟨w.heap.size + 1, 2, none⟩ (.int .i64 ofi)).setCell ⟨w.heap.size + 1, 3, none⟩ (.int .i64 ota)).setCell ⟨w.heap.size + 1, 4, none⟩ (.int .i64 oti)).setCell ⟨w.heap.size + 1, 5, none⟩ (.int .i64 ofn)).setCell ⟨w.heap.size + 1, 6, none⟩ (.int .i64 otk)).setCell ⟨w.heap.size + 1, 7, none⟩ (.int .i64 oba)).setCell ⟨w.heap.size + 1, 8, none⟩ (.int .i64 obi)).setCell ⟨w.heap.size + 1, 9, none⟩ (.slice ga1 gn1 gc1)).setCell ⟨w.heap.size + 1, 10, none⟩ (.slice ga2 gn2 gc2)).setCell ⟨w.heap.size + 1, 11, none⟩ (.slice ga3 gn3 gc3)).setCell ⟨w.heap.size + 1, 12, none⟩ (.slice ga4 gn4 gc4)).setCell ⟨w.heap.size + 1, 13, none⟩ (.slice ga5 gn5 gc5)) = V at hM ⊢
        have hrow := hM.nt.row
        have c1 := hM.nt.reads.2
        have fB0 := hM.nt.free 1
        have hltV := hM.nt.lt
        have HM := Lib.hid hM
        clear hM
        refine (del_len P g vcap n.l.length r HS.out.2.2.2.2.2.2 (rows n.l) p V hrow hpl (rows_one _)).mono ?_
        rintro e w2 ⟨rfl, hr2, hg2⟩
        have hBg : B ≠ g := fun e => hgB e.symm
        have fB := (hg2.frozen_far ⟨B, 1, none⟩ hltV (fun e => hBg (Option.some.inj e))).trans fB0
        have cB := (hg2.cell_far ⟨B, 1, none⟩ hltV (fun e => hBg (Option.some.inj e))).trans c1
        have HS2 := Lib.hid (HM.out.del HS.out.2.2.2.2.2.2 HS.out.1 hpl hgl hgB hlt hr2 hg2 (fun f => by rw [HOO.out]; exact HP.out f) HF.out)
        clear hr2 hg2 hrow c1 fB0
        go_wp2_with fail
        go_meet
        case rel => exact HS2.out
  case rest =>
    obtain ⟨rfl, v', n', o, hN, hnf, hput, hT, hq0, hq1, hsz, hv0, hv1⟩ := hcut
    obtain ⟨oa2, vcap2, rfl⟩ := hN.len_form
    obtain ⟨ok, ofa, ofi, ota, oti, ofn, otk, oba, obi, ⟨ga1, gn1, gc1⟩, ⟨ga2, gn2, gc2⟩, ⟨ga3, gn3, gc3⟩, ⟨ga4, gn4, gc4⟩, ⟨ga5, gn5, gc5⟩⟩ := o
    simp only [Fr.cells] at hq1
    have hPB := hN.pB
    have hle2 := hN.ok.le
    have hmm2 := hN.ok.m2
    have hne2 := hN.ne
    have hlt2 := hN.lt
    clear c0 c1
    have c1 : wc.drew.cell? ⟨B, 1, none⟩ = some (.slice oa2 n'.l.length vcap2) := hN.reads.2
    have hown := HO.out (.slice oa2 n'.l.length vcap2) wc.drew hT.drew (fun k hk => (hN.vlt k hk).2)
    simp only [Fr.val, Fr.cells] at hown
    have hq0d : wc.drew.heap[w.heap.size]? = some (.cells #[.int .u8 k, .int .i64 fa, .int .i64 fi, .int .i64 ta, .int .i64 ti, .int .i64 fn, .int .i64 tk, .int .i64 ba, .int .i64 bi, .slice sa1 sn1 sc1, .slice sa2 sn2 sc2, .slice sa3 sn3 sc3, .slice sa4 sn4 sc4, .slice sa5 sn5 sc5] 38 (0, 0)) := hq0
    have z0 : wc.drew.cell? ⟨w.heap.size, 0, none⟩ = some (.int .u8 k) := (cell_of_row _ _ _ _ _ _ hq0d).trans rfl
    have z1 : wc.drew.cell? ⟨w.heap.size, 1, none⟩ = some (.int .i64 fa) := (cell_of_row _ _ _ _ _ _ hq0d).trans rfl
    have z2 : wc.drew.cell? ⟨w.heap.size, 2, none⟩ = some (.int .i64 fi) := (cell_of_row _ _ _ _ _ _ hq0d).trans rfl
    have z3 : wc.drew.cell? ⟨w.heap.size, 3, none⟩ = some (.int .i64 ta) := (cell_of_row _ _ _ _ _ _ hq0d).trans rfl
    have z4 : wc.drew.cell? ⟨w.heap.size, 4, none⟩ = some (.int .i64 ti) := (cell_of_row _ _ _ _ _ _ hq0d).trans rfl
    have z5 : wc.drew.cell? ⟨w.heap.size, 5, none⟩ = some (.int .i64 fn) := (cell_of_row _ _ _ _ _ _ hq0d).trans rfl
    have z6 : wc.drew.cell? ⟨w.heap.size, 6, none⟩ = some (.int .i64 tk) := (cell_of_row _ _ _ _ _ _ hq0d).trans rfl
    have z7 : wc.drew.cell? ⟨w.heap.size, 7, none⟩ = some (.int .i64 ba) := (cell_of_row _ _ _ _ _ _ hq0d).trans rfl
    have z8 : wc.drew.cell? ⟨w.heap.size, 8, none⟩ = some (.int .i64 bi) := (cell_of_row _ _ _ _ _ _ hq0d).trans rfl
    have z9 : wc.drew.cell? ⟨w.heap.size, 9, none⟩ = some (.slice sa1 sn1 sc1) := (cell_of_row _ _ _ _ _ _ hq0d).trans rfl
    have z10 : wc.drew.cell? ⟨w.heap.size, 10, none⟩ = some (.slice sa2 sn2 sc2) := (cell_of_row _ _ _ _ _ _ hq0d).trans rfl
    have z11 : wc.drew.cell? ⟨w.heap.size, 11, none⟩ = some (.slice sa3 sn3 sc3) := (cell_of_row _ _ _ _ _ _ hq0d).trans rfl
    have z12 : wc.drew.cell? ⟨w.heap.size, 12, none⟩ = some (.slice sa4 sn4 sc4) := (cell_of_row _ _ _ _ _ _ hq0d).trans rfl
    have z13 : wc.drew.cell? ⟨w.heap.size, 13, none⟩ = some (.slice sa5 sn5 sc5) := (cell_of_row _ _ _ _ _ _ hq0d).trans rfl
    have HC := Lib.hid (And.intro hN (And.intro hnf (And.intro hput (And.intro hT hq1))))
    clear hN hnf hput hT hq1 hq0 hq0d
    go_wp2_with fail
    refine wp_region_any (by kernel_rfl) ?_
    try (change wpAny _ _ _ _ _ _ _ (World.drew _))
    refine wpAny_take (i := 0) (v := ?_) rfl (by kernel_rfl) (by kernel_rfl) (by kernel_rfl) (fun _ _ _ h => h) (Or.inl ⟨by rfl, ?_⟩) ?_
    rotate_left
    · (intro w; go_simp) <;> with_reducible rfl
    refine wpAny_take (i := 1) (v := ?_) rfl (by kernel_rfl) (by kernel_rfl) (by kernel_rfl) (fun _ _ _ h => h) (Or.inl ⟨by rfl, ?_⟩) ?_
    rotate_left
    · (intro w; go_simp) <;> with_reducible rfl
    refine wpAny_take (i := 2) (v := ?_) rfl (by kernel_rfl) (by kernel_rfl) (by kernel_rfl) (fun _ _ _ h => h) (Or.inl ⟨by rfl, ?_⟩) ?_
    rotate_left
    · (intro w; go_simp) <;> with_reducible rfl
    refine wpAny_take (i := 3) (v := ?_) rfl (by kernel_rfl) (by kernel_rfl) (by kernel_rfl) (fun _ _ _ h => h) (Or.inl ⟨by rfl, ?_⟩) ?_
    rotate_left
    · (intro w; go_simp) <;> with_reducible rfl
    refine wpAny_of_till (S := fun x => x.cell? ⟨B, 1, none⟩ = some (.slice oa2 n'.l.length vcap2)) (k := 8) _ _ _ _ ?_
    have hS : (fun x : World => x.cell? ⟨B, 1, none⟩ = some (.slice oa2 n'.l.length vcap2)) _ := c1
    refine wpTill_take (i := 4) (v := .slice oa2 n'.l.length vcap2) rfl (by kernel_rfl) (by kernel_rfl) (by kernel_rfl) (by kernel_rfl) (fun _ _ _ h => h) (Or.inl ⟨by rfl, ?_⟩) hS ?_
    · intro w hSw; (try dsimp only at hSw); (try obtain ⟨x0⟩ := hSw); go_simp
    try simp only [Act.put, List.setIfInBounds_toArray, List.set_cons_zero, List.set_cons_succ]
    refine wpTill_one (i := 5) (by kernel_rfl) rfl (by kernel_rfl) (fun K hK => ?_)
    go_simp
    refine hK.out _ _ hS ?_; clear hK K
    try simp only [Act.put, List.setIfInBounds_toArray, List.set_cons_zero, List.set_cons_succ]
    refine wpTill_one (i := 6) (by kernel_rfl) rfl (by kernel_rfl) (fun K hK => ?_)
    go_simp
    refine hown.mono ?_
    rintro e w2 ⟨f2, rfl, hb, hQ⟩
    have HQ := Lib.hid hQ
    clear hQ hS
    have c1 := (hb.cell (p := ⟨B, 1, none⟩) hlt2).trans c1
    have hS : (fun x : World => x.cell? ⟨B, 1, none⟩ = some (.slice oa2 n'.l.length vcap2)) w2 := c1
    simp only [Fr.val, Fr.cells]
    go_wp2_with fail
    refine hK.out _ _ hS ?_; clear hK K
    try simp only [Act.put, List.setIfInBounds_toArray, List.set_cons_zero, List.set_cons_succ]
    refine wpTill_one (i := 7) (by kernel_rfl) rfl (by kernel_rfl) (fun K hK => ?_)
    go_simp
    clear hS
    have hS : (fun x : World => x.cell? ⟨B, 1, none⟩ = some (.slice oa2 n'.l.length vcap2)) (w2.alloc (.cells #[.int .u8 f2.kind, .int .i64 f2.fa, .int .i64 f2.fi, .int .i64 f2.ta, .int .i64 f2.ti, .int .i64 f2.n, .int .i64 f2.token, .int .i64 f2.ba, .int .i64 f2.bi, .slice f2.ms.a f2.ms.n f2.ms.c, .slice f2.fs.a f2.fs.n f2.fs.c, .slice f2.rs.a f2.rs.n f2.rs.c, .slice f2.cs.a f2.cs.n f2.cs.c, .slice f2.ss.a f2.ss.n f2.ss.c] 38)) := ((Below.refl _ _).alloc (Nat.le_refl _) _ |>.cell (p := ⟨B, 1, none⟩) (Nat.lt_of_lt_of_le hlt2 hb.size)).trans c1
    refine hK.out _ _ hS ?_; clear hK K
    try simp only [Act.put, List.setIfInBounds_toArray, List.set_cons_zero, List.set_cons_succ]
    obtain ⟨hN, hnf, hput, hT, hq1⟩ := HC.out
    have hNd := (hN.drew.kept hb)
    have hNa := hNd.alloc (.cells #[.int .u8 f2.kind, .int .i64 f2.fa, .int .i64 f2.fi, .int .i64 f2.ta, .int .i64 f2.ti, .int .i64 f2.n, .int .i64 f2.token, .int .i64 f2.ba, .int .i64 f2.bi, .slice f2.ms.a f2.ms.n f2.ms.c, .slice f2.fs.a f2.fs.n f2.fs.c, .slice f2.rs.a f2.rs.n f2.rs.c, .slice f2.cs.a f2.cs.n f2.cs.c, .slice f2.ss.a f2.ss.n f2.ss.c] 38)
    have hn1 : n'.l.length + 1 ≤ maxLen := by unfold maxLen; omega
    have hn2 : (n'.l.length + 1) * 192 ≤ 140737488355328 := by omega
    have hs2 : wc.heap.size ≤ w2.heap.size := hb.size
    refine wpTill_end (by kernel_rfl) rfl (fun K hK => ?_)
    refine step_append_lies _ (by rfl) _ _ _ (by rfl) P 38 i0 _ 14 192 Try.underlying45 hi0 hz0 hz1 hz2 rfl (by omega) (.slice oa2 n'.l.length vcap2) n'.l.length (rows n'.l) (by rfl) hNa.row ⟨w2.heap.size, 0, none⟩ 1 1 [.int .u8 f2.kind, .int .i64 f2.fa, .int .i64 f2.fi, .int .i64 f2.ta, .int .i64 f2.ti, .int .i64 f2.n, .int .i64 f2.token, .int .i64 f2.ba, .int .i64 f2.bi, .slice f2.ms.a f2.ms.n f2.ms.c, .slice f2.fs.a f2.fs.n f2.fs.c, .slice f2.rs.a f2.rs.n f2.rs.c, .slice f2.cs.a f2.cs.n f2.cs.c, .slice f2.ss.a f2.ss.n f2.ss.c] (by rfl) (by rfl) (World.news_of_block (cs := #[.int .u8 f2.kind, .int .i64 f2.fa, .int .i64 f2.fi, .int .i64 f2.ta, .int .i64 f2.ti, .int .i64 f2.n, .int .i64 f2.token, .int .i64 f2.ba, .int .i64 f2.bi, .slice f2.ms.a f2.ms.n f2.ms.c, .slice f2.fs.a f2.fs.n f2.fs.c, .slice f2.rs.a f2.rs.n f2.rs.c, .slice f2.cs.a f2.cs.n f2.cs.c, .slice f2.ss.a f2.ss.n f2.ss.c]) (t := 38) (fr := (0, 0)) (hnb _ _)) f2.one (by omega) hn1 hn2 (by simp; omega) (w2.heap.size + 1) (by simp) ?_
    intro gg cap w3 hown1 hgrow hat hl1
    try go_simp
    refine hK.out _ _ ?_; clear hK K
    have fB := (hgrow.frozen_far ⟨B, 1, none⟩ hNa.lt (Ne.symm hne2)).trans (hNa.free 1)
    have cB := (hgrow.cell_far ⟨B, 1, none⟩ hNa.lt (Ne.symm hne2)).trans hNa.reads.2
    clear hS c1
    refine wpAny_take (i := 9) (v := ?_) rfl (by kernel_rfl) (by kernel_rfl) (by kernel_rfl) (fun _ _ _ h => h) (Or.inl ⟨by rfl, ?_⟩) ?_
    rotate_left
    · (intro w; go_simp) <;> with_reducible rfl
    refine wpAny_take (i := 10) (v := ?_) rfl (by kernel_rfl) (by kernel_rfl) (by kernel_rfl) (fun _ _ _ h => h) (Or.inl ⟨by rfl, ?_⟩) ?_
    rotate_left
    · (intro w; go_simp) <;> with_reducible rfl
    refine wpAny_one (i := 11) (by kernel_rfl) rfl (fun K hK => ?_)
    go_simp
    refine hK.out _ _ ?_; clear hK K
    refine wpAny_done (by kernel_rfl) ?_ _
    go_simp
    have hE := put_close (v := .slice oa n.l.length vcap) hN hnf hT hq1 hsz hlt hv0 hv1 hb hown1 hgrow hat
    have hqlt : w.heap.size + 1 < (w3.setCell ⟨B, 1, none⟩ (.slice (some ⟨gg, 0, none⟩) (n'.l.length + 1) cap)).heap.size := by have h1 := hE.s4; have h2 := hE.s2; omega
    have hq2 := hE.q1
    have HZ := Lib.hid (And.intro hE (And.intro hput hsz))
    clear hE hput hown1 hgrow hat hl1 fB cB hb hNa hNd hN hT hq1 hs2 hown hnf hv0 hv1
    generalize (w3.setCell ⟨B, 1, none⟩ (.slice (some ⟨gg, 0, none⟩) (n'.l.length + 1) cap)) = Z at HZ hq2 hqlt ⊢
    clear z0
    clear z1
    clear z2
    clear z3
    clear z4
    clear z5
    clear z6
    clear z7
    clear z8
    clear z9
    clear z10
    clear z11
    clear z12
    clear z13
    have y0 : Z.cell? ⟨w.heap.size + 1, 0, none⟩ = some (.int .u8 ok) := (cell_of_row _ _ _ _ _ _ hq2).trans rfl
    have yf0 : Z.frozen? ⟨w.heap.size + 1, 0, none⟩ = false := frozen_of_row _ _ _ _ _ hq2
    have y1 : Z.cell? ⟨w.heap.size + 1, 1, none⟩ = some (.int .i64 ofa) := (cell_of_row _ _ _ _ _ _ hq2).trans rfl
    have yf1 : Z.frozen? ⟨w.heap.size + 1, 1, none⟩ = false := frozen_of_row _ _ _ _ _ hq2
    have y2 : Z.cell? ⟨w.heap.size + 1, 2, none⟩ = some (.int .i64 ofi) := (cell_of_row _ _ _ _ _ _ hq2).trans rfl
    have yf2 : Z.frozen? ⟨w.heap.size + 1, 2, none⟩ = false := frozen_of_row _ _ _ _ _ hq2
    have y3 : Z.cell? ⟨w.heap.size + 1, 3, none⟩ = some (.int .i64 ota) := (cell_of_row _ _ _ _ _ _ hq2).trans rfl
    have yf3 : Z.frozen? ⟨w.heap.size + 1, 3, none⟩ = false := frozen_of_row _ _ _ _ _ hq2
    have y4 : Z.cell? ⟨w.heap.size + 1, 4, none⟩ = some (.int .i64 oti) := (cell_of_row _ _ _ _ _ _ hq2).trans rfl
    have yf4 : Z.frozen? ⟨w.heap.size + 1, 4, none⟩ = false := frozen_of_row _ _ _ _ _ hq2
    have y5 : Z.cell? ⟨w.heap.size + 1, 5, none⟩ = some (.int .i64 ofn) := (cell_of_row _ _ _ _ _ _ hq2).trans rfl
    have yf5 : Z.frozen? ⟨w.heap.size + 1, 5, none⟩ = false := frozen_of_row _ _ _ _ _ hq2
    have y6 : Z.cell? ⟨w.heap.size + 1, 6, none⟩ = some (.int .i64 otk) := (cell_of_row _ _ _ _ _ _ hq2).trans rfl
    have yf6 : Z.frozen? ⟨w.heap.size + 1, 6, none⟩ = false := frozen_of_row _ _ _ _ _ hq2
    have y7 : Z.cell? ⟨w.heap.size + 1, 7, none⟩ = some (.int .i64 oba) := (cell_of_row _ _ _ _ _ _ hq2).trans rfl
    have yf7 : Z.frozen? ⟨w.heap.size + 1, 7, none⟩ = false := frozen_of_row _ _ _ _ _ hq2
    have y8 : Z.cell? ⟨w.heap.size + 1, 8, none⟩ = some (.int .i64 obi) := (cell_of_row _ _ _ _ _ _ hq2).trans rfl
    have yf8 : Z.frozen? ⟨w.heap.size + 1, 8, none⟩ = false := frozen_of_row _ _ _ _ _ hq2
    have y9 : Z.cell? ⟨w.heap.size + 1, 9, none⟩ = some (.slice ga1 gn1 gc1) := (cell_of_row _ _ _ _ _ _ hq2).trans rfl
    have yf9 : Z.frozen? ⟨w.heap.size + 1, 9, none⟩ = false := frozen_of_row _ _ _ _ _ hq2
    have y10 : Z.cell? ⟨w.heap.size + 1, 10, none⟩ = some (.slice ga2 gn2 gc2) := (cell_of_row _ _ _ _ _ _ hq2).trans rfl
    have yf10 : Z.frozen? ⟨w.heap.size + 1, 10, none⟩ = false := frozen_of_row _ _ _ _ _ hq2
    have y11 : Z.cell? ⟨w.heap.size + 1, 11, none⟩ = some (.slice ga3 gn3 gc3) := (cell_of_row _ _ _ _ _ _ hq2).trans rfl
    have yf11 : Z.frozen? ⟨w.heap.size + 1, 11, none⟩ = false := frozen_of_row _ _ _ _ _ hq2
    have y12 : Z.cell? ⟨w.heap.size + 1, 12, none⟩ = some (.slice ga4 gn4 gc4) := (cell_of_row _ _ _ _ _ _ hq2).trans rfl
    have yf12 : Z.frozen? ⟨w.heap.size + 1, 12, none⟩ = false := frozen_of_row _ _ _ _ _ hq2
    have y13 : Z.cell? ⟨w.heap.size + 1, 13, none⟩ = some (.slice ga5 gn5 gc5) := (cell_of_row _ _ _ _ _ _ hq2).trans rfl
    have yf13 : Z.frozen? ⟨w.heap.size + 1, 13, none⟩ = false := frozen_of_row _ _ _ _ _ hq2
    go_wp2_with fail
    refine bodyPost_ret (v := .tuple #[.agg #[.int .u8 ok, .int .i64 ofa, .int .i64 ofi, .int .i64 ota, .int .i64 oti, .int .i64 ofn, .int .i64 otk, .int .i64 oba, .int .i64 obi, .slice ga1 gn1 gc1, .slice ga2 gn2 gc2, .slice ga3 gn3 gc3, .slice ga4 gn4 gc4, .slice ga5 gn5 gc5], .bool n.full, .int .i64 0]) (by simp [results, Try.results11, go_sem, *]) rfl ?_
    have hSt : Stay w.heap.size Z ((((((((((((((Z.setCell ⟨w.heap.size + 1, 0, none⟩ (.int .u8 ok)).setCell ⟨w.heap.size + 1, 1, none⟩ (.int .i64 ofa)).setCell ⟨w.heap.size + 1, 2, none⟩ (.int .i64 ofi)).setCell ⟨w.heap.size + 1, 3, none⟩ (.int .i64 ota)).setCell ⟨w.heap.size + 1, 4, none⟩ (.int .i64 oti)).setCell ⟨w.heap.size + 1, 5, none⟩ (.int .i64 ofn)).setCell ⟨w.heap.size + 1, 6, none⟩ (.int .i64 otk)).setCell ⟨w.heap.size + 1, 7, none⟩ (.int .i64 oba)).setCell ⟨w.heap.size + 1, 8, none⟩ (.int .i64 obi)).setCell ⟨w.heap.size + 1, 9, none⟩ (.slice ga1 gn1 gc1)).setCell ⟨w.heap.size + 1, 10, none⟩ (.slice ga2 gn2 gc2)).setCell ⟨w.heap.size + 1, 11, none⟩ (.slice ga3 gn3 gc3)).setCell ⟨w.heap.size + 1, 12, none⟩ (.slice ga4 gn4 gc4)).setCell ⟨w.heap.size + 1, 13, none⟩ (.slice ga5 gn5 gc5)) := (((((((((((((((Stay.refl w.heap.size Z).setCell (p := ⟨w.heap.size + 1, 0, none⟩) (.inr rfl) (.int .u8 ok)).setCell (p := ⟨w.heap.size + 1, 1, none⟩) (.inr rfl) (.int .i64 ofa)).setCell (p := ⟨w.heap.size + 1, 2, none⟩) (.inr rfl) (.int .i64 ofi)).setCell (p := ⟨w.heap.size + 1, 3, none⟩) (.inr rfl) (.int .i64 ota)).setCell (p := ⟨w.heap.size + 1, 4, none⟩) (.inr rfl) (.int .i64 oti)).setCell (p := ⟨w.heap.size + 1, 5, none⟩) (.inr rfl) (.int .i64 ofn)).setCell (p := ⟨w.heap.size + 1, 6, none⟩) (.inr rfl) (.int .i64 otk)).setCell (p := ⟨w.heap.size + 1, 7, none⟩) (.inr rfl) (.int .i64 oba)).setCell (p := ⟨w.heap.size + 1, 8, none⟩) (.inr rfl) (.int .i64 obi)).setCell (p := ⟨w.heap.size + 1, 9, none⟩) (.inr rfl) (.slice ga1 gn1 gc1)).setCell (p := ⟨w.heap.size + 1, 10, none⟩) (.inr rfl) (.slice ga2 gn2 gc2)).setCell (p := ⟨w.heap.size + 1, 11, none⟩) (.inr rfl) (.slice ga3 gn3 gc3)).setCell (p := ⟨w.heap.size + 1, 12, none⟩) (.inr rfl) (.slice ga4 gn4 gc4)).setCell (p := ⟨w.heap.size + 1, 13, none⟩) (.inr rfl) (.slice ga5 gn5 gc5))
    have hTu : Turn B (.slice oa n.l.length vcap) (.slice (some ⟨gg, 0, none⟩) (n'.l.length + 1) cap) w ((((((((((((((Z.setCell ⟨w.heap.size + 1, 0, none⟩ (.int .u8 ok)).setCell ⟨w.heap.size + 1, 1, none⟩ (.int .i64 ofa)).setCell ⟨w.heap.size + 1, 2, none⟩ (.int .i64 ofi)).setCell ⟨w.heap.size + 1, 3, none⟩ (.int .i64 ota)).setCell ⟨w.heap.size + 1, 4, none⟩ (.int .i64 oti)).setCell ⟨w.heap.size + 1, 5, none⟩ (.int .i64 ofn)).setCell ⟨w.heap.size + 1, 6, none⟩ (.int .i64 otk)).setCell ⟨w.heap.size + 1, 7, none⟩ (.int .i64 oba)).setCell ⟨w.heap.size + 1, 8, none⟩ (.int .i64 obi)).setCell ⟨w.heap.size + 1, 9, none⟩ (.slice ga1 gn1 gc1)).setCell ⟨w.heap.size + 1, 10, none⟩ (.slice ga2 gn2 gc2)).setCell ⟨w.heap.size + 1, 11, none⟩ (.slice ga3 gn3 gc3)).setCell ⟨w.heap.size + 1, 12, none⟩ (.slice ga4 gn4 gc4)).setCell ⟨w.heap.size + 1, 13, none⟩ (.slice ga5 gn5 gc5)) := ((((((((((((((HZ.out.1.turn.setCell (p := ⟨w.heap.size + 1, 0, none⟩) (.inr (Nat.le_succ _)) (.int .u8 ok)).setCell (p := ⟨w.heap.size + 1, 1, none⟩) (.inr (Nat.le_succ _)) (.int .i64 ofa)).setCell (p := ⟨w.heap.size + 1, 2, none⟩) (.inr (Nat.le_succ _)) (.int .i64 ofi)).setCell (p := ⟨w.heap.size + 1, 3, none⟩) (.inr (Nat.le_succ _)) (.int .i64 ota)).setCell (p := ⟨w.heap.size + 1, 4, none⟩) (.inr (Nat.le_succ _)) (.int .i64 oti)).setCell (p := ⟨w.heap.size + 1, 5, none⟩) (.inr (Nat.le_succ _)) (.int .i64 ofn)).setCell (p := ⟨w.heap.size + 1, 6, none⟩) (.inr (Nat.le_succ _)) (.int .i64 otk)).setCell (p := ⟨w.heap.size + 1, 7, none⟩) (.inr (Nat.le_succ _)) (.int .i64 oba)).setCell (p := ⟨w.heap.size + 1, 8, none⟩) (.inr (Nat.le_succ _)) (.int .i64 obi)).setCell (p := ⟨w.heap.size + 1, 9, none⟩) (.inr (Nat.le_succ _)) (.slice ga1 gn1 gc1)).setCell (p := ⟨w.heap.size + 1, 10, none⟩) (.inr (Nat.le_succ _)) (.slice ga2 gn2 gc2)).setCell (p := ⟨w.heap.size + 1, 11, none⟩) (.inr (Nat.le_succ _)) (.slice ga3 gn3 gc3)).setCell (p := ⟨w.heap.size + 1, 12, none⟩) (.inr (Nat.le_succ _)) (.slice ga4 gn4 gc4)).setCell (p := ⟨w.heap.size + 1, 13, none⟩) (.inr (Nat.le_succ _)) (.slice ga5 gn5 gc5))
    generalize ((((((((((((((Z.setCell ⟨w.heap.size + 1, 0, none⟩ (.int .u8 ok)).setCell ⟨w.heap.size + 1, 1, none⟩ (.int .i64 ofa)).setCell ⟨w.heap.size + 1, 2, none⟩ (.int .i64 ofi)).setCell ⟨w.heap.size + 1, 3, none⟩ (.int .i64 ota)).setCell ⟨w.heap.size + 1, 4, none⟩ (.int .i64 oti)).setCell ⟨w.heap.size + 1, 5, none⟩ (.int .i64 ofn)).setCell ⟨w.heap.size + 1, 6, none⟩ (.int .i64 otk)).setCell ⟨w.heap.size + 1, 7, none⟩ (.int .i64 oba)).setCell ⟨w.heap.size + 1, 8, none⟩ (.int .i64 obi)).setCell ⟨w.heap.size + 1, 9, none⟩ (.slice ga1 gn1 gc1)).setCell ⟨w.heap.size + 1, 10, none⟩ (.slice ga2 gn2 gc2)).setCell ⟨w.heap.size + 1, 11, none⟩ (.slice ga3 gn3 gc3)).setCell ⟨w.heap.size + 1, 12, none⟩ (.slice ga4 gn4 gc4)).setCell ⟨w.heap.size + 1, 13, none⟩ (.slice ga5 gn5 gc5)) = V at hSt hTu ⊢
    obtain ⟨hE, hput, hsz⟩ := HZ.out
    obtain ⟨hN3, hT4, hkeep, hs2, hs4, hgg, hgq, -⟩ := hE
    refine ⟨f2, .slice (some ⟨gg, 0, none⟩) (n'.l.length + 1) cap, wc.drew, w2, ?_, HQ.out, hTu, ?_, ?_, hs2, Nat.le_trans hs4 hSt.size, fun k hk hk2 => ?_, fun k hk => ?_⟩
    · rw [(hput f2).2]; rfl
    · rw [(hput f2).1]; exact hN3.stay hSt ⟨Nat.ne_of_lt hlt, Nat.ne_of_lt (Nat.lt_succ_of_lt hlt)⟩ (fun k hk => by
        have e : gg = k := by simpa [Value.ownBlock] using hk
        rw [← e]; exact hgq)
    · show w.heap.size ≤ wc.heap.size; omega
    · have hk : wc.heap.size ≤ k := hk
      rw [hSt.block k (by omega) (by omega) (by omega)]
      exact hkeep k hk hk2
    · have e : gg = k := by simpa [Value.ownBlock] using hk
      rw [← e]; exact hgg
end Go.Proofs.Ytjdhdmljchnidaa
