/-
  The document's box: New, Take.
-/
import Derived.Test.YtjdhdmljchnidaaRefBox
import Derived.Test.YtjdhdmljchnidaaDo
namespace Go.Proofs.Ytjdhdmljchnidaa
open Go.RowKit
set_option linter.unusedVariables false
set_option linter.unusedSimpArgs false
attribute [local go_sem ↓] Go.wp_at_zero Go.wp_at_succ
/-- The document's box at R: its frames are those that came in; they read ds. -/
structure RB (P R : Nat) (m : Int) (v : Value) (l : List Fr) (ds : List Dat) (w : World) : Prop where
  here : w.heap[R]? = some (.cells #[.int .i64 m, v] 67 (0, 0))
  rd : ∃ (a : Option Addr) (n c : Nat), v = .slice a n c ∧ Rd elF P P w.heap.size ⟨a, n, c⟩ l w
  len : l.length = ds.length
  at_ : ∀ j (h1 : j < l.length) (h2 : j < ds.length), Deep P 0 P ds[j] l[j] w
  pR : P ≤ R
  m1 : 1 ≤ m
  m2 : m ≤ 4096
  le : (l.length : Int) ≤ m
section
variable {P R : Nat} {m : Int} {v : Value} {l : List Fr} {ds : List Dat} {w w' : World}
theorem RB.lt (h : RB P R m v l ds w) : R < w.heap.size := (Array.getElem?_eq_some_iff.1 h.here).1
theorem RB.same (h : RB P R m v l ds w) (hs : w.heap.size ≤ w'.heap.size) (hb : ∀ k, k < w.heap.size → (k < P ∨ k = R ∨ Of 38 k w) → w'.heap[k]? = w.heap[k]?) : RB P R m v l ds w' := by
  obtain ⟨a, n, c, e, hR⟩ := h.rd
  have hlt := h.lt
  exact ⟨(hb R hlt (.inr (.inl rfl))).trans h.here, ⟨a, n, c, e, (hR.same hs fun k _ _ hk ho => hb k hk (ho.imp id .inr)).wide (Nat.le_refl _) hs⟩, h.len, fun j h1 h2 => (h.at_ j h1 h2).same hs fun k _ hk hk2 _ => hb k hk2 (.inl hk), h.pR, h.m1, h.m2, h.le⟩
theorem RB.below (h : RB P R m v l ds w) (hb : Below w.heap.size w w') : RB P R m v l ds w' := h.same hb.size fun k hk _ => hb.block k hk
theorem RB.reads (h : RB P R m v l ds w) : w.cell? ⟨R, 0, none⟩ = some (.int .i64 m) ∧ w.cell? ⟨R, 1, none⟩ = some v := by
  refine ⟨?_, ?_⟩ <;> (rw [cell_of_row _ _ _ _ _ _ h.here]; rfl)
theorem RB.free (h : RB P R m v l ds w) (o : Nat) : w.frozen? ⟨R, o, none⟩ = false := frozen_of_row _ _ _ _ _ h.here
/-- Its slice is another one now. -/
theorem RB.set {l2 : List Fr} {ds2 : List Dat} {a : Option Addr} {n c : Nat} {w1 : World} (h : RB P R m v l ds w) (hb : Below w.heap.size w w1) (hr : Rd elF P w.heap.size w1.heap.size ⟨a, n, c⟩ l2 w1) (hl : l2.length = ds2.length)
    (hd : ∀ j (h1 : j < l2.length) (h2 : j < ds2.length), Deep P 0 P ds2[j] l2[j] w1) (hle : (l2.length : Int) ≤ m) : RB P R m (.slice a n c) l2 ds2 (w1.setCell ⟨R, 1, none⟩ (.slice a n c)) := by
  have hlt := h.lt
  have hpR := h.pR
  refine ⟨?_, ⟨a, n, c, rfl, ?_⟩, hl, fun j h1 h2 => ?_, h.pR, h.m1, h.m2, hle⟩
  · rw [heap_setCell_same _ _ _ _ _ _ ((hb.block R hlt).trans h.here)]; rfl
  · exact ((hr.stay (q := R) (.inl hlt) 1 (.slice a n c)).wide (by omega) (by simp [World.setCell]))
  · exact (hd j h1 h2).same (by simp [World.setCell]) fun k _ hk _ _ => Below.heap_setCell _ _ _ _ (by simp only; omega)
end
theorem rnew_yes (P : Nat) (m : Int) (w : World) (h1 : 1 ≤ m) (h2 : m ≤ 4096) (hP : P ≤ w.heap.size) :
    Calls Try.prog 23 #[.int .i64 m] w fun e w' => e = .returned (.tuple #[.pointer (some ⟨w.heap.size, 0, none⟩), .int .i64 0]) ∧ RB P w.heap.size m (.slice none 0 0) [] [] w' ∧ Below w.heap.size w w' := by
  go_enter Try.func23, Try.ntmps23
  go_wp2
  go_ret2
  exact ⟨rfl, ⟨heap_alloc_new _ _, ⟨none, 0, 0, rfl, Rd.empty _ _ _ _ _⟩, rfl, fun j h => by simp at h, hP, h1, h2, by simp; omega⟩, (Below.refl _ _).alloc (Nat.le_refl _) _⟩
theorem rnew_no (m : Int) (w : World) (h : m < 1 ∨ 4096 < m) :
    Calls Try.prog 23 #[.int .i64 m] w fun e w' => e = .returned (.tuple #[.pointer none, .int .i64 1]) ∧ w' = w := by
  by_cases h1 : m < 1
  · go_enter Try.func23, Try.ntmps23
    go_wp2
    go_ret2
    exact ⟨rfl, rfl⟩
  · have h2 : 4096 < m := by omega
    clear h
    go_enter Try.func23, Try.ntmps23
    go_wp2
    go_ret2
    exact ⟨rfl, rfl⟩
/-- All but the block R are as they were. -/
structure Kept (R : Nat) (w w' : World) : Prop where
  os : w'.os = w.os
  tape : w'.tape = w.tape
  output : w'.output = w.output
  size : w.heap.size ≤ w'.heap.size
  block : ∀ k, k < w.heap.size → k ≠ R → w'.heap[k]? = w.heap[k]?
theorem Kept.of_below {R : Nat} {w w' : World} (h : Below w.heap.size w w') : Kept R w w' := ⟨h.os, h.tape, h.output, h.size, fun k hk _ => h.block k hk⟩
section
variable {P R : Nat} {m : Int} {v : Value} {l l2 : List Fr} {ds ds2 : List Dat} {w w1 Z : World}
theorem RB.set2 {a : Option Addr} {n c : Nat} (h : RB P R m v l ds w) (hb : Below w.heap.size w w1) (hr : Rd elF P (w.heap.size + 2) w1.heap.size ⟨a, n, c⟩ l2 w1) (hl : l2.length = ds2.length)
    (hd : ∀ j (h1 : j < l2.length) (h2 : j < ds2.length), Deep P 0 P ds2[j] l2[j] w1) (hle : (l2.length : Int) ≤ m) (hZs : w1.heap.size ≤ Z.heap.size)
    (hZ : ∀ k, k < w1.heap.size → k ≠ w.heap.size → k ≠ w.heap.size + 1 → Z.heap[k]? = (w1.setCell ⟨R, 1, none⟩ (.slice a n c)).heap[k]?) : RB P R m (.slice a n c) l2 ds2 Z := by
  have h1 := RB.set h hb (hr.wide (Nat.le_add_right _ _) (Nat.le_refl _)) hl hd hle
  have hlt := h.lt
  have hpR := h.pR
  have hs := hb.size
  refine ⟨(hZ R (by omega) (by omega) (by omega)).trans h1.here, ⟨a, n, c, rfl, ?_⟩, hl, fun j a1 a2 => ?_, hpR, h.m1, h.m2, hle⟩
  · refine (hr.same hZs fun k a1 _ a2 _ => ?_).wide (by omega) hZs
    rw [hZ k a2 (by omega) (by omega)]
    exact Below.heap_setCell _ _ _ _ (by simp only; omega)
  · refine (hd j a1 a2).same hZs fun k _ a2 a3 _ => ?_
    rw [hZ k a3 (by omega) (by omega)]
    exact Below.heap_setCell _ _ _ _ (by simp only; omega)
end
/-- A slice in memory of its own. -/
def Fresh (l : List Fr) (v : Value) (B : Nat) : Prop := l ≠ [] → ∀ g, v.ownBlock = some g → B ≤ g
theorem Rd.fresh {P lo hi B : Nat} {a : Option Addr} {n c : Nat} {l : List Fr} {w : World} (h : Rd elF P lo hi ⟨a, n, c⟩ l w) (hB : B ≤ lo) : Fresh l (.slice a n c) B := fun hl g hg => by
  obtain ⟨b, o, e, h1, -⟩ := h.at_ (List.length_pos_iff.2 hl)
  simp only at e
  subst e
  have e : b = g := by simpa [Value.ownBlock] using hg
  omega
/-- What Take leaves. -/
def RTook (P R : Nat) (m : Int) (l : List Fr) (ds : List Dat) (w : World) (e : Ending) (w' : World) : Prop :=
  ∃ v2 : Value, e = .returned (.tuple #[(l.headD .zero).val, .bool (decide (l ≠ []))]) ∧ RB P R m v2 l.tail ds.tail w' ∧ Kept R w w' ∧ Fresh l.tail v2 w.heap.size
theorem rtake_close {P R : Nat} {m : Int} {v : Value} {f : Fr} {l : List Fr} {ds : List Dat} {a : Option Addr} {n c : Nat} {w w1 : World} (h : RB P R m v (f :: l) ds w) (hb : Below w.heap.size w w1) (hs : w.heap.size + 2 ≤ w1.heap.size) (hr : Rd elF P (w.heap.size + 2) w1.heap.size ⟨a, n, c⟩ l w1) :
    RB P R m (.slice a n c) l ds.tail (f.laid (w1.setCell ⟨R, 1, none⟩ (.slice a n c)) w.heap.size) ∧ Kept R w (f.laid (w1.setCell ⟨R, 1, none⟩ (.slice a n c)) w.heap.size) := by
  have hst := Fr.laid_stay0 f (w1.setCell ⟨R, 1, none⟩ (.slice a n c)) w.heap.size
  have hlt := h.lt
  have hsz : w1.heap.size = (w1.setCell ⟨R, 1, none⟩ (.slice a n c)).heap.size := by simp [World.setCell]
  have hlen := h.len
  have hbl := Fr.laid_below f (hb.mono (Nat.le_of_lt hlt) |>.setCell (p := ⟨R, 1, none⟩) (Nat.le_refl R) (.slice a n c)) (Nat.le_of_lt hlt)
  refine ⟨RB.set2 h hb hr (by simp at hlen ⊢; omega) (fun j h1 h2 => ?_) (by have := h.le; simp at this ⊢; omega) (by rw [hsz]; exact hst.size) (fun k h1 h2 h3 => hst.block k (by rw [← hsz]; exact h1) h2 h3), ⟨hbl.os, hbl.tape, hbl.output, Nat.le_trans hb.size (by rw [hsz]; exact hst.size), fun k hk hR => ?_⟩⟩
  · have h3 := h.at_ (j + 1) (by simp; omega) (by simp at h2; omega)
    simp only [List.getElem_cons_succ] at h3
    have e : ds.tail[j] = ds[j + 1]'(by simp at h2; omega) := by simp
    rw [e]
    exact h3.below hb
  · have h4 := hb.size
    rw [hst.block k (by rw [← hsz]; omega) (by omega) (by omega), Below.heap_setCell _ _ _ _ (by simp only; omega)]
    exact hb.block k hk
set_option maxRecDepth 100000 in
set_option maxHeartbeats 4000000 in
theorem rtake_any {P R : Nat} {m : Int} {v : Value} {l : List Fr} {ds : List Dat} {w : World} (h : RB P R m v l ds w) : Calls Try.prog 27 #[.pointer (some ⟨R, 0, none⟩)] w (RTook P R m l ds w) := by
  obtain ⟨c0, c1⟩ := h.reads
  have fR := fun o => h.free o
  have hlt := h.lt
  obtain ⟨a, n, c, rfl, hR⟩ := h.rd
  obtain rfl : n = l.length := hR.n
  have HH := Lib.hid h
  rcases l with _ | ⟨f, l⟩
  · clear h hR
    go_enter Try.func27, Try.ntmps27
    go_wp2_with fail
    refine bodyPost_ret (v := .tuple #[.agg #[.int .u8 0, .int .i64 0, .int .i64 0, .int .i64 0, .int .i64 0, .int .i64 0, .int .i64 0, .int .i64 0, .int .i64 0, .slice none 0 0, .slice none 0 0, .slice none 0 0, .slice none 0 0, .slice none 0 0], .bool false]) (by simp [results, Try.results27, go_sem]) rfl ⟨.slice a 0 c, rfl, ?_, ?_, fun h => absurd rfl h⟩
    · have h := HH.out
      have hd : ds = [] := List.eq_nil_of_length_eq_zero h.len.symm
      subst hd
      exact h.below ((Below.refl _ _).alloc (Nat.le_refl _) _)
    · exact Kept.of_below ((Below.refl _ _).alloc (Nat.le_refl _) _)
  · obtain ⟨b, o, e, -, -, hbl, -, hc⟩ := hR.cell (j := 0) (by simp)
    simp only at e
    subst e
    simp only [List.getElem_cons_zero, Nat.zero_mul, Nat.zero_add] at hc
    have z0 : w.cell? ⟨b, o, none⟩ = some (.int .u8 f.kind) := hc 0 (by decide)
    have z1 : w.cell? ⟨b, o + 1, none⟩ = some (.int .i64 f.fa) := hc 1 (by decide)
    have z2 : w.cell? ⟨b, o + 2, none⟩ = some (.int .i64 f.fi) := hc 2 (by decide)
    have z3 : w.cell? ⟨b, o + 3, none⟩ = some (.int .i64 f.ta) := hc 3 (by decide)
    have z4 : w.cell? ⟨b, o + 4, none⟩ = some (.int .i64 f.ti) := hc 4 (by decide)
    have z5 : w.cell? ⟨b, o + 5, none⟩ = some (.int .i64 f.n) := hc 5 (by decide)
    have z6 : w.cell? ⟨b, o + 6, none⟩ = some (.int .i64 f.token) := hc 6 (by decide)
    have z7 : w.cell? ⟨b, o + 7, none⟩ = some (.int .i64 f.ba) := hc 7 (by decide)
    have z8 : w.cell? ⟨b, o + 8, none⟩ = some (.int .i64 f.bi) := hc 8 (by decide)
    have z9 : w.cell? ⟨b, o + 9, none⟩ = some (.slice f.ms.a f.ms.n f.ms.c) := hc 9 (by decide)
    have z10 : w.cell? ⟨b, o + 10, none⟩ = some (.slice f.fs.a f.fs.n f.fs.c) := hc 10 (by decide)
    have z11 : w.cell? ⟨b, o + 11, none⟩ = some (.slice f.rs.a f.rs.n f.rs.c) := hc 11 (by decide)
    have z12 : w.cell? ⟨b, o + 12, none⟩ = some (.slice f.cs.a f.cs.n f.cs.c) := hc 12 (by decide)
    have z13 : w.cell? ⟨b, o + 13, none⟩ = some (.slice f.ss.a f.ss.n f.ss.c) := hc 13 (by decide)
    have hbA : Below w.heap.size w ((w.alloc (.cells #[.int .u8 0, .int .i64 0, .int .i64 0, .int .i64 0, .int .i64 0, .int .i64 0, .int .i64 0, .int .i64 0, .int .i64 0, .slice none 0 0, .slice none 0 0, .slice none 0 0, .slice none 0 0, .slice none 0 0] 38)).alloc (.cells #[.int .u8 f.kind, .int .i64 f.fa, .int .i64 f.fi, .int .i64 f.ta, .int .i64 f.ti, .int .i64 f.n, .int .i64 f.token, .int .i64 f.ba, .int .i64 f.bi, .slice f.ms.a f.ms.n f.ms.c, .slice f.fs.a f.fs.n f.fs.c, .slice f.rs.a f.rs.n f.rs.c, .slice f.cs.a f.cs.n f.cs.c, .slice f.ss.a f.ss.n f.ss.c] 38)) := ((Below.refl _ _).alloc (Nat.le_refl _) _).alloc (by simp) _
    obtain ⟨q0, q1⟩ := both_new w (.cells #[.int .u8 0, .int .i64 0, .int .i64 0, .int .i64 0, .int .i64 0, .int .i64 0, .int .i64 0, .int .i64 0, .int .i64 0, .slice none 0 0, .slice none 0 0, .slice none 0 0, .slice none 0 0, .slice none 0 0] 38) (.cells #[.int .u8 f.kind, .int .i64 f.fa, .int .i64 f.fi, .int .i64 f.ta, .int .i64 f.ti, .int .i64 f.n, .int .i64 f.token, .int .i64 f.ba, .int .i64 f.bi, .slice f.ms.a f.ms.n f.ms.c, .slice f.fs.a f.fs.n f.fs.c, .slice f.rs.a f.rs.n f.rs.c, .slice f.cs.a f.cs.n f.cs.c, .slice f.ss.a f.ss.n f.ss.c] 38)
    have hcall := without_any b o (f :: l).length c 0 (f :: l) _ (hR.below hbA) (by simp) (by have h1 := h.le; have h2 := h.m2; omega)
    have hsz : w.heap.size + 2 ≤ ((w.alloc (.cells #[.int .u8 0, .int .i64 0, .int .i64 0, .int .i64 0, .int .i64 0, .int .i64 0, .int .i64 0, .int .i64 0, .int .i64 0, .slice none 0 0, .slice none 0 0, .slice none 0 0, .slice none 0 0, .slice none 0 0] 38)).alloc (.cells #[.int .u8 f.kind, .int .i64 f.fa, .int .i64 f.fi, .int .i64 f.ta, .int .i64 f.ti, .int .i64 f.n, .int .i64 f.token, .int .i64 f.ba, .int .i64 f.bi, .slice f.ms.a f.ms.n f.ms.c, .slice f.fs.a f.fs.n f.fs.c, .slice f.rs.a f.rs.n f.rs.c, .slice f.cs.a f.cs.n f.cs.c, .slice f.ss.a f.ss.n f.ss.c] 38)).heap.size := by simp
    have hpos : 0 < (f :: l).length := by simp
    generalize hnn : (f :: l).length = nn at c1 hcall hpos
    have HN := Lib.hid hnn
    have HC := Lib.hid (And.intro hcall (And.intro hbA (And.intro q0 (And.intro q1 hsz))))
    clear h hR hc hcall hbA q0 q1 hsz hnn
    go_enter Try.func27, Try.ntmps27
    go_wp2_with fail
    refine HC.out.1.mono ?_
    rintro e w1 ⟨a', m', c', rfl, hR, hb⟩
    obtain ⟨-, hbA, q0, q1, hsz⟩ := HC.out
    have hp0 := (hb.block _ (by omega)).trans q0
    have hp1 := (hb.block _ (by omega)).trans q1
    have hbw := hbA.trans (hb.mono hbA.size)
    have cR : w1.cell? ⟨R, 1, none⟩ = _ := (hbw.cell (p := ⟨R, 1, none⟩) hlt).trans c1
    have fR1 : ∀ o, w1.frozen? ⟨R, o, none⟩ = false := fun o => (World.frozen?_of_block (w := w) (a := ⟨R, o, none⟩) (hbw.block R hlt)).trans (fR o)
    have x0 : w1.cell? ⟨w.heap.size + 1, 0, none⟩ = some (.int .u8 f.kind) := (cell_of_row _ _ _ _ _ _ hp1).trans rfl
    have x1 : w1.cell? ⟨w.heap.size + 1, 1, none⟩ = some (.int .i64 f.fa) := (cell_of_row _ _ _ _ _ _ hp1).trans rfl
    have x2 : w1.cell? ⟨w.heap.size + 1, 2, none⟩ = some (.int .i64 f.fi) := (cell_of_row _ _ _ _ _ _ hp1).trans rfl
    have x3 : w1.cell? ⟨w.heap.size + 1, 3, none⟩ = some (.int .i64 f.ta) := (cell_of_row _ _ _ _ _ _ hp1).trans rfl
    have x4 : w1.cell? ⟨w.heap.size + 1, 4, none⟩ = some (.int .i64 f.ti) := (cell_of_row _ _ _ _ _ _ hp1).trans rfl
    have x5 : w1.cell? ⟨w.heap.size + 1, 5, none⟩ = some (.int .i64 f.n) := (cell_of_row _ _ _ _ _ _ hp1).trans rfl
    have x6 : w1.cell? ⟨w.heap.size + 1, 6, none⟩ = some (.int .i64 f.token) := (cell_of_row _ _ _ _ _ _ hp1).trans rfl
    have x7 : w1.cell? ⟨w.heap.size + 1, 7, none⟩ = some (.int .i64 f.ba) := (cell_of_row _ _ _ _ _ _ hp1).trans rfl
    have x8 : w1.cell? ⟨w.heap.size + 1, 8, none⟩ = some (.int .i64 f.bi) := (cell_of_row _ _ _ _ _ _ hp1).trans rfl
    have x9 : w1.cell? ⟨w.heap.size + 1, 9, none⟩ = some (.slice f.ms.a f.ms.n f.ms.c) := (cell_of_row _ _ _ _ _ _ hp1).trans rfl
    have x10 : w1.cell? ⟨w.heap.size + 1, 10, none⟩ = some (.slice f.fs.a f.fs.n f.fs.c) := (cell_of_row _ _ _ _ _ _ hp1).trans rfl
    have x11 : w1.cell? ⟨w.heap.size + 1, 11, none⟩ = some (.slice f.rs.a f.rs.n f.rs.c) := (cell_of_row _ _ _ _ _ _ hp1).trans rfl
    have x12 : w1.cell? ⟨w.heap.size + 1, 12, none⟩ = some (.slice f.cs.a f.cs.n f.cs.c) := (cell_of_row _ _ _ _ _ _ hp1).trans rfl
    have x13 : w1.cell? ⟨w.heap.size + 1, 13, none⟩ = some (.slice f.ss.a f.ss.n f.ss.c) := (cell_of_row _ _ _ _ _ _ hp1).trans rfl
    have y0 : w1.cell? ⟨w.heap.size, 0, none⟩ = some (.int .u8 0) := (cell_of_row _ _ _ _ _ _ hp0).trans rfl
    have y1 : w1.cell? ⟨w.heap.size, 1, none⟩ = some (.int .i64 0) := (cell_of_row _ _ _ _ _ _ hp0).trans rfl
    have y2 : w1.cell? ⟨w.heap.size, 2, none⟩ = some (.int .i64 0) := (cell_of_row _ _ _ _ _ _ hp0).trans rfl
    have y3 : w1.cell? ⟨w.heap.size, 3, none⟩ = some (.int .i64 0) := (cell_of_row _ _ _ _ _ _ hp0).trans rfl
    have y4 : w1.cell? ⟨w.heap.size, 4, none⟩ = some (.int .i64 0) := (cell_of_row _ _ _ _ _ _ hp0).trans rfl
    have y5 : w1.cell? ⟨w.heap.size, 5, none⟩ = some (.int .i64 0) := (cell_of_row _ _ _ _ _ _ hp0).trans rfl
    have y6 : w1.cell? ⟨w.heap.size, 6, none⟩ = some (.int .i64 0) := (cell_of_row _ _ _ _ _ _ hp0).trans rfl
    have y7 : w1.cell? ⟨w.heap.size, 7, none⟩ = some (.int .i64 0) := (cell_of_row _ _ _ _ _ _ hp0).trans rfl
    have y8 : w1.cell? ⟨w.heap.size, 8, none⟩ = some (.int .i64 0) := (cell_of_row _ _ _ _ _ _ hp0).trans rfl
    have y9 : w1.cell? ⟨w.heap.size, 9, none⟩ = some (.slice none 0 0) := (cell_of_row _ _ _ _ _ _ hp0).trans rfl
    have y10 : w1.cell? ⟨w.heap.size, 10, none⟩ = some (.slice none 0 0) := (cell_of_row _ _ _ _ _ _ hp0).trans rfl
    have y11 : w1.cell? ⟨w.heap.size, 11, none⟩ = some (.slice none 0 0) := (cell_of_row _ _ _ _ _ _ hp0).trans rfl
    have y12 : w1.cell? ⟨w.heap.size, 12, none⟩ = some (.slice none 0 0) := (cell_of_row _ _ _ _ _ _ hp0).trans rfl
    have y13 : w1.cell? ⟨w.heap.size, 13, none⟩ = some (.slice none 0 0) := (cell_of_row _ _ _ _ _ _ hp0).trans rfl
    have fq := fun o => frozen_of_row w1 w.heap.size o _ _ hp0
    have HE := Lib.hid (And.intro (hR.wide hsz (Nat.le_refl _)) (And.intro hbw (And.intro (Nat.le_trans hsz hb.size) hp0)))
    clear hR hb hbA q0 q1 hsz hp0 hp1 hbw HC c0 c1 fR
    go_wp2_with fail
    obtain ⟨hRd, hbw, hsz, hp0⟩ := HE.out
    have hl1 : (f :: l).eraseIdx 0 = l := rfl
    rw [hl1] at hRd
    have HFr := Lib.hid (hRd.fresh (B := w.heap.size) (Nat.le_add_right _ _))
    have hfin := rtake_close HH.out hbw hsz hRd
    have hZ1 := Fr.laid_row f (w1.setCell ⟨R, 1, none⟩ (.slice a' m' c')) w.heap.size ((Below.heap_setCell _ _ _ _ (by simp only; omega)).trans hp0)
    change bodyPost _ _ _ _ _ (Fr.laid f (w1.setCell ⟨R, 1, none⟩ (.slice a' m' c')) w.heap.size)
    clear x0 x1 x2 x3 x4 x5 x6 x7 x8 x9 x10 x11 x12 x13 z0 z1 z2 z3 z4 z5 z6 z7 z8 z9 z10 z11 z12 z13 y0 y1 y2 y3 y4 y5 y6 y7 y8 y9 y10 y11 y12 y13 fq fR1 cR HE HN hRd hbw hsz hp0
    generalize Fr.laid f (w1.setCell ⟨R, 1, none⟩ (.slice a' m' c')) w.heap.size = Z at hfin hZ1 ⊢
    have y0 : Z.cell? ⟨w.heap.size, 0, none⟩ = some (.int .u8 f.kind) := (cell_of_row _ _ _ _ _ _ hZ1).trans rfl
    have y1 : Z.cell? ⟨w.heap.size, 1, none⟩ = some (.int .i64 f.fa) := (cell_of_row _ _ _ _ _ _ hZ1).trans rfl
    have y2 : Z.cell? ⟨w.heap.size, 2, none⟩ = some (.int .i64 f.fi) := (cell_of_row _ _ _ _ _ _ hZ1).trans rfl
    have y3 : Z.cell? ⟨w.heap.size, 3, none⟩ = some (.int .i64 f.ta) := (cell_of_row _ _ _ _ _ _ hZ1).trans rfl
    have y4 : Z.cell? ⟨w.heap.size, 4, none⟩ = some (.int .i64 f.ti) := (cell_of_row _ _ _ _ _ _ hZ1).trans rfl
    have y5 : Z.cell? ⟨w.heap.size, 5, none⟩ = some (.int .i64 f.n) := (cell_of_row _ _ _ _ _ _ hZ1).trans rfl
    have y6 : Z.cell? ⟨w.heap.size, 6, none⟩ = some (.int .i64 f.token) := (cell_of_row _ _ _ _ _ _ hZ1).trans rfl
    have y7 : Z.cell? ⟨w.heap.size, 7, none⟩ = some (.int .i64 f.ba) := (cell_of_row _ _ _ _ _ _ hZ1).trans rfl
    have y8 : Z.cell? ⟨w.heap.size, 8, none⟩ = some (.int .i64 f.bi) := (cell_of_row _ _ _ _ _ _ hZ1).trans rfl
    have y9 : Z.cell? ⟨w.heap.size, 9, none⟩ = some (.slice f.ms.a f.ms.n f.ms.c) := (cell_of_row _ _ _ _ _ _ hZ1).trans rfl
    have y10 : Z.cell? ⟨w.heap.size, 10, none⟩ = some (.slice f.fs.a f.fs.n f.fs.c) := (cell_of_row _ _ _ _ _ _ hZ1).trans rfl
    have y11 : Z.cell? ⟨w.heap.size, 11, none⟩ = some (.slice f.rs.a f.rs.n f.rs.c) := (cell_of_row _ _ _ _ _ _ hZ1).trans rfl
    have y12 : Z.cell? ⟨w.heap.size, 12, none⟩ = some (.slice f.cs.a f.cs.n f.cs.c) := (cell_of_row _ _ _ _ _ _ hZ1).trans rfl
    have y13 : Z.cell? ⟨w.heap.size, 13, none⟩ = some (.slice f.ss.a f.ss.n f.ss.c) := (cell_of_row _ _ _ _ _ _ hZ1).trans rfl
    exact bodyPost_ret (v := .tuple #[.agg #[.int .u8 f.kind, .int .i64 f.fa, .int .i64 f.fi, .int .i64 f.ta, .int .i64 f.ti, .int .i64 f.n, .int .i64 f.token, .int .i64 f.ba, .int .i64 f.bi, .slice f.ms.a f.ms.n f.ms.c, .slice f.fs.a f.fs.n f.fs.c, .slice f.rs.a f.rs.n f.rs.c, .slice f.cs.a f.cs.n f.cs.c, .slice f.ss.a f.ss.n f.ss.c], .bool true]) (by simp [results, Try.results27, go_sem, y0, y1, y2, y3, y4, y5, y6, y7, y8, y9, y10, y11, y12, y13]) rfl ⟨.slice a' m' c', rfl, hfin.1, hfin.2, HFr.out⟩
end Go.Proofs.Ytjdhdmljchnidaa
