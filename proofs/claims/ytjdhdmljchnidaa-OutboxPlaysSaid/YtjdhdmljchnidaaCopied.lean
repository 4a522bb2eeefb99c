/-
  The walk of copied: a frame in memory of its own, by the law's own hand.
-/
import Derived.Test.YtjdhdmljchnidaaBox
namespace Go.Proofs.Ytjdhdmljchnidaa
open Go.RowKit
set_option linter.unusedVariables false
set_option linter.unusedSimpArgs false
attribute [local go_sem ↓] Go.wp_at_zero Go.wp_at_succ
/-- append of a list onto nothing, in a new block. -/
theorem app_new {α : Type} {E : El α} {P lo hi : Nat} {w : World} {a : Option Addr} {n c : Nat} {l : List α} (h : Rd E P lo hi ⟨a, n, c⟩ l w) (i : TypeInfo) (z : Value) (t e k : Nat) (hEe : E.e = e) (hEk : E.k = k) (ht : Try.prog.underlying t = some (.slice e)) (hi : Try.prog.info? e = some i) (hz : i.zero = some z)
    (hs : i.size = k) (hzs : z.cells.size = k) (hby : i.bytes ≤ 1000) (hl : l.length ≤ 100000) (ty : TypeId) :
    ∃ (ra : Option Addr) (rn rc : Nat) (w' : World), (Builtin.append_ #[t, t] ty #[.slice (some ⟨w.heap.size, 0, none⟩) 0 0, .slice a n c]).run Try.prog (w.alloc (.cells #[] e)) = .ok (.slice ra rn rc) w' ∧ Rd E P w.heap.size w'.heap.size ⟨ra, rn, rc⟩ l w' ∧ Below w.heap.size w w' := by
  subst hEe hEk
  have hx := h.below ((Below.refl w.heap.size w).alloc (Nat.le_refl _) (.cells #[] E.e))
  have hrow := World.ownsRow_made (base := w.heap.size) (e := E.e) (size := E.k) w #[] 0 (Nat.le_refl _) (by decide) (by simp)
  obtain ⟨r, w', hrun, hown, hgrow, -, -⟩ := app_run hx i z t E.e E.k rfl rfl hrow ht hi hz hs hzs hby (by omega) (by simp) ty
  have hb := Below.grow ((Below.refl w.heap.size w).alloc (Nat.le_refl _) (.cells #[] E.e)) hgrow (fun k hk => (World.ownsRow.lt hrow k hk).1) (by simp)
  rw [Nat.zero_add, List.nil_append] at hown
  obtain ⟨B, d, rfl, hR⟩ := rd_of_row (E := E) (P := P) hown
  exact ⟨B, l.length, d, w', hrun, hR, hb⟩
theorem Fr.laid_below (f : Fr) {B : Nat} {a w : World} {g : Nat} (h : Below B a w) (hg : B ≤ g) : Below B a (f.laid w g) := ((((((((((((((h.setCell (p := ⟨g, 0, none⟩) hg _).setCell (p := ⟨g, 1, none⟩) hg _).setCell (p := ⟨g, 2, none⟩) hg _).setCell (p := ⟨g, 3, none⟩) hg _).setCell (p := ⟨g, 4, none⟩) hg _).setCell (p := ⟨g, 5, none⟩) hg _).setCell (p := ⟨g, 6, none⟩) hg _).setCell (p := ⟨g, 7, none⟩) hg _).setCell (p := ⟨g, 8, none⟩) hg _).setCell (p := ⟨g, 9, none⟩) hg _).setCell (p := ⟨g, 10, none⟩) hg _).setCell (p := ⟨g, 11, none⟩) hg _).setCell (p := ⟨g, 12, none⟩) hg _).setCell (p := ⟨g, 13, none⟩) hg _)
/-- What stands when some of the lists are copied: the block q holds the cells F, the next one nothing yet. -/
structure Half (q : Nat) (F : Array Value) (w Y : World) : Prop where
  bel : Below q w Y
  size : q + 2 ≤ Y.heap.size
  here : Y.heap[q]? = some (.cells F 38 (0, 0))
  next : Y.heap[q + 1]? = some (.cells #[.int .u8 0, .int .i64 0, .int .i64 0, .int .i64 0, .int .i64 0, .int .i64 0, .int .i64 0, .int .i64 0, .int .i64 0, .slice none 0 0, .slice none 0 0, .slice none 0 0, .slice none 0 0, .slice none 0 0] 38 (0, 0))
theorem Half.step {q : Nat} {F F' : Array Value} {w Y Y' : World} {o : Nat} {x : Value} (h : Half q F w Y) (hb : Below Y.heap.size Y Y') (hF : F.setIfInBounds o x = F') : Half q F' w (Y'.setCell ⟨q, o, none⟩ x) := by
  have h1 := h.size
  have hY : Below q w Y' := h.bel.trans (hb.mono (by omega))
  refine ⟨hY.setCell (Nat.le_refl _) _, by have := hb.size; simp [World.setCell]; omega, ?_, ?_⟩
  · rw [heap_setCell_same _ _ _ _ _ _ ((hb.block q (by omega)).trans h.here), hF]
  · rw [Below.heap_setCell _ _ _ _ (by simp)]
    exact (hb.block (q + 1) (by omega)).trans h.next
theorem Rd.below' {α : Type} {E : El α} {P lo hi : Nat} {s : SL} {l : List α} {w Y : World} {F : Array Value} (h : Rd E P lo hi s l w) (hH : Half w.heap.size F w Y) : Rd E P lo hi s l Y := h.below hH.bel
theorem Rd.stay {α : Type} {E : El α} {P lo hi q : Nat} {s : SL} {l : List α} {Y : World} (h : Rd E P lo hi s l Y) (hlo : q < lo ∨ hi ≤ q) (o : Nat) (x : Value) : Rd E P lo hi s l (Y.setCell ⟨q, o, none⟩ x) :=
  h.same (by simp [World.setCell]) fun k a b _ _ => Below.heap_setCell _ _ _ _ (by simp only; omega)
set_option maxRecDepth 100000 in
set_option maxHeartbeats 4000000 in
theorem copied_deep {P lo hi : Nat} (d : Dat) (k fa fi ta ti n tk ba bi : Int) (u1a u2a u3a u4a u5a : Option Addr) (u1n u1c u2n u2c u3n u3c u4n u4c u5n u5c : Nat) (w : World) (hhi : hi ≤ w.heap.size) (hP : P ≤ w.heap.size)
    (hms : Rd elM P lo hi ⟨u1a, u1n, u1c⟩ d.ms w) (hfs : Rd elI P lo hi ⟨u2a, u2n, u2c⟩ d.fs w) (hrs : Rws P lo hi ⟨u3a, u3n, u3c⟩ d.rs w) (hcs : Rd elT P lo hi ⟨u4a, u4n, u4c⟩ d.cs w) (hss : Rd elI P lo hi ⟨u5a, u5n, u5c⟩ d.ss w)
    (zms : d.ms.length ≤ 100000) (zfs : d.fs.length ≤ 100000) (zrs : d.rs.length ≤ 100000) (zcs : d.cs.length ≤ 100000) (zss : d.ss.length ≤ 100000) :
    Calls Try.prog 24 #[.agg #[.int .u8 k, .int .i64 fa, .int .i64 fi, .int .i64 ta, .int .i64 ti, .int .i64 n, .int .i64 tk, .int .i64 ba, .int .i64 bi, .slice u1a u1n u1c, .slice u2a u2n u2c, .slice u3a u3n u3c, .slice u4a u4n u4c, .slice u5a u5n u5c]] w fun e w' => ∃ (s1 s2 s3 s4 s5 : SL), e = .returned (.agg #[.int .u8 k, .int .i64 fa, .int .i64 fi, .int .i64 ta, .int .i64 ti, .int .i64 n, .int .i64 tk, .int .i64 ba, .int .i64 bi, s1.val, s2.val, s3.val, s4.val, s5.val]) ∧ Rd elM P w.heap.size w'.heap.size s1 d.ms w' ∧ Rd elI P w.heap.size w'.heap.size s2 d.fs w' ∧ Rws P w.heap.size w'.heap.size s3 d.rs w' ∧ Rd elT P w.heap.size w'.heap.size s4 d.cs w' ∧ Rd elI P w.heap.size w'.heap.size s5 d.ss w' ∧ Below w.heap.size w w' := by
  obtain ⟨q0, q1⟩ := both_new w (.cells #[.int .u8 k, .int .i64 fa, .int .i64 fi, .int .i64 ta, .int .i64 ti, .int .i64 n, .int .i64 tk, .int .i64 ba, .int .i64 bi, .slice u1a u1n u1c, .slice u2a u2n u2c, .slice u3a u3n u3c, .slice u4a u4n u4c, .slice u5a u5n u5c] 38) (.cells #[.int .u8 0, .int .i64 0, .int .i64 0, .int .i64 0, .int .i64 0, .int .i64 0, .int .i64 0, .int .i64 0, .int .i64 0, .slice none 0 0, .slice none 0 0, .slice none 0 0, .slice none 0 0, .slice none 0 0] 38)
  have hb : Below w.heap.size w ((w.alloc (.cells #[.int .u8 k, .int .i64 fa, .int .i64 fi, .int .i64 ta, .int .i64 ti, .int .i64 n, .int .i64 tk, .int .i64 ba, .int .i64 bi, .slice u1a u1n u1c, .slice u2a u2n u2c, .slice u3a u3n u3c, .slice u4a u4n u4c, .slice u5a u5n u5c] 38)).alloc (.cells #[.int .u8 0, .int .i64 0, .int .i64 0, .int .i64 0, .int .i64 0, .int .i64 0, .int .i64 0, .int .i64 0, .int .i64 0, .slice none 0 0, .slice none 0 0, .slice none 0 0, .slice none 0 0, .slice none 0 0] 38)) := ((Below.refl _ _).alloc (Nat.le_refl _) _).alloc (by simp) _
  have hH : Half w.heap.size #[.int .u8 k, .int .i64 fa, .int .i64 fi, .int .i64 ta, .int .i64 ti, .int .i64 n, .int .i64 tk, .int .i64 ba, .int .i64 bi, .slice u1a u1n u1c, .slice u2a u2n u2c, .slice u3a u3n u3c, .slice u4a u4n u4c, .slice u5a u5n u5c] w ((w.alloc (.cells #[.int .u8 k, .int .i64 fa, .int .i64 fi, .int .i64 ta, .int .i64 ti, .int .i64 n, .int .i64 tk, .int .i64 ba, .int .i64 bi, .slice u1a u1n u1c, .slice u2a u2n u2c, .slice u3a u3n u3c, .slice u4a u4n u4c, .slice u5a u5n u5c] 38)).alloc (.cells #[.int .u8 0, .int .i64 0, .int .i64 0, .int .i64 0, .int .i64 0, .int .i64 0, .int .i64 0, .int .i64 0, .int .i64 0, .slice none 0 0, .slice none 0 0, .slice none 0 0, .slice none 0 0, .slice none 0 0] 38)) := ⟨hb, by simp, q0, q1⟩
  clear q0 q1 hb
  have H0 := Lib.hid hH
  clear hH
  go_enter Try.func24, Try.ntmps24
  go_upto_region 1 with fail
  have hH := H0.out
  clear H0
  generalize ((w.alloc (.cells #[.int .u8 k, .int .i64 fa, .int .i64 fi, .int .i64 ta, .int .i64 ti, .int .i64 n, .int .i64 tk, .int .i64 ba, .int .i64 bi, .slice u1a u1n u1c, .slice u2a u2n u2c, .slice u3a u3n u3c, .slice u4a u4n u4c, .slice u5a u5n u5c] 38)).alloc (.cells #[.int .u8 0, .int .i64 0, .int .i64 0, .int .i64 0, .int .i64 0, .int .i64 0, .int .i64 0, .int .i64 0, .int .i64 0, .slice none 0 0, .slice none 0 0, .slice none 0 0, .slice none 0 0, .slice none 0 0] 38)) = Y at hH ⊢
  have x0 : Y.cell? ⟨w.heap.size, 0, none⟩ = some (.int .u8 k) := (cell_of_row _ _ _ _ _ _ hH.here).trans rfl
  have x1 : Y.cell? ⟨w.heap.size, 1, none⟩ = some (.int .i64 fa) := (cell_of_row _ _ _ _ _ _ hH.here).trans rfl
  have x2 : Y.cell? ⟨w.heap.size, 2, none⟩ = some (.int .i64 fi) := (cell_of_row _ _ _ _ _ _ hH.here).trans rfl
  have x3 : Y.cell? ⟨w.heap.size, 3, none⟩ = some (.int .i64 ta) := (cell_of_row _ _ _ _ _ _ hH.here).trans rfl
  have x4 : Y.cell? ⟨w.heap.size, 4, none⟩ = some (.int .i64 ti) := (cell_of_row _ _ _ _ _ _ hH.here).trans rfl
  have x5 : Y.cell? ⟨w.heap.size, 5, none⟩ = some (.int .i64 n) := (cell_of_row _ _ _ _ _ _ hH.here).trans rfl
  have x6 : Y.cell? ⟨w.heap.size, 6, none⟩ = some (.int .i64 tk) := (cell_of_row _ _ _ _ _ _ hH.here).trans rfl
  have x7 : Y.cell? ⟨w.heap.size, 7, none⟩ = some (.int .i64 ba) := (cell_of_row _ _ _ _ _ _ hH.here).trans rfl
  have x8 : Y.cell? ⟨w.heap.size, 8, none⟩ = some (.int .i64 bi) := (cell_of_row _ _ _ _ _ _ hH.here).trans rfl
  have x9 : Y.cell? ⟨w.heap.size, 9, none⟩ = some (.slice u1a u1n u1c) := (cell_of_row _ _ _ _ _ _ hH.here).trans rfl
  have x10 : Y.cell? ⟨w.heap.size, 10, none⟩ = some (.slice u2a u2n u2c) := (cell_of_row _ _ _ _ _ _ hH.here).trans rfl
  have x11 : Y.cell? ⟨w.heap.size, 11, none⟩ = some (.slice u3a u3n u3c) := (cell_of_row _ _ _ _ _ _ hH.here).trans rfl
  have x12 : Y.cell? ⟨w.heap.size, 12, none⟩ = some (.slice u4a u4n u4c) := (cell_of_row _ _ _ _ _ _ hH.here).trans rfl
  have x13 : Y.cell? ⟨w.heap.size, 13, none⟩ = some (.slice u5a u5n u5c) := (cell_of_row _ _ _ _ _ _ hH.here).trans rfl
  have hlq : w.heap.size < Y.heap.size := by have := hH.size; omega
  have fz := fun o => frozen_of_row Y w.heap.size o _ _ hH.here
  obtain ⟨i1, hi1, hz1, hs1, hb1⟩ := info_parts info80
  obtain ⟨m1a, m1n, m1c, v1, hrun, hR1, hbel⟩ := app_new (hms.below' hH) i1 _ 31 80 4 rfl rfl Try.underlying31 hi1 hz1 hs1 rfl (by rw [hb1]; decide) zms 31
  have hH2 := hH.step (o := 9) (x := .slice m1a m1n m1c) (F' := #[.int .u8 k, .int .i64 fa, .int .i64 fi, .int .i64 ta, .int .i64 ti, .int .i64 n, .int .i64 tk, .int .i64 ba, .int .i64 bi, .slice m1a m1n m1c, .slice u2a u2n u2c, .slice u3a u3n u3c, .slice u4a u4n u4c, .slice u5a u5n u5c]) hbel rfl
  have fv := fun o => frozen_of_row v1 w.heap.size o _ _ ((hbel.block _ hlq).trans hH.here)
  have xv : v1.cell? ⟨w.heap.size, 9, none⟩ = some (.slice u1a u1n u1c) := (hbel.cell (p := ⟨w.heap.size, 9, none⟩) hlq).trans x9
  have hR1b := (hR1.stay (q := w.heap.size) (.inl (by have := hH.size; omega)) 9 (.slice m1a m1n m1c)).wide (lo' := w.heap.size + 2) (hi' := (v1.setCell ⟨w.heap.size, 9, none⟩ (.slice m1a m1n m1c)).heap.size) hH.size (by simp [World.setCell])
  have HH := Lib.hid (And.intro hH2 hR1b)
  clear hH hH2 hbel hR1b hR1
  go_upto_region 2 with (first | (at_builtin; refine wpList_append_run rfl (.tmp 6) (.tmp 9) 31 rfl hrun ?_) | fail)
  clear hrun fz fv hlq xv x0 x1 x2 x3 x4 x5 x6 x7 x8 x9 x10 x11 x12 x13
  have hHH := HH.out
  clear HH
  generalize v1.setCell ⟨w.heap.size, 9, none⟩ (.slice m1a m1n m1c) = Y1 at hHH ⊢
  have hH := hHH.1
  have HR := Lib.hid hHH.2
  clear hHH
  have x0 : Y1.cell? ⟨w.heap.size, 0, none⟩ = some (.int .u8 k) := (cell_of_row _ _ _ _ _ _ hH.here).trans rfl
  have x1 : Y1.cell? ⟨w.heap.size, 1, none⟩ = some (.int .i64 fa) := (cell_of_row _ _ _ _ _ _ hH.here).trans rfl
  have x2 : Y1.cell? ⟨w.heap.size, 2, none⟩ = some (.int .i64 fi) := (cell_of_row _ _ _ _ _ _ hH.here).trans rfl
  have x3 : Y1.cell? ⟨w.heap.size, 3, none⟩ = some (.int .i64 ta) := (cell_of_row _ _ _ _ _ _ hH.here).trans rfl
  have x4 : Y1.cell? ⟨w.heap.size, 4, none⟩ = some (.int .i64 ti) := (cell_of_row _ _ _ _ _ _ hH.here).trans rfl
  have x5 : Y1.cell? ⟨w.heap.size, 5, none⟩ = some (.int .i64 n) := (cell_of_row _ _ _ _ _ _ hH.here).trans rfl
  have x6 : Y1.cell? ⟨w.heap.size, 6, none⟩ = some (.int .i64 tk) := (cell_of_row _ _ _ _ _ _ hH.here).trans rfl
  have x7 : Y1.cell? ⟨w.heap.size, 7, none⟩ = some (.int .i64 ba) := (cell_of_row _ _ _ _ _ _ hH.here).trans rfl
  have x8 : Y1.cell? ⟨w.heap.size, 8, none⟩ = some (.int .i64 bi) := (cell_of_row _ _ _ _ _ _ hH.here).trans rfl
  have x9 : Y1.cell? ⟨w.heap.size, 9, none⟩ = some (.slice m1a m1n m1c) := (cell_of_row _ _ _ _ _ _ hH.here).trans rfl
  have x10 : Y1.cell? ⟨w.heap.size, 10, none⟩ = some (.slice u2a u2n u2c) := (cell_of_row _ _ _ _ _ _ hH.here).trans rfl
  have x11 : Y1.cell? ⟨w.heap.size, 11, none⟩ = some (.slice u3a u3n u3c) := (cell_of_row _ _ _ _ _ _ hH.here).trans rfl
  have x12 : Y1.cell? ⟨w.heap.size, 12, none⟩ = some (.slice u4a u4n u4c) := (cell_of_row _ _ _ _ _ _ hH.here).trans rfl
  have x13 : Y1.cell? ⟨w.heap.size, 13, none⟩ = some (.slice u5a u5n u5c) := (cell_of_row _ _ _ _ _ _ hH.here).trans rfl
  have hlq : w.heap.size < Y1.heap.size := by have := hH.size; omega
  have fz := fun o => frozen_of_row Y1 w.heap.size o _ _ hH.here
  obtain ⟨i2, hi2, hz2, hs2, hb2⟩ := info_parts info30
  obtain ⟨m2a, m2n, m2c, v2, hrun, hR2, hbel⟩ := app_new (hfs.below' hH) i2 _ 32 30 2 rfl rfl Try.underlying32 hi2 hz2 hs2 rfl (by rw [hb2]; decide) zfs 32
  have hH2 := hH.step (o := 10) (x := .slice m2a m2n m2c) (F' := #[.int .u8 k, .int .i64 fa, .int .i64 fi, .int .i64 ta, .int .i64 ti, .int .i64 n, .int .i64 tk, .int .i64 ba, .int .i64 bi, .slice m1a m1n m1c, .slice m2a m2n m2c, .slice u3a u3n u3c, .slice u4a u4n u4c, .slice u5a u5n u5c]) hbel rfl
  have fv := fun o => frozen_of_row v2 w.heap.size o _ _ ((hbel.block _ hlq).trans hH.here)
  have xv : v2.cell? ⟨w.heap.size, 10, none⟩ = some (.slice u2a u2n u2c) := (hbel.cell (p := ⟨w.heap.size, 10, none⟩) hlq).trans x10
  have hR2b := (hR2.stay (q := w.heap.size) (.inl (by have := hH.size; omega)) 10 (.slice m2a m2n m2c)).wide (lo' := w.heap.size + 2) (hi' := (v2.setCell ⟨w.heap.size, 10, none⟩ (.slice m2a m2n m2c)).heap.size) hH.size (by simp [World.setCell])
  have hR1b := (((HR.out).below hbel).stay (q := w.heap.size) (.inl (by omega)) 10 (.slice m2a m2n m2c)).wide (lo' := w.heap.size + 2) (hi' := (v2.setCell ⟨w.heap.size, 10, none⟩ (.slice m2a m2n m2c)).heap.size) (Nat.le_refl _) (by have := hbel.size; simp [World.setCell]; omega)
  have HH := Lib.hid (And.intro hH2 (And.intro hR1b hR2b))
  clear hH hH2 hbel hR1b hR2b hR2
  go_upto_region 3 with (first | (at_builtin; refine wpList_append_run rfl (.tmp 13) (.tmp 16) 32 rfl hrun ?_) | fail)
  clear hrun fz fv hlq xv x0 x1 x2 x3 x4 x5 x6 x7 x8 x9 x10 x11 x12 x13
  have hHH := HH.out
  clear HH HR
  generalize v2.setCell ⟨w.heap.size, 10, none⟩ (.slice m2a m2n m2c) = Y2 at hHH ⊢
  have hH := hHH.1
  have HR := Lib.hid hHH.2
  clear hHH
  have x0 : Y2.cell? ⟨w.heap.size, 0, none⟩ = some (.int .u8 k) := (cell_of_row _ _ _ _ _ _ hH.here).trans rfl
  have x1 : Y2.cell? ⟨w.heap.size, 1, none⟩ = some (.int .i64 fa) := (cell_of_row _ _ _ _ _ _ hH.here).trans rfl
  have x2 : Y2.cell? ⟨w.heap.size, 2, none⟩ = some (.int .i64 fi) := (cell_of_row _ _ _ _ _ _ hH.here).trans rfl
  have x3 : Y2.cell? ⟨w.heap.size, 3, none⟩ = some (.int .i64 ta) := (cell_of_row _ _ _ _ _ _ hH.here).trans rfl
  have x4 : Y2.cell? ⟨w.heap.size, 4, none⟩ = some (.int .i64 ti) := (cell_of_row _ _ _ _ _ _ hH.here).trans rfl
  have x5 : Y2.cell? ⟨w.heap.size, 5, none⟩ = some (.int .i64 n) := (cell_of_row _ _ _ _ _ _ hH.here).trans rfl
  have x6 : Y2.cell? ⟨w.heap.size, 6, none⟩ = some (.int .i64 tk) := (cell_of_row _ _ _ _ _ _ hH.here).trans rfl
  have x7 : Y2.cell? ⟨w.heap.size, 7, none⟩ = some (.int .i64 ba) := (cell_of_row _ _ _ _ _ _ hH.here).trans rfl
  have x8 : Y2.cell? ⟨w.heap.size, 8, none⟩ = some (.int .i64 bi) := (cell_of_row _ _ _ _ _ _ hH.here).trans rfl
  have x9 : Y2.cell? ⟨w.heap.size, 9, none⟩ = some (.slice m1a m1n m1c) := (cell_of_row _ _ _ _ _ _ hH.here).trans rfl
  have x10 : Y2.cell? ⟨w.heap.size, 10, none⟩ = some (.slice m2a m2n m2c) := (cell_of_row _ _ _ _ _ _ hH.here).trans rfl
  have x11 : Y2.cell? ⟨w.heap.size, 11, none⟩ = some (.slice u3a u3n u3c) := (cell_of_row _ _ _ _ _ _ hH.here).trans rfl
  have x12 : Y2.cell? ⟨w.heap.size, 12, none⟩ = some (.slice u4a u4n u4c) := (cell_of_row _ _ _ _ _ _ hH.here).trans rfl
  have x13 : Y2.cell? ⟨w.heap.size, 13, none⟩ = some (.slice u5a u5n u5c) := (cell_of_row _ _ _ _ _ _ hH.here).trans rfl
  have hlq : w.heap.size < Y2.heap.size := by have := hH.size; omega
  have fz := fun o => frozen_of_row Y2 w.heap.size o _ _ hH.here
  obtain ⟨i3, hi3, hz3, hs3, hb3⟩ := info_parts info82
  obtain ⟨m3a, m3n, m3c, v3, hrun, hR3, hbel⟩ := app_new (hcs.below' hH) i3 _ 34 82 3 rfl rfl Try.underlying34 hi3 hz3 hs3 rfl (by rw [hb3]; decide) zcs 34
  have hH2 := hH.step (o := 12) (x := .slice m3a m3n m3c) (F' := #[.int .u8 k, .int .i64 fa, .int .i64 fi, .int .i64 ta, .int .i64 ti, .int .i64 n, .int .i64 tk, .int .i64 ba, .int .i64 bi, .slice m1a m1n m1c, .slice m2a m2n m2c, .slice u3a u3n u3c, .slice m3a m3n m3c, .slice u5a u5n u5c]) hbel rfl
  have fv := fun o => frozen_of_row v3 w.heap.size o _ _ ((hbel.block _ hlq).trans hH.here)
  have xv : v3.cell? ⟨w.heap.size, 12, none⟩ = some (.slice u4a u4n u4c) := (hbel.cell (p := ⟨w.heap.size, 12, none⟩) hlq).trans x12
  have hR3b := (hR3.stay (q := w.heap.size) (.inl (by have := hH.size; omega)) 12 (.slice m3a m3n m3c)).wide (lo' := w.heap.size + 2) (hi' := (v3.setCell ⟨w.heap.size, 12, none⟩ (.slice m3a m3n m3c)).heap.size) hH.size (by simp [World.setCell])
  have hR1b := (((HR.out.1).below hbel).stay (q := w.heap.size) (.inl (by omega)) 12 (.slice m3a m3n m3c)).wide (lo' := w.heap.size + 2) (hi' := (v3.setCell ⟨w.heap.size, 12, none⟩ (.slice m3a m3n m3c)).heap.size) (Nat.le_refl _) (by have := hbel.size; simp [World.setCell]; omega)
  have hR2b := (((HR.out.2).below hbel).stay (q := w.heap.size) (.inl (by omega)) 12 (.slice m3a m3n m3c)).wide (lo' := w.heap.size + 2) (hi' := (v3.setCell ⟨w.heap.size, 12, none⟩ (.slice m3a m3n m3c)).heap.size) (Nat.le_refl _) (by have := hbel.size; simp [World.setCell]; omega)
  have HH := Lib.hid (And.intro hH2 (And.intro hR1b (And.intro hR2b hR3b)))
  clear hH hH2 hbel hR1b hR2b hR3b hR3
  go_upto_region 4 with (first | (at_builtin; refine wpList_append_run rfl (.tmp 20) (.tmp 23) 34 rfl hrun ?_) | fail)
  clear hrun fz fv hlq xv x0 x1 x2 x3 x4 x5 x6 x7 x8 x9 x10 x11 x12 x13
  have hHH := HH.out
  clear HH HR
  generalize v3.setCell ⟨w.heap.size, 12, none⟩ (.slice m3a m3n m3c) = Y3 at hHH ⊢
  have hH := hHH.1
  have HR := Lib.hid hHH.2
  clear hHH
  have x0 : Y3.cell? ⟨w.heap.size, 0, none⟩ = some (.int .u8 k) := (cell_of_row _ _ _ _ _ _ hH.here).trans rfl
  have x1 : Y3.cell? ⟨w.heap.size, 1, none⟩ = some (.int .i64 fa) := (cell_of_row _ _ _ _ _ _ hH.here).trans rfl
  have x2 : Y3.cell? ⟨w.heap.size, 2, none⟩ = some (.int .i64 fi) := (cell_of_row _ _ _ _ _ _ hH.here).trans rfl
  have x3 : Y3.cell? ⟨w.heap.size, 3, none⟩ = some (.int .i64 ta) := (cell_of_row _ _ _ _ _ _ hH.here).trans rfl
  have x4 : Y3.cell? ⟨w.heap.size, 4, none⟩ = some (.int .i64 ti) := (cell_of_row _ _ _ _ _ _ hH.here).trans rfl
  have x5 : Y3.cell? ⟨w.heap.size, 5, none⟩ = some (.int .i64 n) := (cell_of_row _ _ _ _ _ _ hH.here).trans rfl
  have x6 : Y3.cell? ⟨w.heap.size, 6, none⟩ = some (.int .i64 tk) := (cell_of_row _ _ _ _ _ _ hH.here).trans rfl
  have x7 : Y3.cell? ⟨w.heap.size, 7, none⟩ = some (.int .i64 ba) := (cell_of_row _ _ _ _ _ _ hH.here).trans rfl
  have x8 : Y3.cell? ⟨w.heap.size, 8, none⟩ = some (.int .i64 bi) := (cell_of_row _ _ _ _ _ _ hH.here).trans rfl
  have x9 : Y3.cell? ⟨w.heap.size, 9, none⟩ = some (.slice m1a m1n m1c) := (cell_of_row _ _ _ _ _ _ hH.here).trans rfl
  have x10 : Y3.cell? ⟨w.heap.size, 10, none⟩ = some (.slice m2a m2n m2c) := (cell_of_row _ _ _ _ _ _ hH.here).trans rfl
  have x11 : Y3.cell? ⟨w.heap.size, 11, none⟩ = some (.slice u3a u3n u3c) := (cell_of_row _ _ _ _ _ _ hH.here).trans rfl
  have x12 : Y3.cell? ⟨w.heap.size, 12, none⟩ = some (.slice m3a m3n m3c) := (cell_of_row _ _ _ _ _ _ hH.here).trans rfl
  have x13 : Y3.cell? ⟨w.heap.size, 13, none⟩ = some (.slice u5a u5n u5c) := (cell_of_row _ _ _ _ _ _ hH.here).trans rfl
  have hlq : w.heap.size < Y3.heap.size := by have := hH.size; omega
  have fz := fun o => frozen_of_row Y3 w.heap.size o _ _ hH.here
  obtain ⟨i4, hi4, hz4, hs4, hb4⟩ := info_parts info30
  obtain ⟨m4a, m4n, m4c, v4, hrun, hR4, hbel⟩ := app_new (hss.below' hH) i4 _ 32 30 2 rfl rfl Try.underlying32 hi4 hz4 hs4 rfl (by rw [hb4]; decide) zss 32
  have hH2 := hH.step (o := 13) (x := .slice m4a m4n m4c) (F' := #[.int .u8 k, .int .i64 fa, .int .i64 fi, .int .i64 ta, .int .i64 ti, .int .i64 n, .int .i64 tk, .int .i64 ba, .int .i64 bi, .slice m1a m1n m1c, .slice m2a m2n m2c, .slice u3a u3n u3c, .slice m3a m3n m3c, .slice m4a m4n m4c]) hbel rfl
  have fv := fun o => frozen_of_row v4 w.heap.size o _ _ ((hbel.block _ hlq).trans hH.here)
  have xv : v4.cell? ⟨w.heap.size, 13, none⟩ = some (.slice u5a u5n u5c) := (hbel.cell (p := ⟨w.heap.size, 13, none⟩) hlq).trans x13
  have hR4b := (hR4.stay (q := w.heap.size) (.inl (by have := hH.size; omega)) 13 (.slice m4a m4n m4c)).wide (lo' := w.heap.size + 2) (hi' := (v4.setCell ⟨w.heap.size, 13, none⟩ (.slice m4a m4n m4c)).heap.size) hH.size (by simp [World.setCell])
  have hR1b := (((HR.out.1).below hbel).stay (q := w.heap.size) (.inl (by omega)) 13 (.slice m4a m4n m4c)).wide (lo' := w.heap.size + 2) (hi' := (v4.setCell ⟨w.heap.size, 13, none⟩ (.slice m4a m4n m4c)).heap.size) (Nat.le_refl _) (by have := hbel.size; simp [World.setCell]; omega)
  have hR2b := (((HR.out.2.1).below hbel).stay (q := w.heap.size) (.inl (by omega)) 13 (.slice m4a m4n m4c)).wide (lo' := w.heap.size + 2) (hi' := (v4.setCell ⟨w.heap.size, 13, none⟩ (.slice m4a m4n m4c)).heap.size) (Nat.le_refl _) (by have := hbel.size; simp [World.setCell]; omega)
  have hR3b := (((HR.out.2.2).below hbel).stay (q := w.heap.size) (.inl (by omega)) 13 (.slice m4a m4n m4c)).wide (lo' := w.heap.size + 2) (hi' := (v4.setCell ⟨w.heap.size, 13, none⟩ (.slice m4a m4n m4c)).heap.size) (Nat.le_refl _) (by have := hbel.size; simp [World.setCell]; omega)
  have HH := Lib.hid (And.intro hH2 (And.intro hR1b (And.intro hR2b (And.intro hR3b hR4b))))
  clear hH hH2 hbel hR1b hR2b hR3b hR4b hR4
  go_upto_region 5 with (first | (at_builtin; refine wpList_append_run rfl (.tmp 27) (.tmp 30) 32 rfl hrun ?_) | fail)
  clear hrun fz fv hlq xv x0 x1 x2 x3 x4 x5 x6 x7 x8 x9 x10 x11 x12 x13
  have hHH := HH.out
  clear HH HR
  generalize v4.setCell ⟨w.heap.size, 13, none⟩ (.slice m4a m4n m4c) = Y4 at hHH ⊢
  have hH := hHH.1
  have HR := Lib.hid hHH.2
  clear hHH
  obtain ⟨raw0, hraw, hrd, hrok⟩ := hrs.has
  obtain rfl : u3n = d.rs.length := hrd.n.trans hraw
  obtain ⟨i7, hi7, hz7, hs7, hb7⟩ := info_parts info77
  obtain ⟨i6, hi6, hz6, hs6, hb6⟩ := info_parts info30
  have HRS := Lib.hid (And.intro hrd hrok)
  obtain ⟨F4, hF4⟩ : ∃ F : Array Value, F = #[.int .u8 k, .int .i64 fa, .int .i64 fi, .int .i64 ta, .int .i64 ti, .int .i64 n, .int .i64 tk, .int .i64 ba, .int .i64 bi, .slice m1a m1n m1c, .slice m2a m2n m2c, .slice u3a d.rs.length u3c, .slice m3a m3n m3c, .slice m4a m4n m4c] := ⟨_, rfl⟩
  rw [← hF4] at hH
  have HF4 := Lib.hid hF4
  have HH := Lib.hid hH
  clear hrs hrd hrok hms hfs hcs hss hH hF4
  go_wp2_with fail
  go_loopw [3, 4] (fun v i wr => ∃ (kk : Nat) (raw : List RowR) (ob : Option Addr) (cb : Nat), kk ≤ d.rs.length ∧ i = .int .i64 kk ∧ v = .slice ob kk cb ∧ Hid (raw.length = kk) ∧ Hid (Half w.heap.size F4 w wr) ∧ Hid (wr.ownsRow (w.heap.size + 2) 77 4 (.slice ob kk cb) kk (elR.rows raw)) ∧ Hid (RowsTo P (w.heap.size + 2) d.rs raw wr) ∧
    Hid (Rd elM P (w.heap.size + 2) wr.heap.size ⟨m1a, m1n, m1c⟩ d.ms wr ∧ Rd elI P (w.heap.size + 2) wr.heap.size ⟨m2a, m2n, m2c⟩ d.fs wr ∧ Rd elT P (w.heap.size + 2) wr.heap.size ⟨m3a, m3n, m3c⟩ d.cs wr ∧ Rd elI P (w.heap.size + 2) wr.heap.size ⟨m4a, m4n, m4c⟩ d.ss wr)) (fun _ i _ => d.rs.length - (intOf i).toNat)
  case atStart => exact ⟨0, [], none, 0, by omega, rfl, rfl, Lib.hid rfl, HH, Lib.hid (World.ownsRow_nil _ _ _ _), Lib.hid ⟨by simp, fun j h => by simp at h⟩, HR⟩
  case round =>
    clear HH HR
    obtain ⟨kk, raw, ob, cb, hk, rfl, rfl, hlen, HH, HW, HI, HR⟩ := hrel
    have hlq : w.heap.size < wr.heap.size := by have := HH.out.size; omega
    have hlq1 : w.heap.size + 1 < wr.heap.size := by have := HH.out.size; omega
    have hhere := HH.out.here
    rw [HF4.out] at hhere
    have x0 : wr.cell? ⟨w.heap.size, 0, none⟩ = some (.int .u8 k) := (cell_of_row _ _ _ _ _ _ hhere).trans rfl
    have x1 : wr.cell? ⟨w.heap.size, 1, none⟩ = some (.int .i64 fa) := (cell_of_row _ _ _ _ _ _ hhere).trans rfl
    have x2 : wr.cell? ⟨w.heap.size, 2, none⟩ = some (.int .i64 fi) := (cell_of_row _ _ _ _ _ _ hhere).trans rfl
    have x3 : wr.cell? ⟨w.heap.size, 3, none⟩ = some (.int .i64 ta) := (cell_of_row _ _ _ _ _ _ hhere).trans rfl
    have x4 : wr.cell? ⟨w.heap.size, 4, none⟩ = some (.int .i64 ti) := (cell_of_row _ _ _ _ _ _ hhere).trans rfl
    have x5 : wr.cell? ⟨w.heap.size, 5, none⟩ = some (.int .i64 n) := (cell_of_row _ _ _ _ _ _ hhere).trans rfl
    have x6 : wr.cell? ⟨w.heap.size, 6, none⟩ = some (.int .i64 tk) := (cell_of_row _ _ _ _ _ _ hhere).trans rfl
    have x7 : wr.cell? ⟨w.heap.size, 7, none⟩ = some (.int .i64 ba) := (cell_of_row _ _ _ _ _ _ hhere).trans rfl
    have x8 : wr.cell? ⟨w.heap.size, 8, none⟩ = some (.int .i64 bi) := (cell_of_row _ _ _ _ _ _ hhere).trans rfl
    have x9 : wr.cell? ⟨w.heap.size, 9, none⟩ = some (.slice m1a m1n m1c) := (cell_of_row _ _ _ _ _ _ hhere).trans rfl
    have x10 : wr.cell? ⟨w.heap.size, 10, none⟩ = some (.slice m2a m2n m2c) := (cell_of_row _ _ _ _ _ _ hhere).trans rfl
    have x11 : wr.cell? ⟨w.heap.size, 11, none⟩ = some (.slice u3a d.rs.length u3c) := (cell_of_row _ _ _ _ _ _ hhere).trans rfl
    have x12 : wr.cell? ⟨w.heap.size, 12, none⟩ = some (.slice m3a m3n m3c) := (cell_of_row _ _ _ _ _ _ hhere).trans rfl
    have x13 : wr.cell? ⟨w.heap.size, 13, none⟩ = some (.slice m4a m4n m4c) := (cell_of_row _ _ _ _ _ _ hhere).trans rfl
    have fz := fun o => frozen_of_row wr w.heap.size o _ _ hhere
    clear hhere
    by_cases hlt : kk < d.rs.length
    · obtain ⟨b, o, he, -, -, hbl, -, hcells⟩ := (HRS.out.1.below HH.out.bel).cell (j := kk) (by omega)
      have hOk := (HRS.out.2 kk (by omega) hlt)
      simp only at he
      subst he
      generalize hr0 : raw0[kk]'(by omega) = r0 at hcells hOk
      clear hr0
      obtain ⟨ra, ri, rv, ⟨ga, gn, gc⟩⟩ := r0
      have z0 : wr.cell? ⟨b, o + kk * 4, none⟩ = some (.int .i64 ra) := hcells 0 (by decide)
      have z1 : wr.cell? ⟨b, o + kk * 4 + 1, none⟩ = some (.int .i64 ri) := by have := hcells 1 (by decide); rwa [← Nat.add_assoc] at this
      have z2 : wr.cell? ⟨b, o + kk * 4 + 2, none⟩ = some (.int .i64 rv) := by have := hcells 2 (by decide); rwa [← Nat.add_assoc] at this
      have z3 : wr.cell? ⟨b, o + kk * 4 + 3, none⟩ = some (.slice ga gn gc) := by have := hcells 3 (by decide); rwa [← Nat.add_assoc] at this
      clear hcells
      have hbA : Below wr.heap.size wr (wr.alloc (.cells #[.int .i64 ra, .int .i64 ri, .int .i64 rv, .slice ga gn gc] 77)) := (Below.refl _ _).alloc (Nat.le_refl _) _
      have hbW := HH.out.bel
      have hC := heap_alloc_new wr (.cells #[.int .i64 ra, .int .i64 ri, .int .i64 rv, .slice ga gn gc] 77)
      obtain ⟨ma, mn, mc, v1, hrun, hRn, hbel⟩ := app_new ((hOk.not.below hbW).below hbA) i6 _ 32 30 2 rfl rfl Try.underlying32 hi6 hz6 hs6 rfl (by rw [hb6]; decide) hOk.small 32
      have hCl : wr.heap.size < (wr.alloc (.cells #[.int .i64 ra, .int .i64 ri, .int .i64 rv, .slice ga gn gc] 77)).heap.size := by simp
      rw [show (wr.alloc (.cells #[.int .i64 ra, .int .i64 ri, .int .i64 rv, .slice ga gn gc] 77)).heap.size = wr.heap.size + 1 by simp] at hrun
      have hCv := (hbel.block _ hCl).trans hC
      have fv := fun o => frozen_of_row v1 wr.heap.size o _ _ hCv
      have xv : v1.cell? ⟨wr.heap.size, 3, none⟩ = some (.slice ga gn gc) := (cell_of_row _ _ _ _ _ _ hCv).trans rfl
      have hY : (v1.setCell ⟨wr.heap.size, 3, none⟩ (.slice ma mn mc)).heap[wr.heap.size]? = some (.cells #[.int .i64 ra, .int .i64 ri, .int .i64 rv, .slice ma mn mc] 77 (0, 0)) := by rw [heap_setCell_same _ _ _ _ _ _ hCv]; rfl
      have hb1 : Below wr.heap.size wr (v1.setCell ⟨wr.heap.size, 3, none⟩ (.slice ma mn mc)) := (hbA.trans (hbel.mono hbA.size)).setCell (Nat.le_refl _) _
      have hRY : RowOk P wr.heap.size (v1.setCell ⟨wr.heap.size, 3, none⟩ (.slice ma mn mc)).heap.size ⟨ra, ri, rv, ⟨ma, mn, mc⟩⟩ d.rs[kk] (v1.setCell ⟨wr.heap.size, 3, none⟩ (.slice ma mn mc)) :=
        ⟨hOk.a, hOk.i, hOk.v, hOk.small, (hRn.stay (q := wr.heap.size) (.inl hCl) 3 (.slice ma mn mc)).wide (Nat.le_of_lt hCl) (by simp [World.setCell])⟩
      have HY := Lib.hid (And.intro hY (And.intro hb1 hRY))
      clear hbA hbW hC hRn hbel hCv hY hb1 hRY hOk
      go_upto_region 11 with (first | (at_builtin; refine wpList_append_run rfl (.tmp 48) (.tmp 50) 32 rfl hrun ?_) | fail)
      clear hrun fv xv z0 z1 z2 z3 fz x0 x1 x2 x3 x4 x5 x6 x7 x8 x9 x10 x11 x12 x13
      obtain ⟨hY, hb1, hRY⟩ := HY.out
      clear HY
      generalize v1.setCell ⟨wr.heap.size, 3, none⟩ (.slice ma mn mc) = w1 at hY hb1 hRY ⊢
      have y0 : w1.cell? ⟨wr.heap.size, 0, none⟩ = some (.int .i64 ra) := (cell_of_row _ _ _ _ _ _ hY).trans rfl
      have y1 : w1.cell? ⟨wr.heap.size, 1, none⟩ = some (.int .i64 ri) := (cell_of_row _ _ _ _ _ _ hY).trans rfl
      have y2 : w1.cell? ⟨wr.heap.size, 2, none⟩ = some (.int .i64 rv) := (cell_of_row _ _ _ _ _ _ hY).trans rfl
      have y3 : w1.cell? ⟨wr.heap.size, 3, none⟩ = some (.slice ma mn mc) := (cell_of_row _ _ _ _ _ _ hY).trans rfl
      have hq2 := HH.out.size
      have hrow : (w1.alloc (.cells #[.int .i64 ra, .int .i64 ri, .int .i64 rv, .slice ma mn mc] 77)).ownsRow (w.heap.size + 2) 77 4 (.slice ob kk cb) kk (elR.rows raw) :=
        World.ownsRow.kept HW.out (row := none) ⟨(hb1.alloc hb1.size _).os, (hb1.alloc hb1.size _).tape, (hb1.alloc hb1.size _).output, (hb1.alloc hb1.size _).size, fun i hi _ => (hb1.alloc hb1.size _).block i hi⟩ (by cases (Value.slice ob kk cb).ownBlock <;> simp)
      have hn1 : kk + 1 ≤ maxLen := by unfold maxLen; omega
      have hn2 : (kk + 1) * 48 ≤ 140737488355328 := by omega
      have hP1 : w.heap.size + 2 ≤ (w1.alloc (.cells #[.int .i64 ra, .int .i64 ri, .int .i64 rv, .slice ma mn mc] 77)).heap.size := Nat.le_trans hq2 (Nat.le_trans hb1.size (by simp))
      have HROW := Lib.hid (And.intro hrow (And.intro hRY hb1))
      clear hrow hRY hb1 hY hq2
      go_wp2_with (first | (at_builtin; (refine wpList_append_lies _ rfl _ _ 33 rfl (w.heap.size + 2) 77 i7 _ 4 48 Try.underlying33 hi7 hz7 hs7 hb7 rfl (by decide) (.slice ob kk cb) kk (elR.rows raw) rfl HROW.out.1 ⟨w1.heap.size, 0, none⟩ 1 1 [.int .i64 ra, .int .i64 ri, .int .i64 rv, .slice ma mn mc] rfl rfl (World.news_of_block (cs := #[.int .i64 ra, .int .i64 ri, .int .i64 rv, .slice ma mn mc]) (t := 77) (fr := (0, 0)) (heap_alloc_new _ _)) (elR.one ⟨ra, ri, rv, ⟨ma, mn, mc⟩⟩) (by decide) hn1 hn2 hP1 (w1.heap.size + 1) (by simp) ?_); intro gg cap3 w3 hown1 hgrow hat hl1) | fail)
      obtain ⟨hrow, hRok, hb1⟩ := HROW.out
      have hA0 : w1.heap.size ≤ (w1.alloc (.cells #[.int .i64 ra, .int .i64 ri, .int .i64 rv, .slice ma mn mc] 77)).heap.size := by simp
      have hA : (w1.alloc (.cells #[.int .i64 ra, .int .i64 ri, .int .i64 rv, .slice ma mn mc] 77)).heap.size ≤ w3.heap.size := hgrow.size
      have hvl := World.ownsRow.lt HW.out
      have htag := row_tag HW.out
      have hkeep : ∀ j, j < w1.heap.size → (j < w.heap.size + 2 ∨ ∃ c, w1.heap[j]? = some (.cells c 80 (0, 0)) ∨ w1.heap[j]? = some (.cells c 30 (0, 0)) ∨ w1.heap[j]? = some (.cells c 82 (0, 0))) → w3.heap[j]? = w1.heap[j]? := by
        intro j h2 h3
        refine (hgrow.block j (by omega) (fun e => ?_)).trans (Below.heap_alloc _ _ _ h2)
        have h4 := hvl j e.symm
        obtain ⟨cur, hc⟩ := htag j e.symm
        have hc1 := (hb1.block j h4.2).trans hc
        rcases h3 with h3 | ⟨c, h3 | h3 | h3⟩
        · omega
        all_goals (rw [h3] at hc1; simp at hc1)
      have hI2 : Hid (RowsTo P (w.heap.size + 2) d.rs (raw ++ [⟨ra, ri, rv, ⟨ma, mn, mc⟩⟩]) w3) := Lib.hid (by
        have hl := hlen.out
        have hT := (HI.out.same hb1.size (fun j _ hj _ => hb1.block j hj)).same (Nat.le_trans hA0 hA) (fun j h1 h2 h3 => hkeep j h2 (by
          rcases h3 with h3 | ⟨c, h3⟩
          · left; omega
          · right; exact ⟨c, .inr (.inl h3)⟩))
        refine ⟨by simp; omega, fun j h1 h2 => ?_⟩
        by_cases hj : j < raw.length
        · rw [List.getElem_append_left hj]
          exact hT.ok j hj h2
        · have hj : j = raw.length := by simp at h1; omega
          subst hj
          rw [List.getElem_append_right (Nat.le_refl _)]
          simp only [Nat.sub_self, List.getElem_cons_zero]
          have e0 : d.rs[raw.length] = d.rs[kk] := by congr
          rw [e0]
          exact ⟨hRok.a, hRok.i, hRok.v, hRok.small, (hRok.not.same (Nat.le_trans hA0 hA) (fun x y _ z u => hkeep x z (by
            rcases u with u | ⟨c, u⟩
            · left; omega
            · right; exact ⟨c, .inr (.inl u)⟩))).wide HH.out.size (Nat.le_trans hA0 hA)⟩)
      have hR3 : Hid (w3.ownsRow (w.heap.size + 2) 77 4 (.slice (some ⟨gg, 0, none⟩) (kk + 1) cap3) (kk + 1) (elR.rows (raw ++ [⟨ra, ri, rv, ⟨ma, mn, mc⟩⟩]))) := Lib.hid (by rw [El.rows_append]; simpa [El.rows, elR] using hown1)
      have hb3 : Below (w.heap.size + 2) wr w3 := Below.grow ((hb1.mono HH.out.size).alloc (Nat.le_trans HH.out.size hb1.size) _) hgrow (fun j hj => (hvl j hj).1) hP1
      have hH3 : Hid (Half w.heap.size F4 w w3) := Lib.hid ⟨HH.out.bel.trans (hb3.mono (by omega)), Nat.le_trans HH.out.size hb3.size, (hb3.block _ (by omega)).trans HH.out.here, (hb3.block _ (by omega)).trans HH.out.next⟩
      have hs13 := Nat.le_trans hb1.size (Nat.le_trans hA0 hA)
      have hRR := Lib.hid (And.intro ((HR.out.1.below hb1).same (Nat.le_trans hA0 hA) (fun x _ _ z u => hkeep x z (by rcases u with u | ⟨c, u⟩; (left; omega); (right; exact ⟨c, .inl u⟩))) |>.wide (Nat.le_refl _) hs13)
        (And.intro ((HR.out.2.1.below hb1).same (Nat.le_trans hA0 hA) (fun x _ _ z u => hkeep x z (by rcases u with u | ⟨c, u⟩; (left; omega); (right; exact ⟨c, .inr (.inl u)⟩))) |>.wide (Nat.le_refl _) hs13)
        (And.intro ((HR.out.2.2.1.below hb1).same (Nat.le_trans hA0 hA) (fun x _ _ z u => hkeep x z (by rcases u with u | ⟨c, u⟩; (left; omega); (right; exact ⟨c, .inr (.inr u)⟩))) |>.wide (Nat.le_refl _) hs13)
          ((HR.out.2.2.2.below hb1).same (Nat.le_trans hA0 hA) (fun x _ _ z u => hkeep x z (by rcases u with u | ⟨c, u⟩; (left; omega); (right; exact ⟨c, .inr (.inl u)⟩))) |>.wide (Nat.le_refl _) hs13))))
      have hln : Hid ((raw ++ [(⟨ra, ri, rv, ⟨ma, mn, mc⟩⟩ : RowR)]).length = kk + 1) := Lib.hid (by have := hlen.out; simp [this])
      clear hown1 hgrow hat hl1 HROW hn1 hn2 hP1 hrow hRok hb1 hkeep hvl htag hb3 y0 y1 y2 y3
      refine ⟨⟨kk + 1, raw ++ [⟨ra, ri, rv, ⟨ma, mn, mc⟩⟩], some ⟨gg, 0, none⟩, cap3, by omega, by go_num, rfl, hln, hH3, hR3, hI2, hRR⟩, ?_⟩
      simp only [intOf]; omega
    · obtain rfl : kk = d.rs.length := by omega
      have y0 : wr.cell? ⟨w.heap.size + 1, 0, none⟩ = some (.int .u8 0) := (cell_of_row _ _ _ _ _ _ HH.out.next).trans rfl
      have y1 : wr.cell? ⟨w.heap.size + 1, 1, none⟩ = some (.int .i64 0) := (cell_of_row _ _ _ _ _ _ HH.out.next).trans rfl
      have y2 : wr.cell? ⟨w.heap.size + 1, 2, none⟩ = some (.int .i64 0) := (cell_of_row _ _ _ _ _ _ HH.out.next).trans rfl
      have y3 : wr.cell? ⟨w.heap.size + 1, 3, none⟩ = some (.int .i64 0) := (cell_of_row _ _ _ _ _ _ HH.out.next).trans rfl
      have y4 : wr.cell? ⟨w.heap.size + 1, 4, none⟩ = some (.int .i64 0) := (cell_of_row _ _ _ _ _ _ HH.out.next).trans rfl
      have y5 : wr.cell? ⟨w.heap.size + 1, 5, none⟩ = some (.int .i64 0) := (cell_of_row _ _ _ _ _ _ HH.out.next).trans rfl
      have y6 : wr.cell? ⟨w.heap.size + 1, 6, none⟩ = some (.int .i64 0) := (cell_of_row _ _ _ _ _ _ HH.out.next).trans rfl
      have y7 : wr.cell? ⟨w.heap.size + 1, 7, none⟩ = some (.int .i64 0) := (cell_of_row _ _ _ _ _ _ HH.out.next).trans rfl
      have y8 : wr.cell? ⟨w.heap.size + 1, 8, none⟩ = some (.int .i64 0) := (cell_of_row _ _ _ _ _ _ HH.out.next).trans rfl
      have y9 : wr.cell? ⟨w.heap.size + 1, 9, none⟩ = some (.slice none 0 0) := (cell_of_row _ _ _ _ _ _ HH.out.next).trans rfl
      have y10 : wr.cell? ⟨w.heap.size + 1, 10, none⟩ = some (.slice none 0 0) := (cell_of_row _ _ _ _ _ _ HH.out.next).trans rfl
      have y11 : wr.cell? ⟨w.heap.size + 1, 11, none⟩ = some (.slice none 0 0) := (cell_of_row _ _ _ _ _ _ HH.out.next).trans rfl
      have y12 : wr.cell? ⟨w.heap.size + 1, 12, none⟩ = some (.slice none 0 0) := (cell_of_row _ _ _ _ _ _ HH.out.next).trans rfl
      have y13 : wr.cell? ⟨w.heap.size + 1, 13, none⟩ = some (.slice none 0 0) := (cell_of_row _ _ _ _ _ _ HH.out.next).trans rfl
      have fy := fun o => frozen_of_row wr (w.heap.size + 1) o _ _ HH.out.next
      go_wp2_with fail
      have hl := hlen.out
      have hW0 : Stay w.heap.size wr (wr.setCell ⟨w.heap.size, 11, none⟩ (.slice ob d.rs.length cb)) := (Stay.refl w.heap.size wr).setCell (p := ⟨w.heap.size, 11, none⟩) (.inl rfl) _
      have hZs := hW0.trans (Fr.laid_stay ⟨k, fa, fi, ta, ti, n, tk, ba, bi, ⟨m1a, m1n, m1c⟩, ⟨m2a, m2n, m2c⟩, ⟨ob, d.rs.length, cb⟩, ⟨m3a, m3n, m3c⟩, ⟨m4a, m4n, m4c⟩⟩ (wr.setCell ⟨w.heap.size, 11, none⟩ (.slice ob d.rs.length cb)) w.heap.size)
      have hZ1 := Fr.laid_row ⟨k, fa, fi, ta, ti, n, tk, ba, bi, ⟨m1a, m1n, m1c⟩, ⟨m2a, m2n, m2c⟩, ⟨ob, d.rs.length, cb⟩, ⟨m3a, m3n, m3c⟩, ⟨m4a, m4n, m4c⟩⟩ (wr.setCell ⟨w.heap.size, 11, none⟩ (.slice ob d.rs.length cb)) (w.heap.size + 1) ((Below.heap_setCell _ _ _ _ (by simp)).trans HH.out.next)
      have hZb : Below w.heap.size w (Fr.laid ⟨k, fa, fi, ta, ti, n, tk, ba, bi, ⟨m1a, m1n, m1c⟩, ⟨m2a, m2n, m2c⟩, ⟨ob, d.rs.length, cb⟩, ⟨m3a, m3n, m3c⟩, ⟨m4a, m4n, m4c⟩⟩ (wr.setCell ⟨w.heap.size, 11, none⟩ (.slice ob d.rs.length cb)) (w.heap.size + 1)) := Fr.laid_below ⟨k, fa, fi, ta, ti, n, tk, ba, bi, ⟨m1a, m1n, m1c⟩, ⟨m2a, m2n, m2c⟩, ⟨ob, d.rs.length, cb⟩, ⟨m3a, m3n, m3c⟩, ⟨m4a, m4n, m4c⟩⟩ (HH.out.bel.setCell (p := ⟨w.heap.size, 11, none⟩) (Nat.le_refl _) _) (Nat.le_succ _)
      change bodyPost _ _ _ _ _ (Fr.laid ⟨k, fa, fi, ta, ti, n, tk, ba, bi, ⟨m1a, m1n, m1c⟩, ⟨m2a, m2n, m2c⟩, ⟨ob, d.rs.length, cb⟩, ⟨m3a, m3n, m3c⟩, ⟨m4a, m4n, m4c⟩⟩ (wr.setCell ⟨w.heap.size, 11, none⟩ (.slice ob d.rs.length cb)) (w.heap.size + 1))
      clear fz x0 x1 x2 x3 x4 x5 x6 x7 x8 x9 x10 x11 x12 x13 y0 y1 y2 y3 y4 y5 y6 y7 y8 y9 y10 y11 y12 y13 fy
      generalize Fr.laid ⟨k, fa, fi, ta, ti, n, tk, ba, bi, ⟨m1a, m1n, m1c⟩, ⟨m2a, m2n, m2c⟩, ⟨ob, d.rs.length, cb⟩, ⟨m3a, m3n, m3c⟩, ⟨m4a, m4n, m4c⟩⟩ (wr.setCell ⟨w.heap.size, 11, none⟩ (.slice ob d.rs.length cb)) (w.heap.size + 1) = Z at hZs hZ1 hZb ⊢
      have hst : ∀ j, w.heap.size + 2 ≤ j → j < wr.heap.size → Z.heap[j]? = wr.heap[j]? := fun j h1 h2 => hZs.block j h2 (by omega) (by omega)
      have hRw := HW.out
      rw [← hl] at hRw
      obtain ⟨a', c', e, hRd⟩ := rd_of_row (E := elR) (P := P) hRw
      simp only [Value.slice.injEq] at e
      obtain ⟨rfl, -, rfl⟩ := e
      rw [hl] at hRd
      have hrws : Rws P (w.heap.size + 2) wr.heap.size ⟨ob, d.rs.length, cb⟩ d.rs wr := ⟨raw, hl, hRd, HI.out.ok⟩
      have y0 : Z.cell? ⟨w.heap.size + 1, 0, none⟩ = some (.int .u8 k) := (cell_of_row _ _ _ _ _ _ hZ1).trans rfl
      have y1 : Z.cell? ⟨w.heap.size + 1, 1, none⟩ = some (.int .i64 fa) := (cell_of_row _ _ _ _ _ _ hZ1).trans rfl
      have y2 : Z.cell? ⟨w.heap.size + 1, 2, none⟩ = some (.int .i64 fi) := (cell_of_row _ _ _ _ _ _ hZ1).trans rfl
      have y3 : Z.cell? ⟨w.heap.size + 1, 3, none⟩ = some (.int .i64 ta) := (cell_of_row _ _ _ _ _ _ hZ1).trans rfl
      have y4 : Z.cell? ⟨w.heap.size + 1, 4, none⟩ = some (.int .i64 ti) := (cell_of_row _ _ _ _ _ _ hZ1).trans rfl
      have y5 : Z.cell? ⟨w.heap.size + 1, 5, none⟩ = some (.int .i64 n) := (cell_of_row _ _ _ _ _ _ hZ1).trans rfl
      have y6 : Z.cell? ⟨w.heap.size + 1, 6, none⟩ = some (.int .i64 tk) := (cell_of_row _ _ _ _ _ _ hZ1).trans rfl
      have y7 : Z.cell? ⟨w.heap.size + 1, 7, none⟩ = some (.int .i64 ba) := (cell_of_row _ _ _ _ _ _ hZ1).trans rfl
      have y8 : Z.cell? ⟨w.heap.size + 1, 8, none⟩ = some (.int .i64 bi) := (cell_of_row _ _ _ _ _ _ hZ1).trans rfl
      have y9 : Z.cell? ⟨w.heap.size + 1, 9, none⟩ = some (.slice m1a m1n m1c) := (cell_of_row _ _ _ _ _ _ hZ1).trans rfl
      have y10 : Z.cell? ⟨w.heap.size + 1, 10, none⟩ = some (.slice m2a m2n m2c) := (cell_of_row _ _ _ _ _ _ hZ1).trans rfl
      have y11 : Z.cell? ⟨w.heap.size + 1, 11, none⟩ = some (.slice ob d.rs.length cb) := (cell_of_row _ _ _ _ _ _ hZ1).trans rfl
      have y12 : Z.cell? ⟨w.heap.size + 1, 12, none⟩ = some (.slice m3a m3n m3c) := (cell_of_row _ _ _ _ _ _ hZ1).trans rfl
      have y13 : Z.cell? ⟨w.heap.size + 1, 13, none⟩ = some (.slice m4a m4n m4c) := (cell_of_row _ _ _ _ _ _ hZ1).trans rfl
      refine bodyPost_ret (v := .agg #[.int .u8 k, .int .i64 fa, .int .i64 fi, .int .i64 ta, .int .i64 ti, .int .i64 n, .int .i64 tk, .int .i64 ba, .int .i64 bi, .slice m1a m1n m1c, .slice m2a m2n m2c, .slice ob d.rs.length cb, .slice m3a m3n m3c, .slice m4a m4n m4c]) (by simp [results, Try.results24, go_sem, y0, y1, y2, y3, y4, y5, y6, y7, y8, y9, y10, y11, y12, y13]) rfl ⟨⟨m1a, m1n, m1c⟩, ⟨m2a, m2n, m2c⟩, ⟨ob, d.rs.length, cb⟩, ⟨m3a, m3n, m3c⟩, ⟨m4a, m4n, m4c⟩, rfl, ?_, ?_, ?_, ?_, ?_, hZb⟩
      · exact (HR.out.1.same hZs.size fun j h1 _ h2 _ => hst j h1 h2).wide (Nat.le_add_right _ _) hZs.size
      · exact (HR.out.2.1.same hZs.size fun j h1 _ h2 _ => hst j h1 h2).wide (Nat.le_add_right _ _) hZs.size
      · exact (hrws.same hZs.size fun j h1 _ h2 _ => hst j h1 h2).wide (Nat.le_add_right _ _) hZs.size
      · exact (HR.out.2.2.1.same hZs.size fun j h1 _ h2 _ => hst j h1 h2).wide (Nat.le_add_right _ _) hZs.size
      · exact (HR.out.2.2.2.same hZs.size fun j h1 _ h2 _ => hst j h1 h2).wide (Nat.le_add_right _ _) hZs.size
end Go.Proofs.Ytjdhdmljchnidaa
