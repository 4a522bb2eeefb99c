/-
  The walk of spoil.
-/
import Derived.Test.YtjdhdmljchnidaaSpoil
namespace Go.Proofs.Ytjdhdmljchnidaa
open Go.RowKit
set_option linter.unusedVariables false
set_option linter.unusedSimpArgs false
attribute [local go_sem ↓] Go.wp_at_zero Go.wp_at_succ
/-- A list of the call's own: its block, the cells that are written over. -/
structure Li (e k off lo hi : Nat) (s : SL) (w : World) : Prop where
  le : s.n ≤ s.c
  c : s.c ≤ maxLen
  at_ : 0 < s.n → ∃ b o, s.a = some ⟨b, o, none⟩ ∧ lo ≤ b ∧ b < hi ∧ b < w.heap.size ∧ Of e b w ∧ ∀ j, j < s.n → ∃ kd x, w.cell? ⟨b, o + (j * k + off), none⟩ = some (.int kd x)
theorem Rd.li {α : Type} {E : El α} {P lo hi : Nat} {s : SL} {l : List α} {w : World} (h : Rd E P lo hi s l w) (hP : P ≤ lo) (off : Nat) (hoff : off < E.k) (hint : ∀ a, ∃ kd x, (E.c a)[off]? = some (.int kd x)) : Li E.e E.k off lo hi s w := by
  refine ⟨h.le, h.c, fun hn => ?_⟩
  have hn' := h.n
  obtain ⟨b, o, e, h1, h2, h3, h4, h5⟩ := h.at_ (by omega)
  refine ⟨b, o, e, h1, h2, h3, h4.resolve_left (by omega), fun j hj => ?_⟩
  have hjl : j < l.length := by omega
  obtain ⟨kd, x, hx⟩ := hint l[j]
  exact ⟨kd, x, h5 _ _ (by rw [E.rows_get l j off hjl hoff]; exact hx)⟩
/-- Rows, and their lists. -/
structure Lr (lo hi : Nat) (s : SL) (w : World) : Prop where
  li : Li 77 4 2 lo hi s w
  not : ∀ b o, s.a = some ⟨b, o, none⟩ → ∀ j, j < s.n → ∃ (na : Option Addr) (nn nc : Nat), w.cell? ⟨b, o + j * 4 + 3, none⟩ = some (.slice na nn nc) ∧ Li 30 2 1 lo hi ⟨na, nn, nc⟩ w ∧ nn ≤ 100000
/-- The spoiling, half done: the frame's own box stands; slices are as they were. -/
structure Sp (lo hi : Nat) (F : Array Value) (w wr : World) : Prop where
  over : Over lo hi w wr
  here : wr.heap[w.heap.size]? = some (.cells F 38 (0, 0))
  cell : ∀ (a : Addr) (u : Value), w.cell? a = some u → ∃ u', wr.cell? a = some u'
  sl : ∀ (a : Addr) (x : Option Addr) (y z : Nat), w.cell? a = some (.slice x y z) → wr.cell? a = some (.slice x y z)
theorem Sp.set {lo hi : Nat} {F : Array Value} {w wr : World} (h : Sp lo hi F w wr) {g j : Nat} (h1 : lo ≤ g) (h2 : g < hi) (h3 : Nest g w) (hhi : hi ≤ w.heap.size) {kd : IntKind} {y : Int} (hy : w.cell? ⟨g, j, none⟩ = some (.int kd y)) (x : Value) : Sp lo hi F w (wr.setCell ⟨g, j, none⟩ x) := by
  refine ⟨h.over.setCell h1 h2 (fun _ => h3) x, (Below.heap_setCell _ _ _ _ (by simp only; omega)).trans h.here, fun a u hu => ?_, fun a p q r ha => ?_⟩
  · obtain ⟨u', hu'⟩ := h.cell a u hu
    by_cases e : (⟨g, j, none⟩ : Addr) = a
    · subst e
      exact ⟨x, World.cell?_setCell_same _ _ _ hu'⟩
    · exact ⟨u', (World.cell?_setCell_other _ _ _ _ e).trans hu'⟩
  · by_cases e : (⟨g, j, none⟩ : Addr) = a
    · subst e
      rw [hy] at ha
      cases ha
    · exact (World.cell?_setCell_other _ _ _ _ e).trans (h.sl a p q r ha)
set_option maxRecDepth 100000 in
set_option maxHeartbeats 8000000 in
theorem spoil_lit {lo hi : Nat} (k fa fi ta ti n tk ba bi : Int) (a1 a2 a3 a4 a5 : Option Addr) (n1 c1 n2 c2 n3 c3 n4 c4 n5 c5 : Nat) (w : World) (hhi : hi ≤ w.heap.size)
    (L1 : Li 80 4 2 lo hi ⟨a1, n1, c1⟩ w) (L2 : Li 30 2 1 lo hi ⟨a2, n2, c2⟩ w) (L3 : Lr lo hi ⟨a3, n3, c3⟩ w) (L4 : Li 82 3 2 lo hi ⟨a4, n4, c4⟩ w) (L5 : Li 30 2 1 lo hi ⟨a5, n5, c5⟩ w) (z1 : n1 ≤ 100000) (z2 : n2 ≤ 100000) (z3 : n3 ≤ 100000) (z4 : n4 ≤ 100000) (z5 : n5 ≤ 100000) :
    Calls Try.prog 26 #[.agg #[.int .u8 k, .int .i64 fa, .int .i64 fi, .int .i64 ta, .int .i64 ti, .int .i64 n, .int .i64 tk, .int .i64 ba, .int .i64 bi, .slice a1 n1 c1, .slice a2 n2 c2, .slice a3 n3 c3, .slice a4 n4 c4, .slice a5 n5 c5]] w fun e w' => e = .returned (.tuple #[]) ∧ Over lo hi w w' := by
  have hS : Sp lo hi #[.int .u8 k, .int .i64 fa, .int .i64 fi, .int .i64 ta, .int .i64 ti, .int .i64 n, .int .i64 tk, .int .i64 ba, .int .i64 bi, .slice a1 n1 c1, .slice a2 n2 c2, .slice a3 n3 c3, .slice a4 n4 c4, .slice a5 n5 c5] w (w.alloc (.cells #[.int .u8 k, .int .i64 fa, .int .i64 fi, .int .i64 ta, .int .i64 ti, .int .i64 n, .int .i64 tk, .int .i64 ba, .int .i64 bi, .slice a1 n1 c1, .slice a2 n2 c2, .slice a3 n3 c3, .slice a4 n4 c4, .slice a5 n5 c5] 38)) := ⟨Over.of_below ((Below.refl _ _).alloc (Nat.le_refl _) _), heap_alloc_new _ _, fun a u hu => ⟨u, (((Below.refl w.heap.size w).alloc (Nat.le_refl _) (.cells #[.int .u8 k, .int .i64 fa, .int .i64 fi, .int .i64 ta, .int .i64 ti, .int .i64 n, .int .i64 tk, .int .i64 ba, .int .i64 bi, .slice a1 n1 c1, .slice a2 n2 c2, .slice a3 n3 c3, .slice a4 n4 c4, .slice a5 n5 c5] 38)).cell (World.block_lt_of_cell? w a hu)).trans hu⟩, fun a x y z hu => (((Below.refl w.heap.size w).alloc (Nat.le_refl _) (.cells #[.int .u8 k, .int .i64 fa, .int .i64 fi, .int .i64 ta, .int .i64 ti, .int .i64 n, .int .i64 tk, .int .i64 ba, .int .i64 bi, .slice a1 n1 c1, .slice a2 n2 c2, .slice a3 n3 c3, .slice a4 n4 c4, .slice a5 n5 c5] 38)).cell (World.block_lt_of_cell? w a hu)).trans hu⟩
  go_enter Try.func26, Try.ntmps26
  go_wp2_with fail
  go_loopw [2] (fun i wr => ∃ kk : Nat, kk ≤ n1 ∧ i = .int .i64 kk ∧ Sp lo hi #[.int .u8 k, .int .i64 fa, .int .i64 fi, .int .i64 ta, .int .i64 ti, .int .i64 n, .int .i64 tk, .int .i64 ba, .int .i64 bi, .slice a1 n1 c1, .slice a2 n2 c2, .slice a3 n3 c3, .slice a4 n4 c4, .slice a5 n5 c5] w wr) (fun i _ => n1 - (intOf i).toNat)
  case atStart => exact ⟨0, by omega, rfl, hS⟩
  case round =>
    clear hS
    obtain ⟨kk, hk, rfl, hS⟩ := hrel
    have x0 : wr.cell? ⟨w.heap.size, 0, none⟩ = some (.int .u8 k) := (cell_of_row _ _ _ _ _ _ hS.here).trans rfl
    have x1 : wr.cell? ⟨w.heap.size, 1, none⟩ = some (.int .i64 fa) := (cell_of_row _ _ _ _ _ _ hS.here).trans rfl
    have x2 : wr.cell? ⟨w.heap.size, 2, none⟩ = some (.int .i64 fi) := (cell_of_row _ _ _ _ _ _ hS.here).trans rfl
    have x3 : wr.cell? ⟨w.heap.size, 3, none⟩ = some (.int .i64 ta) := (cell_of_row _ _ _ _ _ _ hS.here).trans rfl
    have x4 : wr.cell? ⟨w.heap.size, 4, none⟩ = some (.int .i64 ti) := (cell_of_row _ _ _ _ _ _ hS.here).trans rfl
    have x5 : wr.cell? ⟨w.heap.size, 5, none⟩ = some (.int .i64 n) := (cell_of_row _ _ _ _ _ _ hS.here).trans rfl
    have x6 : wr.cell? ⟨w.heap.size, 6, none⟩ = some (.int .i64 tk) := (cell_of_row _ _ _ _ _ _ hS.here).trans rfl
    have x7 : wr.cell? ⟨w.heap.size, 7, none⟩ = some (.int .i64 ba) := (cell_of_row _ _ _ _ _ _ hS.here).trans rfl
    have x8 : wr.cell? ⟨w.heap.size, 8, none⟩ = some (.int .i64 bi) := (cell_of_row _ _ _ _ _ _ hS.here).trans rfl
    have x9 : wr.cell? ⟨w.heap.size, 9, none⟩ = some (.slice a1 n1 c1) := (cell_of_row _ _ _ _ _ _ hS.here).trans rfl
    have x10 : wr.cell? ⟨w.heap.size, 10, none⟩ = some (.slice a2 n2 c2) := (cell_of_row _ _ _ _ _ _ hS.here).trans rfl
    have x11 : wr.cell? ⟨w.heap.size, 11, none⟩ = some (.slice a3 n3 c3) := (cell_of_row _ _ _ _ _ _ hS.here).trans rfl
    have x12 : wr.cell? ⟨w.heap.size, 12, none⟩ = some (.slice a4 n4 c4) := (cell_of_row _ _ _ _ _ _ hS.here).trans rfl
    have x13 : wr.cell? ⟨w.heap.size, 13, none⟩ = some (.slice a5 n5 c5) := (cell_of_row _ _ _ _ _ _ hS.here).trans rfl
    by_cases hlt : kk < n1
    · obtain ⟨b, o, he, hb1, hb2, hb3, hof, hcl⟩ := L1.at_ (by simp only; omega)
      simp only at he
      subst he
      obtain ⟨kd0, u0, hu0⟩ := hcl kk hlt
      obtain ⟨u, hu⟩ := hS.cell _ _ hu0
      rw [← Nat.add_assoc] at hu
      obtain ⟨cu, hcu⟩ := hS.over.tag b hb3 _ hof
      have fz := fun o => frozen_of_row wr b o _ _ hcu
      have hS2 := hS.set (j := o + kk * 4 + 2) hb1 hb2 (.inl hof) hhi (by rw [Nat.add_assoc]; exact hu0) (.int .u8 99)
      have HS := Lib.hid hS2
      clear hS hS2 hof hcl hu0 hcu
      go_wp2_with fail
      go_roundw
      case rel => exact ⟨kk + 1, by omega, by go_num, HS.out⟩
      case measure => simp only [intOf]; omega
    · obtain rfl : n1 = kk := by omega
      clear hlt hk
      go_wp2_with fail
      clear x0 x1 x2 x3 x4 x5 x6 x7 x8 x9 x10 x11 x12 x13
      go_loopw [3] (fun i wr => ∃ kk : Nat, kk ≤ n2 ∧ i = .int .i64 kk ∧ Sp lo hi #[.int .u8 k, .int .i64 fa, .int .i64 fi, .int .i64 ta, .int .i64 ti, .int .i64 n, .int .i64 tk, .int .i64 ba, .int .i64 bi, .slice a1 n1 c1, .slice a2 n2 c2, .slice a3 n3 c3, .slice a4 n4 c4, .slice a5 n5 c5] w wr) (fun i _ => n2 - (intOf i).toNat)
      case atStart => exact ⟨0, by omega, rfl, hS⟩
      case round =>
        clear hS
        obtain ⟨kk, hk, rfl, hS⟩ := hrel
        have x0 : wr.cell? ⟨w.heap.size, 0, none⟩ = some (.int .u8 k) := (cell_of_row _ _ _ _ _ _ hS.here).trans rfl
        have x1 : wr.cell? ⟨w.heap.size, 1, none⟩ = some (.int .i64 fa) := (cell_of_row _ _ _ _ _ _ hS.here).trans rfl
        have x2 : wr.cell? ⟨w.heap.size, 2, none⟩ = some (.int .i64 fi) := (cell_of_row _ _ _ _ _ _ hS.here).trans rfl
        have x3 : wr.cell? ⟨w.heap.size, 3, none⟩ = some (.int .i64 ta) := (cell_of_row _ _ _ _ _ _ hS.here).trans rfl
        have x4 : wr.cell? ⟨w.heap.size, 4, none⟩ = some (.int .i64 ti) := (cell_of_row _ _ _ _ _ _ hS.here).trans rfl
        have x5 : wr.cell? ⟨w.heap.size, 5, none⟩ = some (.int .i64 n) := (cell_of_row _ _ _ _ _ _ hS.here).trans rfl
        have x6 : wr.cell? ⟨w.heap.size, 6, none⟩ = some (.int .i64 tk) := (cell_of_row _ _ _ _ _ _ hS.here).trans rfl
        have x7 : wr.cell? ⟨w.heap.size, 7, none⟩ = some (.int .i64 ba) := (cell_of_row _ _ _ _ _ _ hS.here).trans rfl
        have x8 : wr.cell? ⟨w.heap.size, 8, none⟩ = some (.int .i64 bi) := (cell_of_row _ _ _ _ _ _ hS.here).trans rfl
        have x9 : wr.cell? ⟨w.heap.size, 9, none⟩ = some (.slice a1 n1 c1) := (cell_of_row _ _ _ _ _ _ hS.here).trans rfl
        have x10 : wr.cell? ⟨w.heap.size, 10, none⟩ = some (.slice a2 n2 c2) := (cell_of_row _ _ _ _ _ _ hS.here).trans rfl
        have x11 : wr.cell? ⟨w.heap.size, 11, none⟩ = some (.slice a3 n3 c3) := (cell_of_row _ _ _ _ _ _ hS.here).trans rfl
        have x12 : wr.cell? ⟨w.heap.size, 12, none⟩ = some (.slice a4 n4 c4) := (cell_of_row _ _ _ _ _ _ hS.here).trans rfl
        have x13 : wr.cell? ⟨w.heap.size, 13, none⟩ = some (.slice a5 n5 c5) := (cell_of_row _ _ _ _ _ _ hS.here).trans rfl
        by_cases hlt : kk < n2
        · obtain ⟨b, o, he, hb1, hb2, hb3, hof, hcl⟩ := L2.at_ (by simp only; omega)
          simp only at he
          subst he
          obtain ⟨kd0, u0, hu0⟩ := hcl kk hlt
          obtain ⟨u, hu⟩ := hS.cell _ _ hu0
          rw [← Nat.add_assoc] at hu
          obtain ⟨cu, hcu⟩ := hS.over.tag b hb3 _ hof
          have fz := fun o => frozen_of_row wr b o _ _ hcu
          have hS2 := hS.set (j := o + kk * 2 + 1) hb1 hb2 (.inr (.inl hof)) hhi (by rw [Nat.add_assoc]; exact hu0) (.int .i64 (-9))
          have HS := Lib.hid hS2
          clear hS hS2 hof hcl hu0 hcu
          go_wp2_with fail
          go_roundw
          case rel => exact ⟨kk + 1, by omega, by go_num, HS.out⟩
          case measure => simp only [intOf]; omega
        · obtain rfl : n2 = kk := by omega
          clear hlt hk
          go_wp2_with fail
          clear x0 x1 x2 x3 x4 x5 x6 x7 x8 x9 x10 x11 x12 x13
          go_loopw [4] (fun i wr => ∃ kk : Nat, kk ≤ n4 ∧ i = .int .i64 kk ∧ Sp lo hi #[.int .u8 k, .int .i64 fa, .int .i64 fi, .int .i64 ta, .int .i64 ti, .int .i64 n, .int .i64 tk, .int .i64 ba, .int .i64 bi, .slice a1 n1 c1, .slice a2 n2 c2, .slice a3 n3 c3, .slice a4 n4 c4, .slice a5 n5 c5] w wr) (fun i _ => n4 - (intOf i).toNat)
          case atStart => exact ⟨0, by omega, rfl, hS⟩
          case round =>
            clear hS
            obtain ⟨kk, hk, rfl, hS⟩ := hrel
            have x0 : wr.cell? ⟨w.heap.size, 0, none⟩ = some (.int .u8 k) := (cell_of_row _ _ _ _ _ _ hS.here).trans rfl
            have x1 : wr.cell? ⟨w.heap.size, 1, none⟩ = some (.int .i64 fa) := (cell_of_row _ _ _ _ _ _ hS.here).trans rfl
            have x2 : wr.cell? ⟨w.heap.size, 2, none⟩ = some (.int .i64 fi) := (cell_of_row _ _ _ _ _ _ hS.here).trans rfl
            have x3 : wr.cell? ⟨w.heap.size, 3, none⟩ = some (.int .i64 ta) := (cell_of_row _ _ _ _ _ _ hS.here).trans rfl
            have x4 : wr.cell? ⟨w.heap.size, 4, none⟩ = some (.int .i64 ti) := (cell_of_row _ _ _ _ _ _ hS.here).trans rfl
            have x5 : wr.cell? ⟨w.heap.size, 5, none⟩ = some (.int .i64 n) := (cell_of_row _ _ _ _ _ _ hS.here).trans rfl
            have x6 : wr.cell? ⟨w.heap.size, 6, none⟩ = some (.int .i64 tk) := (cell_of_row _ _ _ _ _ _ hS.here).trans rfl
            have x7 : wr.cell? ⟨w.heap.size, 7, none⟩ = some (.int .i64 ba) := (cell_of_row _ _ _ _ _ _ hS.here).trans rfl
            have x8 : wr.cell? ⟨w.heap.size, 8, none⟩ = some (.int .i64 bi) := (cell_of_row _ _ _ _ _ _ hS.here).trans rfl
            have x9 : wr.cell? ⟨w.heap.size, 9, none⟩ = some (.slice a1 n1 c1) := (cell_of_row _ _ _ _ _ _ hS.here).trans rfl
            have x10 : wr.cell? ⟨w.heap.size, 10, none⟩ = some (.slice a2 n2 c2) := (cell_of_row _ _ _ _ _ _ hS.here).trans rfl
            have x11 : wr.cell? ⟨w.heap.size, 11, none⟩ = some (.slice a3 n3 c3) := (cell_of_row _ _ _ _ _ _ hS.here).trans rfl
            have x12 : wr.cell? ⟨w.heap.size, 12, none⟩ = some (.slice a4 n4 c4) := (cell_of_row _ _ _ _ _ _ hS.here).trans rfl
            have x13 : wr.cell? ⟨w.heap.size, 13, none⟩ = some (.slice a5 n5 c5) := (cell_of_row _ _ _ _ _ _ hS.here).trans rfl
            by_cases hlt : kk < n4
            · obtain ⟨b, o, he, hb1, hb2, hb3, hof, hcl⟩ := L4.at_ (by simp only; omega)
              simp only at he
              subst he
              obtain ⟨kd0, u0, hu0⟩ := hcl kk hlt
              obtain ⟨u, hu⟩ := hS.cell _ _ hu0
              rw [← Nat.add_assoc] at hu
              obtain ⟨cu, hcu⟩ := hS.over.tag b hb3 _ hof
              have fz := fun o => frozen_of_row wr b o _ _ hcu
              have hS2 := hS.set (j := o + kk * 3 + 2) hb1 hb2 (.inr (.inr (.inl hof))) hhi (by rw [Nat.add_assoc]; exact hu0) (.int .i64 (-9))
              have HS := Lib.hid hS2
              clear hS hS2 hof hcl hu0 hcu
              go_wp2_with fail
              go_roundw
              case rel => exact ⟨kk + 1, by omega, by go_num, HS.out⟩
              case measure => simp only [intOf]; omega
            · obtain rfl : n4 = kk := by omega
              clear hlt hk
              go_wp2_with fail
              clear x0 x1 x2 x3 x4 x5 x6 x7 x8 x9 x10 x11 x12 x13
              go_loopw [5] (fun i wr => ∃ kk : Nat, kk ≤ n5 ∧ i = .int .i64 kk ∧ Sp lo hi #[.int .u8 k, .int .i64 fa, .int .i64 fi, .int .i64 ta, .int .i64 ti, .int .i64 n, .int .i64 tk, .int .i64 ba, .int .i64 bi, .slice a1 n1 c1, .slice a2 n2 c2, .slice a3 n3 c3, .slice a4 n4 c4, .slice a5 n5 c5] w wr) (fun i _ => n5 - (intOf i).toNat)
              case atStart => exact ⟨0, by omega, rfl, hS⟩
              case round =>
                clear hS
                obtain ⟨kk, hk, rfl, hS⟩ := hrel
                have x0 : wr.cell? ⟨w.heap.size, 0, none⟩ = some (.int .u8 k) := (cell_of_row _ _ _ _ _ _ hS.here).trans rfl
                have x1 : wr.cell? ⟨w.heap.size, 1, none⟩ = some (.int .i64 fa) := (cell_of_row _ _ _ _ _ _ hS.here).trans rfl
                have x2 : wr.cell? ⟨w.heap.size, 2, none⟩ = some (.int .i64 fi) := (cell_of_row _ _ _ _ _ _ hS.here).trans rfl
                have x3 : wr.cell? ⟨w.heap.size, 3, none⟩ = some (.int .i64 ta) := (cell_of_row _ _ _ _ _ _ hS.here).trans rfl
                have x4 : wr.cell? ⟨w.heap.size, 4, none⟩ = some (.int .i64 ti) := (cell_of_row _ _ _ _ _ _ hS.here).trans rfl
                have x5 : wr.cell? ⟨w.heap.size, 5, none⟩ = some (.int .i64 n) := (cell_of_row _ _ _ _ _ _ hS.here).trans rfl
                have x6 : wr.cell? ⟨w.heap.size, 6, none⟩ = some (.int .i64 tk) := (cell_of_row _ _ _ _ _ _ hS.here).trans rfl
                have x7 : wr.cell? ⟨w.heap.size, 7, none⟩ = some (.int .i64 ba) := (cell_of_row _ _ _ _ _ _ hS.here).trans rfl
                have x8 : wr.cell? ⟨w.heap.size, 8, none⟩ = some (.int .i64 bi) := (cell_of_row _ _ _ _ _ _ hS.here).trans rfl
                have x9 : wr.cell? ⟨w.heap.size, 9, none⟩ = some (.slice a1 n1 c1) := (cell_of_row _ _ _ _ _ _ hS.here).trans rfl
                have x10 : wr.cell? ⟨w.heap.size, 10, none⟩ = some (.slice a2 n2 c2) := (cell_of_row _ _ _ _ _ _ hS.here).trans rfl
                have x11 : wr.cell? ⟨w.heap.size, 11, none⟩ = some (.slice a3 n3 c3) := (cell_of_row _ _ _ _ _ _ hS.here).trans rfl
                have x12 : wr.cell? ⟨w.heap.size, 12, none⟩ = some (.slice a4 n4 c4) := (cell_of_row _ _ _ _ _ _ hS.here).trans rfl
                have x13 : wr.cell? ⟨w.heap.size, 13, none⟩ = some (.slice a5 n5 c5) := (cell_of_row _ _ _ _ _ _ hS.here).trans rfl
                by_cases hlt : kk < n5
                · obtain ⟨b, o, he, hb1, hb2, hb3, hof, hcl⟩ := L5.at_ (by simp only; omega)
                  simp only at he
                  subst he
                  obtain ⟨kd0, u0, hu0⟩ := hcl kk hlt
                  obtain ⟨u, hu⟩ := hS.cell _ _ hu0
                  rw [← Nat.add_assoc] at hu
                  obtain ⟨cu, hcu⟩ := hS.over.tag b hb3 _ hof
                  have fz := fun o => frozen_of_row wr b o _ _ hcu
                  have hS2 := hS.set (j := o + kk * 2 + 1) hb1 hb2 (.inr (.inl hof)) hhi (by rw [Nat.add_assoc]; exact hu0) (.int .i64 (-9))
                  have HS := Lib.hid hS2
                  clear hS hS2 hof hcl hu0 hcu
                  go_wp2_with fail
                  go_roundw
                  case rel => exact ⟨kk + 1, by omega, by go_num, HS.out⟩
                  case measure => simp only [intOf]; omega
                · obtain rfl : n5 = kk := by omega
                  clear hlt hk
                  go_wp2_with fail
                  clear x0 x1 x2 x3 x4 x5 x6 x7 x8 x9 x10 x11 x12 x13
                  go_loopw [6] (fun i wr => ∃ kk : Nat, kk ≤ n3 ∧ i = .int .i64 kk ∧ Sp lo hi #[.int .u8 k, .int .i64 fa, .int .i64 fi, .int .i64 ta, .int .i64 ti, .int .i64 n, .int .i64 tk, .int .i64 ba, .int .i64 bi, .slice a1 n1 c1, .slice a2 n2 c2, .slice a3 n3 c3, .slice a4 n4 c4, .slice a5 n5 c5] w wr) (fun i _ => n3 - (intOf i).toNat)
                  case atStart => exact ⟨0, by omega, rfl, hS⟩
                  case round =>
                    clear hS
                    obtain ⟨kk, hk, rfl, hS⟩ := hrel
                    have x0 : wr.cell? ⟨w.heap.size, 0, none⟩ = some (.int .u8 k) := (cell_of_row _ _ _ _ _ _ hS.here).trans rfl
                    have x1 : wr.cell? ⟨w.heap.size, 1, none⟩ = some (.int .i64 fa) := (cell_of_row _ _ _ _ _ _ hS.here).trans rfl
                    have x2 : wr.cell? ⟨w.heap.size, 2, none⟩ = some (.int .i64 fi) := (cell_of_row _ _ _ _ _ _ hS.here).trans rfl
                    have x3 : wr.cell? ⟨w.heap.size, 3, none⟩ = some (.int .i64 ta) := (cell_of_row _ _ _ _ _ _ hS.here).trans rfl
                    have x4 : wr.cell? ⟨w.heap.size, 4, none⟩ = some (.int .i64 ti) := (cell_of_row _ _ _ _ _ _ hS.here).trans rfl
                    have x5 : wr.cell? ⟨w.heap.size, 5, none⟩ = some (.int .i64 n) := (cell_of_row _ _ _ _ _ _ hS.here).trans rfl
                    have x6 : wr.cell? ⟨w.heap.size, 6, none⟩ = some (.int .i64 tk) := (cell_of_row _ _ _ _ _ _ hS.here).trans rfl
                    have x7 : wr.cell? ⟨w.heap.size, 7, none⟩ = some (.int .i64 ba) := (cell_of_row _ _ _ _ _ _ hS.here).trans rfl
                    have x8 : wr.cell? ⟨w.heap.size, 8, none⟩ = some (.int .i64 bi) := (cell_of_row _ _ _ _ _ _ hS.here).trans rfl
                    have x9 : wr.cell? ⟨w.heap.size, 9, none⟩ = some (.slice a1 n1 c1) := (cell_of_row _ _ _ _ _ _ hS.here).trans rfl
                    have x10 : wr.cell? ⟨w.heap.size, 10, none⟩ = some (.slice a2 n2 c2) := (cell_of_row _ _ _ _ _ _ hS.here).trans rfl
                    have x11 : wr.cell? ⟨w.heap.size, 11, none⟩ = some (.slice a3 n3 c3) := (cell_of_row _ _ _ _ _ _ hS.here).trans rfl
                    have x12 : wr.cell? ⟨w.heap.size, 12, none⟩ = some (.slice a4 n4 c4) := (cell_of_row _ _ _ _ _ _ hS.here).trans rfl
                    have x13 : wr.cell? ⟨w.heap.size, 13, none⟩ = some (.slice a5 n5 c5) := (cell_of_row _ _ _ _ _ _ hS.here).trans rfl
                    by_cases hlt : kk < n3
                    · obtain ⟨b, o, he, hb1, hb2, hb3, hof, hcl⟩ := L3.li.at_ (by simp only; omega)
                      obtain ⟨na, nn, nc, hcn, LN, hnn⟩ := L3.not b o he kk hlt
                      simp only at he
                      subst he
                      obtain ⟨kd0, u0, hu0⟩ := hcl kk hlt
                      obtain ⟨u, hu⟩ := hS.cell _ _ hu0
                      rw [← Nat.add_assoc] at hu
                      obtain ⟨cu, hcu⟩ := hS.over.tag b hb3 _ hof
                      have fz := fun o => frozen_of_row wr b o _ _ hcu
                      have hS2 := hS.set (j := o + kk * 4 + 2) hb1 hb2 (.inr (.inr (.inr hof))) hhi (by rw [Nat.add_assoc]; exact hu0) (.int .i64 (-9))
                      have HS := Lib.hid hS2
                      clear hS hS2 hof hcl hu0 hcu
                      go_wp2_with fail
                      clear x0 x1 x2 x3 x4 x5 x6 x7 x8 x9 x10 x11 x12 x13 fz hu
                      have hS := HS.out
                      clear HS
                      generalize wr.setCell ⟨b, o + kk * 4 + 2, none⟩ (.int .i64 (-9)) = wv at hS ⊢
                      go_loopw [7] (fun i wx => ∃ t : Nat, t ≤ nn ∧ i = .int .i64 t ∧ Sp lo hi #[.int .u8 k, .int .i64 fa, .int .i64 fi, .int .i64 ta, .int .i64 ti, .int .i64 n, .int .i64 tk, .int .i64 ba, .int .i64 bi, .slice a1 n1 c1, .slice a2 n2 c2, .slice (some ⟨b, o, none⟩) n3 c3, .slice a4 n4 c4, .slice a5 n5 c5] w wx) (fun i _ => nn - (intOf i).toNat)
                      case atStart => exact ⟨0, by omega, rfl, hS⟩
                      case round =>
                        clear hS
                        obtain ⟨t, ht, rfl, hS⟩ := hrel
                        have x0 : wr.cell? ⟨w.heap.size, 0, none⟩ = some (.int .u8 k) := (cell_of_row _ _ _ _ _ _ hS.here).trans rfl
                        have x1 : wr.cell? ⟨w.heap.size, 1, none⟩ = some (.int .i64 fa) := (cell_of_row _ _ _ _ _ _ hS.here).trans rfl
                        have x2 : wr.cell? ⟨w.heap.size, 2, none⟩ = some (.int .i64 fi) := (cell_of_row _ _ _ _ _ _ hS.here).trans rfl
                        have x3 : wr.cell? ⟨w.heap.size, 3, none⟩ = some (.int .i64 ta) := (cell_of_row _ _ _ _ _ _ hS.here).trans rfl
                        have x4 : wr.cell? ⟨w.heap.size, 4, none⟩ = some (.int .i64 ti) := (cell_of_row _ _ _ _ _ _ hS.here).trans rfl
                        have x5 : wr.cell? ⟨w.heap.size, 5, none⟩ = some (.int .i64 n) := (cell_of_row _ _ _ _ _ _ hS.here).trans rfl
                        have x6 : wr.cell? ⟨w.heap.size, 6, none⟩ = some (.int .i64 tk) := (cell_of_row _ _ _ _ _ _ hS.here).trans rfl
                        have x7 : wr.cell? ⟨w.heap.size, 7, none⟩ = some (.int .i64 ba) := (cell_of_row _ _ _ _ _ _ hS.here).trans rfl
                        have x8 : wr.cell? ⟨w.heap.size, 8, none⟩ = some (.int .i64 bi) := (cell_of_row _ _ _ _ _ _ hS.here).trans rfl
                        have x9 : wr.cell? ⟨w.heap.size, 9, none⟩ = some (.slice a1 n1 c1) := (cell_of_row _ _ _ _ _ _ hS.here).trans rfl
                        have x10 : wr.cell? ⟨w.heap.size, 10, none⟩ = some (.slice a2 n2 c2) := (cell_of_row _ _ _ _ _ _ hS.here).trans rfl
                        have x11 : wr.cell? ⟨w.heap.size, 11, none⟩ = some (.slice (some ⟨b, o, none⟩) n3 c3) := (cell_of_row _ _ _ _ _ _ hS.here).trans rfl
                        have x12 : wr.cell? ⟨w.heap.size, 12, none⟩ = some (.slice a4 n4 c4) := (cell_of_row _ _ _ _ _ _ hS.here).trans rfl
                        have x13 : wr.cell? ⟨w.heap.size, 13, none⟩ = some (.slice a5 n5 c5) := (cell_of_row _ _ _ _ _ _ hS.here).trans rfl
                        have xr := hS.sl _ _ _ _ hcn
                        by_cases hlt2 : t < nn
                        · obtain ⟨b2, o2, he2, hb4, hb5, hb6, hof, hcl⟩ := LN.at_ (by simp only; omega)
                          simp only at he2
                          subst he2
                          obtain ⟨kd0, u0, hu0⟩ := hcl t hlt2
                          obtain ⟨u, hu⟩ := hS.cell _ _ hu0
                          rw [← Nat.add_assoc] at hu
                          obtain ⟨cu, hcu⟩ := hS.over.tag b2 hb6 _ hof
                          have fz := fun o => frozen_of_row wr b2 o _ _ hcu
                          have hS2 := hS.set (j := o2 + t * 2 + 1) hb4 hb5 (.inr (.inl hof)) hhi (by rw [Nat.add_assoc]; exact hu0) (.int .i64 (-9))
                          have HS := Lib.hid hS2
                          have hnc : nn ≤ nc := LN.le
                          clear hS hS2 hof hcl hu0 hcu
                          go_wp2_with fail
                          go_roundw
                          case rel => exact ⟨t + 1, by omega, by go_num, HS.out⟩
                          case measure => simp only [intOf]; omega
                        · obtain rfl : nn = t := by omega
                          have HS := Lib.hid hS
                          clear hS
                          go_wp2_with fail
                          go_roundw
                          case rel => exact ⟨kk + 1, by omega, by go_num, HS.out⟩
                          case measure => simp only [intOf]; omega
                    · obtain rfl : n3 = kk := by omega
                      have HS := Lib.hid hS
                      clear hS hlt hk
                      go_wp2_with fail
                      go_end0
                      exact ⟨rfl, HS.out.over⟩
theorem Rws.lr {P lo hi : Nat} {s : SL} {l : List RowD} {w : World} (h : Rws P lo hi s l w) (hP : P ≤ lo) : Lr lo hi s w := by
  obtain ⟨raw, hl, hR, hok⟩ := h.has
  refine ⟨hR.li hP 2 (by decide) (fun a => ⟨_, _, rfl⟩), fun b o e j hj => ?_⟩
  have hn := hR.n
  have hjr : j < raw.length := by omega
  obtain ⟨b2, o2, e2, -, -, -, -, hc⟩ := hR.cell hjr
  rw [e] at e2
  simp only [Option.some.injEq, Addr.mk.injEq, and_true] at e2
  obtain ⟨rfl, rfl⟩ := e2
  have h1 := hok j hjr (by omega)
  have hn2 := h1.not.n
  have hsm := h1.small
  refine ⟨raw[j].not.a, raw[j].not.n, raw[j].not.c, ?_, h1.not.li hP 1 (by decide) (fun a => ⟨_, _, rfl⟩), by omega⟩
  have := hc 3 (by decide)
  rw [← Nat.add_assoc] at this
  exact this
theorem spoil_deep {P lo hi : Nat} (d : Dat) (f : Fr) (w : World) (h : Deep P lo hi d f w) (hP : P ≤ lo) (hhi : hi ≤ w.heap.size) : Calls Try.prog 26 #[f.val] w fun e w' => e = .returned (.tuple #[]) ∧ Over lo hi w w' := by
  obtain ⟨raw, hl, hR, -⟩ := h.rs.has
  have y1 := h.ms.n
  have y2 := h.fs.n
  have y3 := hR.n
  have y4 := h.cs.n
  have y5 := h.ss.n
  have z1 := h.zms
  have z2 := h.zfs
  have z3 := h.zrs
  have z4 := h.zcs
  have z5 := h.zss
  obtain ⟨k, fa, fi, ta, ti, n, tk, ba, bi, ⟨a1, n1, c1⟩, ⟨a2, n2, c2⟩, ⟨a3, n3, c3⟩, ⟨a4, n4, c4⟩, ⟨a5, n5, c5⟩⟩ := f
  simp only at y1 y2 y3 y4 y5
  exact spoil_lit k fa fi ta ti n tk ba bi a1 a2 a3 a4 a5 n1 c1 n2 c2 n3 c3 n4 c4 n5 c5 w hhi (h.ms.li hP 2 (by decide) (fun a => ⟨_, _, rfl⟩)) (h.fs.li hP 1 (by decide) (fun a => ⟨_, _, rfl⟩)) (h.rs.lr hP) (h.cs.li hP 2 (by decide) (fun a => ⟨_, _, rfl⟩)) (h.ss.li hP 1 (by decide) (fun a => ⟨_, _, rfl⟩)) (by omega) (by omega) (by omega) (by omega) (by omega)
end Go.Proofs.Ytjdhdmljchnidaa
