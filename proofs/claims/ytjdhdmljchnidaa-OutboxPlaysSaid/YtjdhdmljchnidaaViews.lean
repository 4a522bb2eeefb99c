/-
  The walks of what compares views.
-/
import Derived.Test.YtjdhdmljchnidaaSame
namespace Go.Proofs.Ytjdhdmljchnidaa
open Go.RowKit
set_option linter.unusedVariables false
set_option linter.unusedSimpArgs false
attribute [local go_sem ↓] Go.wp_at_zero Go.wp_at_succ
theorem quiet_sum {P : Program} {f : FuncId} {args : Array Value} {w : World} {m n : Nat} {v : Value}
    (h : Calls P f args (w.drewN (m + n)) fun e w' => e = .returned v ∧ ∃ k, w' = (w.drewN (m + n)).drewN k) : Calls P f args (w.drewN (m + n)) fun e w'' => e = .returned v ∧ ∃ k, w'' = w.drewN (m + k) :=
  h.mono fun _ _ ⟨he, k, hk⟩ => ⟨he, n + k, by rw [hk, World.drewN_drewN, Nat.add_assoc]⟩
theorem both_new2 (w : World) (a b : Obj) : ((w.alloc a).alloc b).heap[w.heap.size]? = some a ∧ ((w.alloc a).alloc b).heap[w.heap.size + 1]? = some b := by
  constructor
  · rw [Below.heap_alloc _ _ _ (by simp)]; exact heap_alloc_new _ _
  · rw [show w.heap.size + 1 = (w.alloc a).heap.size by simp]; exact heap_alloc_new _ _
theorem Rd.drewN {α : Type} {E : El α} {P lo hi : Nat} {s : SL} {l : List α} {w : World} (h : Rd E P lo hi s l w) (t : Nat) : Rd E P lo hi s l (w.drewN t) := h.same (Nat.le_refl _) fun _ _ _ _ _ => rfl
set_option maxRecDepth 100000 in
set_option maxHeartbeats 4000000 in
theorem views_same {P1 lo1 hi1 P2 lo2 hi2 : Nat} (a1 a2 a3 a4 a5 b1 b2 b3 b4 b5 : SL) (ms : List Mem) (fs : List ID2) (rs : List RowD) (cs : List Tk) (ss : List ID2) (w : World)
    (h1 : Rd elM P1 lo1 hi1 a1 ms w) (h2 : Rd elI P1 lo1 hi1 a2 fs w) (h3 : Rws P1 lo1 hi1 a3 rs w) (h4 : Rd elT P1 lo1 hi1 a4 cs w) (h5 : Rd elI P1 lo1 hi1 a5 ss w)
    (g1 : Rd elM P2 lo2 hi2 b1 ms w) (g2 : Rd elI P2 lo2 hi2 b2 fs w) (g3 : Rws P2 lo2 hi2 b3 rs w) (g4 : Rd elT P2 lo2 hi2 b4 cs w) (g5 : Rd elI P2 lo2 hi2 b5 ss w)
    (z1 : ms.length ≤ 100000) (z2 : fs.length ≤ 100000) (z3 : rs.length ≤ 100000) (z4 : cs.length ≤ 100000) (z5 : ss.length ≤ 100000) :
    Calls Try.prog 42 #[.agg #[a1.val, a2.val, a3.val, a4.val, a5.val], .agg #[b1.val, b2.val, b3.val, b4.val, b5.val]] w fun e w' => e = .returned (.bool true) ∧ Below w.heap.size w w' := by
  obtain ⟨aa1, an1, ac1⟩ := a1
  obtain ⟨aa2, an2, ac2⟩ := a2
  obtain ⟨aa3, an3, ac3⟩ := a3
  obtain ⟨aa4, an4, ac4⟩ := a4
  obtain ⟨aa5, an5, ac5⟩ := a5
  obtain ⟨ba1, bn1, bc1⟩ := b1
  obtain ⟨ba2, bn2, bc2⟩ := b2
  obtain ⟨ba3, bn3, bc3⟩ := b3
  obtain ⟨ba4, bn4, bc4⟩ := b4
  obtain ⟨ba5, bn5, bc5⟩ := b5
  simp only [SL.val]
  have hb : Below w.heap.size w ((w.alloc (.cells #[.slice aa1 an1 ac1, .slice aa2 an2 ac2, .slice aa3 an3 ac3, .slice aa4 an4 ac4, .slice aa5 an5 ac5] 36)).alloc (.cells #[.slice ba1 bn1 bc1, .slice ba2 bn2 bc2, .slice ba3 bn3 bc3, .slice ba4 bn4 bc4, .slice ba5 bn5 bc5] 36)) := ((Below.refl _ _).alloc (Nat.le_refl _) _).alloc (by simp) _
  obtain ⟨q0, q1⟩ := both_new2 w (.cells #[.slice aa1 an1 ac1, .slice aa2 an2 ac2, .slice aa3 an3 ac3, .slice aa4 an4 ac4, .slice aa5 an5 ac5] 36) (.cells #[.slice ba1 bn1 bc1, .slice ba2 bn2 bc2, .slice ba3 bn3 bc3, .slice ba4 bn4 bc4, .slice ba5 bn5 bc5] 36)
  have HH := Lib.hid (And.intro hb (And.intro q0 q1))
  go_enter Try.func42, Try.ntmps42
  go_wp2_with fail
  clear q0 q1 hb
  obtain ⟨hb, q0, q1⟩ := HH.out
  clear HH
  generalize ((w.alloc (.cells #[.slice aa1 an1 ac1, .slice aa2 an2 ac2, .slice aa3 an3 ac3, .slice aa4 an4 ac4, .slice aa5 an5 ac5] 36)).alloc (.cells #[.slice ba1 bn1 bc1, .slice ba2 bn2 bc2, .slice ba3 bn3 bc3, .slice ba4 bn4 bc4, .slice ba5 bn5 bc5] 36)) = Y at hb q0 q1 ⊢
  replace h1 := h1.below hb
  replace h2 := h2.below hb
  replace h3 := h3.below hb
  replace h4 := h4.below hb
  replace h5 := h5.below hb
  replace g1 := g1.below hb
  replace g2 := g2.below hb
  replace g3 := g3.below hb
  replace g4 := g4.below hb
  replace g5 := g5.below hb
  generalize hq : w.heap.size = q at hb q0 q1 ⊢
  have x0 : Y.cell? ⟨q, 0, none⟩ = some (.slice aa1 an1 ac1) := (cell_of_row _ _ _ _ _ _ q0).trans rfl
  have x1 : Y.cell? ⟨q, 1, none⟩ = some (.slice aa2 an2 ac2) := (cell_of_row _ _ _ _ _ _ q0).trans rfl
  have x2 : Y.cell? ⟨q, 2, none⟩ = some (.slice aa3 an3 ac3) := (cell_of_row _ _ _ _ _ _ q0).trans rfl
  have x3 : Y.cell? ⟨q, 3, none⟩ = some (.slice aa4 an4 ac4) := (cell_of_row _ _ _ _ _ _ q0).trans rfl
  have x4 : Y.cell? ⟨q, 4, none⟩ = some (.slice aa5 an5 ac5) := (cell_of_row _ _ _ _ _ _ q0).trans rfl
  have y0 : Y.cell? ⟨q + 1, 0, none⟩ = some (.slice ba1 bn1 bc1) := (cell_of_row _ _ _ _ _ _ q1).trans rfl
  have y1 : Y.cell? ⟨q + 1, 1, none⟩ = some (.slice ba2 bn2 bc2) := (cell_of_row _ _ _ _ _ _ q1).trans rfl
  have y2 : Y.cell? ⟨q + 1, 2, none⟩ = some (.slice ba3 bn3 bc3) := (cell_of_row _ _ _ _ _ _ q1).trans rfl
  have y3 : Y.cell? ⟨q + 1, 3, none⟩ = some (.slice ba4 bn4 bc4) := (cell_of_row _ _ _ _ _ _ q1).trans rfl
  have y4 : Y.cell? ⟨q + 1, 4, none⟩ = some (.slice ba5 bn5 bc5) := (cell_of_row _ _ _ _ _ _ q1).trans rfl
  clear q0 q1
  refine (ms_same _ _ ms Y h1 g1 z1).mono ?_
  rintro e w1 ⟨rfl, t1, rfl⟩
  go_wp2_with fail
  refine (ids_same ⟨aa2, an2, ac2⟩ ⟨ba2, bn2, bc2⟩ fs _ (h2.drewN _) (g2.drewN _) z2).mono ?_
  rintro e w1 ⟨rfl, t2, rfl⟩
  go_wp2_with fail
  refine (ts_same ⟨aa4, an4, ac4⟩ ⟨ba4, bn4, bc4⟩ cs _ (h4.drewN _) (g4.drewN _) z4).mono ?_
  rintro e w1 ⟨rfl, t3, rfl⟩
  go_wp2_with fail
  refine (ids_same ⟨aa5, an5, ac5⟩ ⟨ba5, bn5, bc5⟩ ss _ (h5.drewN _) (g5.drewN _) z5).mono ?_
  rintro e w1 ⟨rfl, t4, rfl⟩
  obtain ⟨ra, ral, hra, hro⟩ := h3.has
  obtain ⟨rb, rbl, hrb, hso⟩ := g3.has
  obtain rfl : an3 = rs.length := hra.n.trans ral
  obtain rfl : bn3 = rs.length := hrb.n.trans rbl
  skip
  clear h1 h2 h3 h4 h5 g1 g2 g3 g4 g5
  go_wp2_with fail
  go_loopw [5] (fun i wr => ∃ k t : Nat, k ≤ rs.length ∧ i = .int .i64 k ∧ wr = Y.drewN t) (fun i _ => rs.length - (intOf i).toNat)
  case atStart => exact ⟨0, _, by omega, rfl, rfl⟩
  case round =>
    obtain ⟨k, t, hk, rfl, rfl⟩ := hrel
    by_cases hlt : k < rs.length
    · obtain ⟨b1, o1, e1, -, -, -, -, hx⟩ := hra.cell (j := k) (by omega)
      obtain ⟨b2, o2, e2, -, -, -, -, hy⟩ := hrb.cell (j := k) (by omega)
      have hox := hro k (by omega) hlt
      have hoy := hso k (by omega) hlt
      simp only at e1 e2
      subst e1 e2
      generalize hgx : ra[k]'(by omega) = rx at hx hox
      generalize hgy : rb[k]'(by omega) = ry at hy hoy
      generalize rs[k] = d at hox hoy
      clear hgx hgy
      obtain ⟨xa, xi, xv, ⟨xs, xn, xc⟩⟩ := rx
      obtain ⟨ya, yi, yv, ⟨ys, yn, yc⟩⟩ := ry
      obtain ⟨exa, exi, exv, hsm, hxn⟩ := hox
      obtain ⟨eya, eyi, eyv, -, hyn⟩ := hoy
      simp only at exa exi exv eya eyi eyv hxn hyn
      subst exa exi exv
      subst eya eyi eyv
      have u0 : Y.cell? ⟨b1, o1 + k * 4, none⟩ = some (.int .i64 d.a) := hx 0 (by decide)
      have u1 : Y.cell? ⟨b1, o1 + k * 4 + 1, none⟩ = some (.int .i64 d.i) := by have := hx 1 (by decide); rwa [← Nat.add_assoc] at this
      have u2 : Y.cell? ⟨b1, o1 + k * 4 + 2, none⟩ = some (.int .i64 d.v) := by have := hx 2 (by decide); rwa [← Nat.add_assoc] at this
      have u3 : Y.cell? ⟨b1, o1 + k * 4 + 3, none⟩ = some (.slice xs xn xc) := by have := hx 3 (by decide); rwa [← Nat.add_assoc] at this
      have v0 : Y.cell? ⟨b2, o2 + k * 4, none⟩ = some (.int .i64 d.a) := hy 0 (by decide)
      have v1 : Y.cell? ⟨b2, o2 + k * 4 + 1, none⟩ = some (.int .i64 d.i) := by have := hy 1 (by decide); rwa [← Nat.add_assoc] at this
      have v2 : Y.cell? ⟨b2, o2 + k * 4 + 2, none⟩ = some (.int .i64 d.v) := by have := hy 2 (by decide); rwa [← Nat.add_assoc] at this
      have v3 : Y.cell? ⟨b2, o2 + k * 4 + 3, none⟩ = some (.slice ys yn yc) := by have := hy 3 (by decide); rwa [← Nat.add_assoc] at this
      clear hx hy
      go_wp2_with fail
      go_quiet ((go_at_call 44; exact quiet_sum (ids_same ⟨xs, xn, xc⟩ ⟨ys, yn, yc⟩ d.not _ (hxn.drewN _) (hyn.drewN _) hsm)))
      go_wp2_with fail
      go_roundw
      case rel => exact ⟨k + 1, _, by omega, by go_num, rfl⟩
      case measure => simp only [intOf]; omega
    · obtain rfl : k = rs.length := by omega
      go_wp2_with fail
      go_ret
      exact ⟨rfl, hq ▸ below_drewN hb _⟩
end Go.Proofs.Ytjdhdmljchnidaa
