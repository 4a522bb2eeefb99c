/-
  The walks of what compares frames: those that read the same are the same.
-/
import Derived.Test.YtjdhdmljchnidaaViews
import Derived.Test.YtjdhdmljchnidaaOrd
namespace Go.Proofs.Ytjdhdmljchnidaa
open Go.RowKit
set_option linter.unusedVariables false
set_option linter.unusedSimpArgs false
attribute [local go_sem ↓] Go.wp_at_zero Go.wp_at_succ
theorem Deep.form {P lo hi : Nat} {d : Dat} {f : Fr} {w : World} (h : Deep P lo hi d f w) : f = ⟨d.kind, d.fa, d.fi, d.ta, d.ti, d.n, d.token, d.ba, d.bi, f.ms, f.fs, f.rs, f.cs, f.ss⟩ := by
  obtain ⟨h1, h2, h3, h4, h5, h6, h7, h8, h9⟩ := h
  cases f
  simp_all
set_option maxRecDepth 100000 in
set_option maxHeartbeats 4000000 in
theorem same35 {P1 lo1 hi1 P2 lo2 hi2 : Nat} (d : Dat) (a1 a2 a3 a4 a5 b1 b2 b3 b4 b5 : SL) (w : World)
    (h : Deep P1 lo1 hi1 d ⟨d.kind, d.fa, d.fi, d.ta, d.ti, d.n, d.token, d.ba, d.bi, a1, a2, a3, a4, a5⟩ w) (g : Deep P2 lo2 hi2 d ⟨d.kind, d.fa, d.fi, d.ta, d.ti, d.n, d.token, d.ba, d.bi, b1, b2, b3, b4, b5⟩ w) :
    Calls Try.prog 35 #[.agg #[.int .u8 d.kind, .int .i64 d.fa, .int .i64 d.fi, .int .i64 d.ta, .int .i64 d.ti, .int .i64 d.n, .int .i64 d.token, .int .i64 d.ba, .int .i64 d.bi, .slice a1.a a1.n a1.c, .slice a2.a a2.n a2.c, .slice a3.a a3.n a3.c, .slice a4.a a4.n a4.c, .slice a5.a a5.n a5.c], .agg #[.int .u8 d.kind, .int .i64 d.fa, .int .i64 d.fi, .int .i64 d.ta, .int .i64 d.ti, .int .i64 d.n, .int .i64 d.token, .int .i64 d.ba, .int .i64 d.bi, .slice b1.a b1.n b1.c, .slice b2.a b2.n b2.c, .slice b3.a b3.n b3.c, .slice b4.a b4.n b4.c, .slice b5.a b5.n b5.c]] w fun e w' => e = .returned (.bool true) ∧ Below w.heap.size w w' := by
  have hb : Below w.heap.size w ((w.alloc (.cells #[.int .u8 d.kind, .int .i64 d.fa, .int .i64 d.fi, .int .i64 d.ta, .int .i64 d.ti, .int .i64 d.n, .int .i64 d.token, .int .i64 d.ba, .int .i64 d.bi, .slice a1.a a1.n a1.c, .slice a2.a a2.n a2.c, .slice a3.a a3.n a3.c, .slice a4.a a4.n a4.c, .slice a5.a a5.n a5.c] 38)).alloc (.cells #[.int .u8 d.kind, .int .i64 d.fa, .int .i64 d.fi, .int .i64 d.ta, .int .i64 d.ti, .int .i64 d.n, .int .i64 d.token, .int .i64 d.ba, .int .i64 d.bi, .slice b1.a b1.n b1.c, .slice b2.a b2.n b2.c, .slice b3.a b3.n b3.c, .slice b4.a b4.n b4.c, .slice b5.a b5.n b5.c] 38)) := ((Below.refl _ _).alloc (Nat.le_refl _) _).alloc (by simp) _
  have HH := Lib.hid (And.intro hb (And.intro h g))
  clear hb h g
  go_enter Try.func35, Try.ntmps35
  go_wp2_with fail
  obtain ⟨hb, h, g⟩ := HH.out
  clear HH
  refine (views_same a1 a2 a3 a4 a5 b1 b2 b3 b4 b5 d.ms d.fs d.rs d.cs d.ss _ (h.ms.below hb) (h.fs.below hb) (h.rs.below hb) (h.cs.below hb) (h.ss.below hb) (g.ms.below hb) (g.fs.below hb) (g.rs.below hb) (g.cs.below hb) (g.ss.below hb) h.zms h.zfs h.zrs h.zcs h.zss).mono ?_
  rintro e w1 ⟨rfl, hb1⟩
  go_wp2_with fail
  go_ret
  exact ⟨rfl, hb.trans (hb1.mono hb.size)⟩
set_option maxRecDepth 100000 in
set_option maxHeartbeats 4000000 in
theorem same19 {P1 lo1 hi1 P2 lo2 hi2 : Nat} (d : Dat) (a1 a2 a3 a4 a5 b1 b2 b3 b4 b5 : SL) (w : World)
    (h : Deep P1 lo1 hi1 d ⟨d.kind, d.fa, d.fi, d.ta, d.ti, d.n, d.token, d.ba, d.bi, a1, a2, a3, a4, a5⟩ w) (g : Deep P2 lo2 hi2 d ⟨d.kind, d.fa, d.fi, d.ta, d.ti, d.n, d.token, d.ba, d.bi, b1, b2, b3, b4, b5⟩ w) :
    Calls Try.prog 19 #[.agg #[.int .u8 d.kind, .int .i64 d.fa, .int .i64 d.fi, .int .i64 d.ta, .int .i64 d.ti, .int .i64 d.n, .int .i64 d.token, .int .i64 d.ba, .int .i64 d.bi, .slice a1.a a1.n a1.c, .slice a2.a a2.n a2.c, .slice a3.a a3.n a3.c, .slice a4.a a4.n a4.c, .slice a5.a a5.n a5.c], .agg #[.int .u8 d.kind, .int .i64 d.fa, .int .i64 d.fi, .int .i64 d.ta, .int .i64 d.ti, .int .i64 d.n, .int .i64 d.token, .int .i64 d.ba, .int .i64 d.bi, .slice b1.a b1.n b1.c, .slice b2.a b2.n b2.c, .slice b3.a b3.n b3.c, .slice b4.a b4.n b4.c, .slice b5.a b5.n b5.c]] w fun e w' => e = .returned (.bool true) ∧ Below w.heap.size w w' := by
  have hb : Below w.heap.size w ((w.alloc (.cells #[.int .u8 d.kind, .int .i64 d.fa, .int .i64 d.fi, .int .i64 d.ta, .int .i64 d.ti, .int .i64 d.n, .int .i64 d.token, .int .i64 d.ba, .int .i64 d.bi, .slice a1.a a1.n a1.c, .slice a2.a a2.n a2.c, .slice a3.a a3.n a3.c, .slice a4.a a4.n a4.c, .slice a5.a a5.n a5.c] 38)).alloc (.cells #[.int .u8 d.kind, .int .i64 d.fa, .int .i64 d.fi, .int .i64 d.ta, .int .i64 d.ti, .int .i64 d.n, .int .i64 d.token, .int .i64 d.ba, .int .i64 d.bi, .slice b1.a b1.n b1.c, .slice b2.a b2.n b2.c, .slice b3.a b3.n b3.c, .slice b4.a b4.n b4.c, .slice b5.a b5.n b5.c] 38)) := ((Below.refl _ _).alloc (Nat.le_refl _) _).alloc (by simp) _
  have HH := Lib.hid (And.intro hb (And.intro h g))
  clear hb h g
  go_enter Try.func19, Try.ntmps19
  go_wp2_with fail
  obtain ⟨hb, h, g⟩ := HH.out
  clear HH
  refine (same35 d a1 a2 a3 a4 a5 b1 b2 b3 b4 b5 _ (h.below hb) (g.below hb)).mono ?_
  rintro e w1 ⟨rfl, hb1⟩
  go_wp2_with fail
  go_ret
  exact ⟨rfl, hb.trans (hb1.mono hb.size)⟩
theorem same_deep {P1 lo1 hi1 P2 lo2 hi2 : Nat} (d : Dat) (f1 f2 : Fr) (w : World) (h : Deep P1 lo1 hi1 d f1 w) (g : Deep P2 lo2 hi2 d f2 w) :
    Calls Try.prog 19 #[f1.val, f2.val] w fun e w' => e = .returned (.bool true) ∧ Below w.heap.size w w' := by
  have e1 := h.form
  have e2 := g.form
  rw [e1] at h ⊢
  rw [e2] at g ⊢
  exact same19 d _ _ _ _ _ _ _ _ _ _ w h g
/-- Frames, as elements of a slice. -/
def elF : El Fr where
  e := 38
  t := 45
  k := 14
  c := fun f => f.cells.toList
  len := fun _ => rfl
  one := Fr.one
  pos := by decide
theorem elF_rows (l : List Fr) : elF.rows l = rows l := by
  induction l with
  | nil => rfl
  | cons f a ih => exact congrArg (f.cells.toList ++ ·) ih
/-- A slice of frames, and what they read. -/
structure Frs (P lo hi : Nat) (s : SL) (l : List Fr) (ds : List Dat) (w : World) : Prop where
  rd : Rd elF P lo hi s l w
  len : l.length = ds.length
  at_ : ∀ j (h1 : j < l.length) (h2 : j < ds.length), ∃ lo hi, Deep P lo hi ds[j] l[j] w
theorem Frs.below {P lo hi : Nat} {s : SL} {l : List Fr} {ds : List Dat} {w w' : World} (h : Frs P lo hi s l ds w) (hb : Below w.heap.size w w') : Frs P lo hi s l ds w' :=
  ⟨h.rd.below hb, h.len, fun j h1 h2 => by obtain ⟨a, b, hd⟩ := h.at_ j h1 h2; exact ⟨a, b, hd.below hb⟩⟩
set_option maxRecDepth 100000 in
set_option maxHeartbeats 4000000 in
theorem frames_same {P1 lo1 hi1 P2 lo2 hi2 : Nat} (s1 s2 : SL) (l1 l2 : List Fr) (ds : List Dat) (w : World) (h : Frs P1 lo1 hi1 s1 l1 ds w) (g : Frs P2 lo2 hi2 s2 l2 ds w) (hl : ds.length ≤ 100000) :
    Calls Try.prog 18 #[s1.val, s2.val] w fun e w' => e = .returned (.bool true) ∧ Below w.heap.size w w' := by
  obtain ⟨a1, n1, c1⟩ := s1
  obtain ⟨a2, n2, c2⟩ := s2
  have e1 := h.len
  have e2 := g.len
  obtain rfl : n1 = ds.length := h.rd.n.trans e1
  obtain rfl : n2 = ds.length := g.rd.n.trans e2
  simp only [SL.val]
  have H := Lib.hid (And.intro h g)
  clear h g
  go_enter Try.func18, Try.ntmps18
  go_wp2_with fail
  go_loopw [5] (fun i wr => ∃ k : Nat, k ≤ ds.length ∧ i = .int .i64 k ∧ Below w.heap.size w wr) (fun i _ => ds.length - (intOf i).toNat)
  case atStart => exact ⟨0, by omega, rfl, Below.refl _ _⟩
  case round =>
    obtain ⟨k, hk, rfl, hb⟩ := hrel
    by_cases hlt : k < ds.length
    · have h := H.out.1.below hb
      have g := H.out.2.below hb
      obtain ⟨b1, o1, q1, -, -, -, -, hx⟩ := h.rd.cell (j := k) (by omega)
      obtain ⟨b2, o2, q2, -, -, -, -, hy⟩ := g.rd.cell (j := k) (by omega)
      obtain ⟨u1, v1, hd1⟩ := h.at_ k (by omega) hlt
      obtain ⟨u2, v2, hd2⟩ := g.at_ k (by omega) hlt
      simp only at q1 q2
      subst q1 q2
      clear h g
      generalize hg1 : l1[k]'(by omega) = f1 at hx hd1
      generalize hg2 : l2[k]'(by omega) = f2 at hy hd2
      generalize ds[k] = d at hd1 hd2
      clear hg1 hg2
      have x0 : wr.cell? ⟨b1, o1 + k * 14, none⟩ = some (.int .u8 f1.kind) := hx 0 (by decide)
      have x1 : wr.cell? ⟨b1, o1 + k * 14 + 1, none⟩ = some (.int .i64 f1.fa) := by have := hx 1 (by decide); rwa [← Nat.add_assoc] at this
      have x2 : wr.cell? ⟨b1, o1 + k * 14 + 2, none⟩ = some (.int .i64 f1.fi) := by have := hx 2 (by decide); rwa [← Nat.add_assoc] at this
      have x3 : wr.cell? ⟨b1, o1 + k * 14 + 3, none⟩ = some (.int .i64 f1.ta) := by have := hx 3 (by decide); rwa [← Nat.add_assoc] at this
      have x4 : wr.cell? ⟨b1, o1 + k * 14 + 4, none⟩ = some (.int .i64 f1.ti) := by have := hx 4 (by decide); rwa [← Nat.add_assoc] at this
      have x5 : wr.cell? ⟨b1, o1 + k * 14 + 5, none⟩ = some (.int .i64 f1.n) := by have := hx 5 (by decide); rwa [← Nat.add_assoc] at this
      have x6 : wr.cell? ⟨b1, o1 + k * 14 + 6, none⟩ = some (.int .i64 f1.token) := by have := hx 6 (by decide); rwa [← Nat.add_assoc] at this
      have x7 : wr.cell? ⟨b1, o1 + k * 14 + 7, none⟩ = some (.int .i64 f1.ba) := by have := hx 7 (by decide); rwa [← Nat.add_assoc] at this
      have x8 : wr.cell? ⟨b1, o1 + k * 14 + 8, none⟩ = some (.int .i64 f1.bi) := by have := hx 8 (by decide); rwa [← Nat.add_assoc] at this
      have x9 : wr.cell? ⟨b1, o1 + k * 14 + 9, none⟩ = some (.slice f1.ms.a f1.ms.n f1.ms.c) := by have := hx 9 (by decide); rwa [← Nat.add_assoc] at this
      have x10 : wr.cell? ⟨b1, o1 + k * 14 + 10, none⟩ = some (.slice f1.fs.a f1.fs.n f1.fs.c) := by have := hx 10 (by decide); rwa [← Nat.add_assoc] at this
      have x11 : wr.cell? ⟨b1, o1 + k * 14 + 11, none⟩ = some (.slice f1.rs.a f1.rs.n f1.rs.c) := by have := hx 11 (by decide); rwa [← Nat.add_assoc] at this
      have x12 : wr.cell? ⟨b1, o1 + k * 14 + 12, none⟩ = some (.slice f1.cs.a f1.cs.n f1.cs.c) := by have := hx 12 (by decide); rwa [← Nat.add_assoc] at this
      have x13 : wr.cell? ⟨b1, o1 + k * 14 + 13, none⟩ = some (.slice f1.ss.a f1.ss.n f1.ss.c) := by have := hx 13 (by decide); rwa [← Nat.add_assoc] at this
      have y0 : wr.cell? ⟨b2, o2 + k * 14, none⟩ = some (.int .u8 f2.kind) := hy 0 (by decide)
      have y1 : wr.cell? ⟨b2, o2 + k * 14 + 1, none⟩ = some (.int .i64 f2.fa) := by have := hy 1 (by decide); rwa [← Nat.add_assoc] at this
      have y2 : wr.cell? ⟨b2, o2 + k * 14 + 2, none⟩ = some (.int .i64 f2.fi) := by have := hy 2 (by decide); rwa [← Nat.add_assoc] at this
      have y3 : wr.cell? ⟨b2, o2 + k * 14 + 3, none⟩ = some (.int .i64 f2.ta) := by have := hy 3 (by decide); rwa [← Nat.add_assoc] at this
      have y4 : wr.cell? ⟨b2, o2 + k * 14 + 4, none⟩ = some (.int .i64 f2.ti) := by have := hy 4 (by decide); rwa [← Nat.add_assoc] at this
      have y5 : wr.cell? ⟨b2, o2 + k * 14 + 5, none⟩ = some (.int .i64 f2.n) := by have := hy 5 (by decide); rwa [← Nat.add_assoc] at this
      have y6 : wr.cell? ⟨b2, o2 + k * 14 + 6, none⟩ = some (.int .i64 f2.token) := by have := hy 6 (by decide); rwa [← Nat.add_assoc] at this
      have y7 : wr.cell? ⟨b2, o2 + k * 14 + 7, none⟩ = some (.int .i64 f2.ba) := by have := hy 7 (by decide); rwa [← Nat.add_assoc] at this
      have y8 : wr.cell? ⟨b2, o2 + k * 14 + 8, none⟩ = some (.int .i64 f2.bi) := by have := hy 8 (by decide); rwa [← Nat.add_assoc] at this
      have y9 : wr.cell? ⟨b2, o2 + k * 14 + 9, none⟩ = some (.slice f2.ms.a f2.ms.n f2.ms.c) := by have := hy 9 (by decide); rwa [← Nat.add_assoc] at this
      have y10 : wr.cell? ⟨b2, o2 + k * 14 + 10, none⟩ = some (.slice f2.fs.a f2.fs.n f2.fs.c) := by have := hy 10 (by decide); rwa [← Nat.add_assoc] at this
      have y11 : wr.cell? ⟨b2, o2 + k * 14 + 11, none⟩ = some (.slice f2.rs.a f2.rs.n f2.rs.c) := by have := hy 11 (by decide); rwa [← Nat.add_assoc] at this
      have y12 : wr.cell? ⟨b2, o2 + k * 14 + 12, none⟩ = some (.slice f2.cs.a f2.cs.n f2.cs.c) := by have := hy 12 (by decide); rwa [← Nat.add_assoc] at this
      have y13 : wr.cell? ⟨b2, o2 + k * 14 + 13, none⟩ = some (.slice f2.ss.a f2.ss.n f2.ss.c) := by have := hy 13 (by decide); rwa [← Nat.add_assoc] at this
      clear hx hy
      have HD := Lib.hid (And.intro hd1 hd2)
      clear hd1 hd2
      go_upto_region 6 with fail
      refine wp_region_any (by kernel_rfl) ?_
      try (change wpAny _ _ _ _ _ _ _ (World.drew _))
      refine wpAny_take (i := 0) (v := ?_) rfl (by kernel_rfl) (by kernel_rfl) (by kernel_rfl) (fun _ _ _ h => h) (Or.inl ⟨by rfl, ?_⟩) ?_
      rotate_left
      · (intro w; go_simp) <;> with_reducible rfl
      refine wpAny_take (i := 1) (v := ?_) rfl (by kernel_rfl) (by kernel_rfl) (by kernel_rfl) (fun _ _ _ h => h) (Or.inl ⟨by rfl, ?_⟩) ?_
      rotate_left
      · (intro w; go_simp) <;> with_reducible rfl
      refine wpAny_take (i := 4) (v := ?_) rfl (by kernel_rfl) (by kernel_rfl) (by kernel_rfl) (fun _ _ _ h => h) (Or.inl ⟨by rfl, ?_⟩) ?_
      rotate_left
      · (intro w; go_simp) <;> with_reducible rfl
      refine wpAny_take (i := 5) (v := ?_) rfl (by kernel_rfl) (by kernel_rfl) (by kernel_rfl) (fun _ _ _ h => h) (Or.inl ⟨by rfl, ?_⟩) ?_
      rotate_left
      · (intro w; go_simp) <;> with_reducible rfl
      refine wpAny_take (i := 2) (v := ?_) rfl (by kernel_rfl) (by kernel_rfl) (by kernel_rfl) (fun _ _ _ h => h) (Or.inl ⟨by rfl, ?_⟩) ?_
      rotate_left
      · (intro w; go_simp) <;> with_reducible rfl
      refine wpAny_take (i := 6) (v := ?_) rfl (by kernel_rfl) (by kernel_rfl) (by kernel_rfl) (fun _ _ _ h => h) (Or.inl ⟨by rfl, ?_⟩) ?_
      rotate_left
      · (intro w; go_simp) <;> with_reducible rfl
      refine wpAny_of_till (S := fun x => x.cell? ⟨b1, o1 + k * 14, none⟩ = some (.int .u8 f1.kind) ∧ x.cell? ⟨b1, o1 + k * 14 + 1, none⟩ = some (.int .i64 f1.fa) ∧ x.cell? ⟨b1, o1 + k * 14 + 2, none⟩ = some (.int .i64 f1.fi) ∧ x.cell? ⟨b1, o1 + k * 14 + 3, none⟩ = some (.int .i64 f1.ta) ∧ x.cell? ⟨b1, o1 + k * 14 + 4, none⟩ = some (.int .i64 f1.ti) ∧ x.cell? ⟨b1, o1 + k * 14 + 5, none⟩ = some (.int .i64 f1.n) ∧ x.cell? ⟨b1, o1 + k * 14 + 6, none⟩ = some (.int .i64 f1.token) ∧ x.cell? ⟨b1, o1 + k * 14 + 7, none⟩ = some (.int .i64 f1.ba) ∧ x.cell? ⟨b1, o1 + k * 14 + 8, none⟩ = some (.int .i64 f1.bi) ∧ x.cell? ⟨b1, o1 + k * 14 + 9, none⟩ = some (.slice f1.ms.a f1.ms.n f1.ms.c) ∧ x.cell? ⟨b1, o1 + k * 14 + 10, none⟩ = some (.slice f1.fs.a f1.fs.n f1.fs.c) ∧ x.cell? ⟨b1, o1 + k * 14 + 11, none⟩ = some (.slice f1.rs.a f1.rs.n f1.rs.c) ∧ x.cell? ⟨b1, o1 + k * 14 + 12, none⟩ = some (.slice f1.cs.a f1.cs.n f1.cs.c) ∧ x.cell? ⟨b1, o1 + k * 14 + 13, none⟩ = some (.slice f1.ss.a f1.ss.n f1.ss.c) ∧ x.cell? ⟨b2, o2 + k * 14, none⟩ = some (.int .u8 f2.kind) ∧ x.cell? ⟨b2, o2 + k * 14 + 1, none⟩ = some (.int .i64 f2.fa) ∧ x.cell? ⟨b2, o2 + k * 14 + 2, none⟩ = some (.int .i64 f2.fi) ∧ x.cell? ⟨b2, o2 + k * 14 + 3, none⟩ = some (.int .i64 f2.ta) ∧ x.cell? ⟨b2, o2 + k * 14 + 4, none⟩ = some (.int .i64 f2.ti) ∧ x.cell? ⟨b2, o2 + k * 14 + 5, none⟩ = some (.int .i64 f2.n) ∧ x.cell? ⟨b2, o2 + k * 14 + 6, none⟩ = some (.int .i64 f2.token) ∧ x.cell? ⟨b2, o2 + k * 14 + 7, none⟩ = some (.int .i64 f2.ba) ∧ x.cell? ⟨b2, o2 + k * 14 + 8, none⟩ = some (.int .i64 f2.bi) ∧ x.cell? ⟨b2, o2 + k * 14 + 9, none⟩ = some (.slice f2.ms.a f2.ms.n f2.ms.c) ∧ x.cell? ⟨b2, o2 + k * 14 + 10, none⟩ = some (.slice f2.fs.a f2.fs.n f2.fs.c) ∧ x.cell? ⟨b2, o2 + k * 14 + 11, none⟩ = some (.slice f2.rs.a f2.rs.n f2.rs.c) ∧ x.cell? ⟨b2, o2 + k * 14 + 12, none⟩ = some (.slice f2.cs.a f2.cs.n f2.cs.c) ∧ x.cell? ⟨b2, o2 + k * 14 + 13, none⟩ = some (.slice f2.ss.a f2.ss.n f2.ss.c)) (k := 8) _ _ _ _ ?_
      have hS : (fun x : World => x.cell? ⟨b1, o1 + k * 14, none⟩ = some (.int .u8 f1.kind) ∧ x.cell? ⟨b1, o1 + k * 14 + 1, none⟩ = some (.int .i64 f1.fa) ∧ x.cell? ⟨b1, o1 + k * 14 + 2, none⟩ = some (.int .i64 f1.fi) ∧ x.cell? ⟨b1, o1 + k * 14 + 3, none⟩ = some (.int .i64 f1.ta) ∧ x.cell? ⟨b1, o1 + k * 14 + 4, none⟩ = some (.int .i64 f1.ti) ∧ x.cell? ⟨b1, o1 + k * 14 + 5, none⟩ = some (.int .i64 f1.n) ∧ x.cell? ⟨b1, o1 + k * 14 + 6, none⟩ = some (.int .i64 f1.token) ∧ x.cell? ⟨b1, o1 + k * 14 + 7, none⟩ = some (.int .i64 f1.ba) ∧ x.cell? ⟨b1, o1 + k * 14 + 8, none⟩ = some (.int .i64 f1.bi) ∧ x.cell? ⟨b1, o1 + k * 14 + 9, none⟩ = some (.slice f1.ms.a f1.ms.n f1.ms.c) ∧ x.cell? ⟨b1, o1 + k * 14 + 10, none⟩ = some (.slice f1.fs.a f1.fs.n f1.fs.c) ∧ x.cell? ⟨b1, o1 + k * 14 + 11, none⟩ = some (.slice f1.rs.a f1.rs.n f1.rs.c) ∧ x.cell? ⟨b1, o1 + k * 14 + 12, none⟩ = some (.slice f1.cs.a f1.cs.n f1.cs.c) ∧ x.cell? ⟨b1, o1 + k * 14 + 13, none⟩ = some (.slice f1.ss.a f1.ss.n f1.ss.c) ∧ x.cell? ⟨b2, o2 + k * 14, none⟩ = some (.int .u8 f2.kind) ∧ x.cell? ⟨b2, o2 + k * 14 + 1, none⟩ = some (.int .i64 f2.fa) ∧ x.cell? ⟨b2, o2 + k * 14 + 2, none⟩ = some (.int .i64 f2.fi) ∧ x.cell? ⟨b2, o2 + k * 14 + 3, none⟩ = some (.int .i64 f2.ta) ∧ x.cell? ⟨b2, o2 + k * 14 + 4, none⟩ = some (.int .i64 f2.ti) ∧ x.cell? ⟨b2, o2 + k * 14 + 5, none⟩ = some (.int .i64 f2.n) ∧ x.cell? ⟨b2, o2 + k * 14 + 6, none⟩ = some (.int .i64 f2.token) ∧ x.cell? ⟨b2, o2 + k * 14 + 7, none⟩ = some (.int .i64 f2.ba) ∧ x.cell? ⟨b2, o2 + k * 14 + 8, none⟩ = some (.int .i64 f2.bi) ∧ x.cell? ⟨b2, o2 + k * 14 + 9, none⟩ = some (.slice f2.ms.a f2.ms.n f2.ms.c) ∧ x.cell? ⟨b2, o2 + k * 14 + 10, none⟩ = some (.slice f2.fs.a f2.fs.n f2.fs.c) ∧ x.cell? ⟨b2, o2 + k * 14 + 11, none⟩ = some (.slice f2.rs.a f2.rs.n f2.rs.c) ∧ x.cell? ⟨b2, o2 + k * 14 + 12, none⟩ = some (.slice f2.cs.a f2.cs.n f2.cs.c) ∧ x.cell? ⟨b2, o2 + k * 14 + 13, none⟩ = some (.slice f2.ss.a f2.ss.n f2.ss.c)) _ := ⟨x0, x1, x2, x3, x4, x5, x6, x7, x8, x9, x10, x11, x12, x13, y0, y1, y2, y3, y4, y5, y6, y7, y8, y9, y10, y11, y12, y13⟩
      refine wpTill_take (i := 3) (v := (.agg #[.int .u8 f1.kind, .int .i64 f1.fa, .int .i64 f1.fi, .int .i64 f1.ta, .int .i64 f1.ti, .int .i64 f1.n, .int .i64 f1.token, .int .i64 f1.ba, .int .i64 f1.bi, .slice f1.ms.a f1.ms.n f1.ms.c, .slice f1.fs.a f1.fs.n f1.fs.c, .slice f1.rs.a f1.rs.n f1.rs.c, .slice f1.cs.a f1.cs.n f1.cs.c, .slice f1.ss.a f1.ss.n f1.ss.c])) rfl (by kernel_rfl) (by kernel_rfl) (by kernel_rfl) (by kernel_rfl) (fun _ _ _ h => h) (Or.inl ⟨by rfl, ?_⟩) hS ?_
      · intro w hSw; (try dsimp only at hSw); (try obtain ⟨x0, x1, x2, x3, x4, x5, x6, x7, x8, x9, x10, x11, x12, x13, x14, x15, x16, x17, x18, x19, x20, x21, x22, x23, x24, x25, x26, x27⟩ := hSw); go_simp
      try simp only [Act.put, List.setIfInBounds_toArray, List.set_cons_zero, List.set_cons_succ]
      refine wpTill_take (i := 7) (v := (.agg #[.int .u8 f2.kind, .int .i64 f2.fa, .int .i64 f2.fi, .int .i64 f2.ta, .int .i64 f2.ti, .int .i64 f2.n, .int .i64 f2.token, .int .i64 f2.ba, .int .i64 f2.bi, .slice f2.ms.a f2.ms.n f2.ms.c, .slice f2.fs.a f2.fs.n f2.fs.c, .slice f2.rs.a f2.rs.n f2.rs.c, .slice f2.cs.a f2.cs.n f2.cs.c, .slice f2.ss.a f2.ss.n f2.ss.c])) rfl (by kernel_rfl) (by kernel_rfl) (by kernel_rfl) (by kernel_rfl) (fun _ _ _ h => h) (Or.inl ⟨by rfl, ?_⟩) hS ?_
      · intro w hSw; (try dsimp only at hSw); (try obtain ⟨x0, x1, x2, x3, x4, x5, x6, x7, x8, x9, x10, x11, x12, x13, x14, x15, x16, x17, x18, x19, x20, x21, x22, x23, x24, x25, x26, x27⟩ := hSw); go_simp
      try simp only [Act.put, List.setIfInBounds_toArray, List.set_cons_zero, List.set_cons_succ]
      refine wpTill_end (by kernel_rfl) rfl (fun K hK => ?_)
      go_simp
      clear hS
      refine (same_deep d f1 f2 wr.drew (HD.out.1.same (w' := wr.drew) (Nat.le_refl _) fun _ _ _ _ _ => rfl) (HD.out.2.same (w' := wr.drew) (Nat.le_refl _) fun _ _ _ _ _ => rfl)).mono ?_
      rintro e w5 ⟨rfl, hb5⟩
      have hb5 : Below wr.heap.size wr w5 := ⟨hb5.os, hb5.tape, hb5.output, hb5.size, hb5.block⟩
      go_wp2_with fail
      refine hK.out _ _ ?_; clear hK K
      refine wpAny_one (i := 9) (by kernel_rfl) rfl (fun K hK => ?_)
      go_simp
      refine hK.out _ _ ?_; clear hK K
      refine wpAny_done (by kernel_rfl) ?_ _
      go_simp
      go_wp2_with fail
      go_roundw
      case rel => exact ⟨k + 1, by omega, by go_num, hb.trans (hb5.mono hb.size)⟩
      case measure => simp only [intOf]; omega
    · obtain rfl : k = ds.length := by omega
      go_wp2_with fail
      go_ret
      exact ⟨rfl, hb⟩
end Go.Proofs.Ytjdhdmljchnidaa
