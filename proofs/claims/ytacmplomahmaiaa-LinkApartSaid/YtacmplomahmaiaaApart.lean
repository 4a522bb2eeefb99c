/-
  The walk of the law LinkApart.
-/
import Derived.Test.YtacmplomahmaiaaCopy
namespace Go.Proofs.Ytacmplomahmaiaa
open Go.RowKit Go.Maps
set_option linter.unusedVariables false
set_option linter.unusedSimpArgs false
attribute [local go_sem ↓] Go.wp_at_zero Go.wp_at_succ
theorem boxes_of (W : World) (a b c : Array Value) (x y : Value) (ha : a = #[x, y]) :
    Hid ((((W.alloc (.cells a 23)).alloc (.cells b 26)).alloc (.cells c 26)).cell? ⟨W.heap.size, 0, none⟩ = some x ∧ (((W.alloc (.cells a 23)).alloc (.cells b 26)).alloc (.cells c 26)).cell? ⟨W.heap.size, 1, none⟩ = some y ∧
    (∀ (j : Nat) (v : Value), b[j]? = some v → (((W.alloc (.cells a 23)).alloc (.cells b 26)).alloc (.cells c 26)).cell? ⟨W.heap.size + 1, j, none⟩ = some v) ∧
    (∀ (j : Nat) (v : Value), c[j]? = some v → (((W.alloc (.cells a 23)).alloc (.cells b 26)).alloc (.cells c 26)).cell? ⟨W.heap.size + 2, j, none⟩ = some v)) := by
  subst ha
  have h1 : ((W.alloc (.cells #[x, y] 23)).alloc (.cells b 26)).heap[W.heap.size]? = some (.cells #[x, y] 23 (0, 0)) := (two W _ _ _ rfl).2
  have h2 : ((W.alloc (.cells #[x, y] 23)).alloc (.cells b 26)).heap[W.heap.size + 1]? = some (.cells b 26 (0, 0)) := (two W _ _ _ rfl).1
  have hs : ((W.alloc (.cells #[x, y] 23)).alloc (.cells b 26)).heap.size = W.heap.size + 2 := by simp
  have h3 : (((W.alloc (.cells #[x, y] 23)).alloc (.cells b 26)).alloc (.cells c 26)).heap[W.heap.size + 2]? = some (.cells c 26 (0, 0)) := by
    have := heap_alloc_new ((W.alloc (.cells #[x, y] 23)).alloc (.cells b 26)) (.cells c 26)
    rwa [hs] at this
  have h1' := (Below.heap_alloc ((W.alloc (.cells #[x, y] 23)).alloc (.cells b 26)) (.cells c 26) W.heap.size (by rw [hs]; omega)).trans h1
  have h2' := (Below.heap_alloc ((W.alloc (.cells #[x, y] 23)).alloc (.cells b 26)) (.cells c 26) (W.heap.size + 1) (by rw [hs]; omega)).trans h2
  refine Lib.hid ⟨?_, ?_, fun j v hv => ?_, fun j v hv => ?_⟩
  · rw [cell_of_row _ _ _ _ _ _ h1']; rfl
  · rw [cell_of_row _ _ _ _ _ _ h1']; rfl
  · rw [cell_of_row _ _ _ _ _ _ h2']; exact hv
  · rw [cell_of_row _ _ _ _ _ _ h3]; exact hv
theorem Hs.other {B M n M2 : Nat} {g : Int → Peer} {W w w' : World} (h : Hs B M n g W w) (hK : Keep M2 w w') (h1 : B ≠ M2) (h2 : M ≠ M2) (h3 : W.heap.size ≤ M2) : Hs B M n g W w' :=
  ⟨⟨(hK.block _ h.lk.lt h1).trans h.lk.here, h.lk.knows.same (hK.block _ h.lk.knows.lt h2), h.lk.ne⟩, h.ownB, h.ownM, h.below.trans (hK.below h3 h.below.size)⟩
/-- What another address does changes nothing. -/
theorem take_apart {g : Int → Peer} {f : Fr} {ma mi a : Int} (h : f.fa ≠ a) : takeF g f ma mi a = g a := by
  unfold takeF
  split
  · simp [set, Ne.symm h]
  · rfl
theorem fence_apart {g : Int → Peer} {b i a : Int} (h : b ≠ a) : fenceF g b i a = g a := by
  unfold fenceF
  split
  · simp [set, Ne.symm h]
  · rfl
theorem step_apart {ma mi : Int} {g : Int → Peer} {s : Step} {a : Int} (h : s.fa ≠ a) : stepF ma mi g s a = g a := by
  unfold stepF
  split
  · exact fence_apart h
  · exact take_apart (f := s.fr) h
theorem takeE_apart {g g' : Int → Peer} {f : Fr} {ma mi : Int} (h : g' f.fa = g f.fa) : takeE g' f ma mi = takeE g f ma mi := by
  unfold takeE; rw [h]
theorem fencedB_apart {g g' : Int → Peer} {a i : Int} (h : g' a = g a) : fencedB g' a i = fencedB g a i := by
  unfold fencedB; rw [h]
theorem newest_eq (B M n : Nat) (g g0 : Int → Peer) (a : Int) (w : World) (h : Lk B M n g w) (ha : inI64 a) (hg : g a = g0 a) :
    Calls Try.prog 13 #[.pointer (some ⟨B, 0, none⟩), .int .i64 a] w fun e w' => e = .returned (.int .i64 (g0 a).newest) ∧ w' = w := by
  rw [← hg]; exact newest_any B M n g a w h ha
theorem fenced_eq (B M n : Nat) (g g0 : Int → Peer) (a i : Int) (w : World) (h : Lk B M n g w) (ha : inI64 a) (hg : g a = g0 a) :
    Calls Try.prog 15 #[.pointer (some ⟨B, 0, none⟩), .agg #[.int .i64 a, .int .i64 i]] w fun e w' => e = .returned (.bool (fencedB g0 a i)) ∧ Below w.heap.size w w' := by
  rw [← fencedB_apart hg]; exact fenced_any B M n g a i w h ha
theorem take_eq {B M n : Nat} {g g0 : Int → Peer} {W w : World} (f : Fr) (ma mi : Int) (h : Hs B M n g W w) (hn : n ≤ 1000) (ha : inI64 f.fa) (hg : g f.fa = g0 f.fa) :
    Calls Try.prog 11 #[.pointer (some ⟨B, 0, none⟩), f.val, .agg #[.int .i64 ma, .int .i64 mi]] w fun e w' => e = .returned (.int .i64 (takeE g0 f ma mi)) ∧ Hs B M (n + 1) (takeF g f ma mi) W w' ∧ Keep M w w' := by
  rw [← takeE_apart hg]; exact take_of f ma mi h hn ha
theorem take_lit {B M n : Nat} {g : Int → Peer} {W w : World} (kind fa fi ta ti n' ma mi : Int) (h : Hs B M n g W w) (hn : n ≤ 1000) (ha : inI64 fa) :
    Calls Try.prog 11 #[.pointer (some ⟨B, 0, none⟩), .agg #[.int .u8 kind, .int .i64 fa, .int .i64 fi, .int .i64 ta, .int .i64 ti, .int .i64 n', .int .i64 0, .int .i64 0, .int .i64 0, .slice none 0 0, .slice none 0 0, .slice none 0 0, .slice none 0 0, .slice none 0 0], .agg #[.int .i64 ma, .int .i64 mi]] w fun e w' => e = .returned (.int .i64 (takeE g ⟨kind, fa, fi, ta, ti, n', 0⟩ ma mi)) ∧ Hs B M (n + 1) (takeF g ⟨kind, fa, fi, ta, ti, n', 0⟩ ma mi) W w' ∧ Keep M w w' :=
  take_of ⟨kind, fa, fi, ta, ti, n', 0⟩ ma mi h hn ha
theorem take_lit_eq {B M n : Nat} {g g0 : Int → Peer} {W w : World} (kind fa fi ta ti n' ma mi : Int) (h : Hs B M n g W w) (hn : n ≤ 1000) (ha : inI64 fa) (hg : g fa = g0 fa) :
    Calls Try.prog 11 #[.pointer (some ⟨B, 0, none⟩), .agg #[.int .u8 kind, .int .i64 fa, .int .i64 fi, .int .i64 ta, .int .i64 ti, .int .i64 n', .int .i64 0, .int .i64 0, .int .i64 0, .slice none 0 0, .slice none 0 0, .slice none 0 0, .slice none 0 0, .slice none 0 0], .agg #[.int .i64 ma, .int .i64 mi]] w fun e w' => e = .returned (.int .i64 (takeE g0 ⟨kind, fa, fi, ta, ti, n', 0⟩ ma mi)) ∧ Hs B M (n + 1) (takeF g ⟨kind, fa, fi, ta, ti, n', 0⟩ ma mi) W w' ∧ Keep M w w' :=
  take_eq ⟨kind, fa, fi, ta, ti, n', 0⟩ ma mi h hn ha hg
set_option maxRecDepth 100000 in
set_option maxHeartbeats 8000000 in
theorem apart_walk (ma mi : Int) (oa1 : Option Addr) (cap1 : Nat) (l1 : List Step) (fence : Bool) (kind fa fi ta ti fn : Int) (fe2 : Bool) (ki2 fa2 fi2 ta2 ti2 fn2 : Int) (W : World)
    (hl1 : Step.Holds W (.slice oa1 l1.length cap1) l1) (hs : (Step.mk fence kind fa fi ta ti fn).Ok) (ho : (Step.mk fe2 ki2 fa2 fi2 ta2 ti2 fn2).Ok) :
    Calls Try.prog 7 #[.agg #[.int .i64 ma, .int .i64 mi], .slice oa1 l1.length cap1, .agg #[.bool fence, .int .u8 kind, .int .i64 fa, .int .i64 fi, .int .i64 ta, .int .i64 ti, .int .i64 fn], .agg #[.bool fe2, .int .u8 ki2, .int .i64 fa2, .int .i64 fi2, .int .i64 ta2, .int .i64 ti2, .int .i64 fn2]] W fun e w' => e = .returned (.bool true) ∧ Below W.heap.size W w' := by
  have hfa : inI64 fa := ⟨hs.fa0, hs.fa1⟩
  have hfa2 : inI64 fa2 := ⟨ho.fa0, ho.fa1⟩
  by_cases h1 : l1.length ≤ 100
  · by_cases hne : fa = fa2
    · subst hne
      go_enter Try.func7, Try.ntmps7
      go_wp2_with fail
      refine (awake_any _).mono ?_
      rintro e w0 ⟨rfl, hb0⟩
      go_wp2_with fail
      go_ret
      exact ⟨rfl, ((((Below.refl _ W).alloc (Nat.le_refl _) _).alloc (by simp) _).alloc (by simp; omega) _).trans (hb0.mono (by simp; omega))⟩
    · have hneb : (fa == fa2) = false := by simpa using hne
      have HNE := Lib.hid hne
      clear hne
      have HX : Hid ((((W.alloc (.cells #[.int .i64 ma, .int .i64 mi] 23)).alloc (.cells #[.bool fence, .int .u8 kind, .int .i64 fa, .int .i64 fi, .int .i64 ta, .int .i64 ti, .int .i64 fn] 26)).alloc (.cells #[.bool fe2, .int .u8 ki2, .int .i64 fa2, .int .i64 fi2, .int .i64 ta2, .int .i64 ti2, .int .i64 fn2] 26)).cell? ⟨W.heap.size, 0, none⟩ = some (.int .i64 ma) ∧ (((W.alloc (.cells #[.int .i64 ma, .int .i64 mi] 23)).alloc (.cells #[.bool fence, .int .u8 kind, .int .i64 fa, .int .i64 fi, .int .i64 ta, .int .i64 ti, .int .i64 fn] 26)).alloc (.cells #[.bool fe2, .int .u8 ki2, .int .i64 fa2, .int .i64 fi2, .int .i64 ta2, .int .i64 ti2, .int .i64 fn2] 26)).cell? ⟨W.heap.size, 1, none⟩ = some (.int .i64 mi) ∧
          (∀ (j : Nat) (v : Value), ((#[.bool fence, .int .u8 kind, .int .i64 fa, .int .i64 fi, .int .i64 ta, .int .i64 ti, .int .i64 fn] : Array Value))[j]? = some v → (((W.alloc (.cells #[.int .i64 ma, .int .i64 mi] 23)).alloc (.cells #[.bool fence, .int .u8 kind, .int .i64 fa, .int .i64 fi, .int .i64 ta, .int .i64 ti, .int .i64 fn] 26)).alloc (.cells #[.bool fe2, .int .u8 ki2, .int .i64 fa2, .int .i64 fi2, .int .i64 ta2, .int .i64 ti2, .int .i64 fn2] 26)).cell? ⟨W.heap.size + 1, j, none⟩ = some v) ∧
          (∀ (j : Nat) (v : Value), ((#[.bool fe2, .int .u8 ki2, .int .i64 fa2, .int .i64 fi2, .int .i64 ta2, .int .i64 ti2, .int .i64 fn2] : Array Value))[j]? = some v → (((W.alloc (.cells #[.int .i64 ma, .int .i64 mi] 23)).alloc (.cells #[.bool fence, .int .u8 kind, .int .i64 fa, .int .i64 fi, .int .i64 ta, .int .i64 ti, .int .i64 fn] 26)).alloc (.cells #[.bool fe2, .int .u8 ki2, .int .i64 fa2, .int .i64 fi2, .int .i64 ta2, .int .i64 ti2, .int .i64 fn2] 26)).cell? ⟨W.heap.size + 2, j, none⟩ = some v)) := boxes_of W _ _ _ _ _ rfl
      have hW3 : Below W.heap.size W (((W.alloc (.cells #[.int .i64 ma, .int .i64 mi] 23)).alloc (.cells #[.bool fence, .int .u8 kind, .int .i64 fa, .int .i64 fi, .int .i64 ta, .int .i64 ti, .int .i64 fn] 26)).alloc (.cells #[.bool fe2, .int .u8 ki2, .int .i64 fa2, .int .i64 fi2, .int .i64 ta2, .int .i64 ti2, .int .i64 fn2] 26)) := ((((Below.refl _ W).alloc (Nat.le_refl _) _).alloc (by simp) _).alloc (by simp; omega) _)
      have hs3 : (((W.alloc (.cells #[.int .i64 ma, .int .i64 mi] 23)).alloc (.cells #[.bool fence, .int .u8 kind, .int .i64 fa, .int .i64 fi, .int .i64 ta, .int .i64 ti, .int .i64 fn] 26)).alloc (.cells #[.bool fe2, .int .u8 ki2, .int .i64 fa2, .int .i64 fi2, .int .i64 ta2, .int .i64 ti2, .int .i64 fn2] 26)).heap.size = W.heap.size + 3 := by simp
      go_enter Try.func7, Try.ntmps7
      go_wp2_with fail
      refine (awake_any _).mono ?_
      rintro e w0 ⟨rfl, hb0⟩
      have k0 : w0.cell? ⟨W.heap.size, 0, none⟩ = some (.int .i64 ma) := (hb0.cell (p := ⟨W.heap.size, 0, none⟩) (by simp; omega)).trans HX.out.1
      have k1 : w0.cell? ⟨W.heap.size, 1, none⟩ = some (.int .i64 mi) := (hb0.cell (p := ⟨W.heap.size, 1, none⟩) (by simp; omega)).trans HX.out.2.1
      go_wp2_with fail
      refine (play_any ma mi oa1 cap1 l1 w0 (hl1.below (then_below hW3 hb0)) h1).mono ?_
      rintro e w1 ⟨B, M, rfl, hL0⟩
      have hx := hL0.base hb0
      clear hL0 hb0 k0 k1
      generalize playF ma mi (fun _ => Peer.zero) l1 = G0 at hx ⊢
      go_wp2_with fail
      refine (copy_any B M _ G0 w1 hx.lk).mono ?_
      rintro e w2 ⟨rfl, hy2, hb2⟩
      have hBM : W.heap.size + 3 ≤ B ∧ W.heap.size + 3 ≤ M := by have := hx.ownB; have := hx.ownM; simp at *; omega
      have hBl := hx.lk.lt
      have hMl := hx.lk.knows.lt
      have hx := hx.kept hb2
      have hy : Hs (w1.heap.size + 1) w1.heap.size l1.length G0 (((W.alloc (.cells #[.int .i64 ma, .int .i64 mi] 23)).alloc (.cells #[.bool fence, .int .u8 kind, .int .i64 fa, .int .i64 fi, .int .i64 ta, .int .i64 ti, .int .i64 fn] 26)).alloc (.cells #[.bool fe2, .int .u8 ki2, .int .i64 fa2, .int .i64 fi2, .int .i64 ta2, .int .i64 ti2, .int .i64 fn2] 26)) w2 := ⟨hy2, by simp; omega, by simp; omega, hx.below⟩
      clear hy2 hb2
      have hn3 : l1.length ≤ 1000 := by omega
      have hn4 : l1.length + 1 ≤ 1000 := by omega
      have hc1 : B ≠ w1.heap.size := by omega
      have hc2 : M ≠ w1.heap.size := by omega
      have hc3 : w1.heap.size + 1 ≠ M := by omega
      have hc4 : w1.heap.size ≠ M := by omega
      have hc5 : W.heap.size + 3 ≤ w1.heap.size := by omega
      have hc6 : (((W.alloc (.cells #[.int .i64 ma, .int .i64 mi] 23)).alloc (.cells #[.bool fence, .int .u8 kind, .int .i64 fa, .int .i64 fi, .int .i64 ta, .int .i64 ti, .int .i64 fn] 26)).alloc (.cells #[.bool fe2, .int .u8 ki2, .int .i64 fa2, .int .i64 fi2, .int .i64 ta2, .int .i64 ti2, .int .i64 fn2] 26)).heap.size ≤ w1.heap.size := by simp; omega
      have hc7 : (((W.alloc (.cells #[.int .i64 ma, .int .i64 mi] 23)).alloc (.cells #[.bool fence, .int .u8 kind, .int .i64 fa, .int .i64 fi, .int .i64 ta, .int .i64 ti, .int .i64 fn] 26)).alloc (.cells #[.bool fe2, .int .u8 ki2, .int .i64 fa2, .int .i64 fi2, .int .i64 ta2, .int .i64 ti2, .int .i64 fn2] 26)).heap.size ≤ M := by simp; omega
      have hd0 : W.heap.size ≠ w1.heap.size := by omega
      have hd1 : W.heap.size + 1 ≠ w1.heap.size := by omega
      have hd2 : W.heap.size + 2 ≠ w1.heap.size := by omega
      have he0 : W.heap.size ≠ M := by omega
      have he1 : W.heap.size + 1 ≠ M := by omega
      have he2 : W.heap.size + 2 ≠ M := by omega
      generalize w1.heap.size + 1 = B2 at hy hc3 ⊢
      generalize w1.heap.size = M2 at hy hc1 hc2 hc4 hc5 hc6 hd0 hd1 hd2
      have hbel := hx.below
      have m0 : w2.cell? ⟨W.heap.size, 0, none⟩ = some (.int .i64 ma) := (hbel.cell (p := ⟨W.heap.size, 0, none⟩) (by show W.heap.size < _; rw [hs3]; omega)).trans HX.out.1
      have m1 : w2.cell? ⟨W.heap.size, 1, none⟩ = some (.int .i64 mi) := (hbel.cell (p := ⟨W.heap.size, 1, none⟩) (by show W.heap.size < _; rw [hs3]; omega)).trans HX.out.2.1
      have q0 : w2.cell? ⟨W.heap.size + 1, 0, none⟩ = some (.bool fence) := (hbel.cell (p := ⟨W.heap.size + 1, 0, none⟩) (by show W.heap.size + 1 < _; rw [hs3]; omega)).trans (HX.out.2.2.1 0 _ rfl)
      have q1 : w2.cell? ⟨W.heap.size + 1, 1, none⟩ = some (.int .u8 kind) := (hbel.cell (p := ⟨W.heap.size + 1, 1, none⟩) (by show W.heap.size + 1 < _; rw [hs3]; omega)).trans (HX.out.2.2.1 1 _ rfl)
      have q2 : w2.cell? ⟨W.heap.size + 1, 2, none⟩ = some (.int .i64 fa) := (hbel.cell (p := ⟨W.heap.size + 1, 2, none⟩) (by show W.heap.size + 1 < _; rw [hs3]; omega)).trans (HX.out.2.2.1 2 _ rfl)
      have q3 : w2.cell? ⟨W.heap.size + 1, 3, none⟩ = some (.int .i64 fi) := (hbel.cell (p := ⟨W.heap.size + 1, 3, none⟩) (by show W.heap.size + 1 < _; rw [hs3]; omega)).trans (HX.out.2.2.1 3 _ rfl)
      have q4 : w2.cell? ⟨W.heap.size + 1, 4, none⟩ = some (.int .i64 ta) := (hbel.cell (p := ⟨W.heap.size + 1, 4, none⟩) (by show W.heap.size + 1 < _; rw [hs3]; omega)).trans (HX.out.2.2.1 4 _ rfl)
      have q5 : w2.cell? ⟨W.heap.size + 1, 5, none⟩ = some (.int .i64 ti) := (hbel.cell (p := ⟨W.heap.size + 1, 5, none⟩) (by show W.heap.size + 1 < _; rw [hs3]; omega)).trans (HX.out.2.2.1 5 _ rfl)
      have q6 : w2.cell? ⟨W.heap.size + 1, 6, none⟩ = some (.int .i64 fn) := (hbel.cell (p := ⟨W.heap.size + 1, 6, none⟩) (by show W.heap.size + 1 < _; rw [hs3]; omega)).trans (HX.out.2.2.1 6 _ rfl)
      have hml : W.heap.size < w2.heap.size := by have := hbel.size; omega
      have qlt : W.heap.size + 1 < w2.heap.size := by have := hbel.size; omega
      go_upto_if 35 with fail
      go_cut [36, 37, 38, 39, 40, 41, 42, 43, 44] (fun _ _ _ _ _ _ _ _ _ wx => Hs B M l1.length G0 (((W.alloc (.cells #[.int .i64 ma, .int .i64 mi] 23)).alloc (.cells #[.bool fence, .int .u8 kind, .int .i64 fa, .int .i64 fi, .int .i64 ta, .int .i64 ti, .int .i64 fn] 26)).alloc (.cells #[.bool fe2, .int .u8 ki2, .int .i64 fa2, .int .i64 fi2, .int .i64 ta2, .int .i64 ti2, .int .i64 fn2] 26)) wx ∧ Hs B2 M2 (l1.length + 1) (stepF ma mi G0 ⟨fence, kind, fa, fi, ta, ti, fn⟩) (((W.alloc (.cells #[.int .i64 ma, .int .i64 mi] 23)).alloc (.cells #[.bool fence, .int .u8 kind, .int .i64 fa, .int .i64 fi, .int .i64 ta, .int .i64 ti, .int .i64 fn] 26)).alloc (.cells #[.bool fe2, .int .u8 ki2, .int .i64 fa2, .int .i64 fi2, .int .i64 ta2, .int .i64 ti2, .int .i64 fn2] 26)) wx)
      case first =>
        cases fence
        · have hx := hx.drew
          have hy := hy.drew
          have m0 : w2.drew.cell? ⟨W.heap.size, 0, none⟩ = some (.int .i64 ma) := m0
          have m1 : w2.drew.cell? ⟨W.heap.size, 1, none⟩ = some (.int .i64 mi) := m1
          have hml : W.heap.size < w2.drew.heap.size := hml
          have qlt : W.heap.size + 1 < w2.drew.heap.size := qlt
          go_upto_region 7 with fail
          go_region_held3 (fun v => v.cell? ⟨W.heap.size, 0, none⟩ = some (.int .i64 ma) ∧ v.cell? ⟨W.heap.size, 1, none⟩ = some (.int .i64 mi) ∧ v.cell? ⟨W.heap.size + 1, 0, none⟩ = some (.bool false) ∧ v.cell? ⟨W.heap.size + 1, 1, none⟩ = some (.int .u8 kind) ∧ v.cell? ⟨W.heap.size + 1, 2, none⟩ = some (.int .i64 fa) ∧ v.cell? ⟨W.heap.size + 1, 3, none⟩ = some (.int .i64 fi) ∧ v.cell? ⟨W.heap.size + 1, 4, none⟩ = some (.int .i64 ta) ∧ v.cell? ⟨W.heap.size + 1, 5, none⟩ = some (.int .i64 ti) ∧ v.cell? ⟨W.heap.size + 1, 6, none⟩ = some (.int .i64 fn)) (go_keep)
            (first
              | (go_at_call 10; refine (frame_any _ _ _ _ _ _ _ _).mono ?_; rintro e wb ⟨rfl, hbb⟩; have hx := hx.kept hbb; have hy := hy.kept hbb; have m0 := (hbb.cell (p := ⟨W.heap.size, 0, none⟩) hml).trans m0; have m1 := (hbb.cell (p := ⟨W.heap.size, 1, none⟩) hml).trans m1; have q0 := (hbb.cell (p := ⟨W.heap.size + 1, 0, none⟩) qlt).trans q0; have q1 := (hbb.cell (p := ⟨W.heap.size + 1, 1, none⟩) qlt).trans q1; have q2 := (hbb.cell (p := ⟨W.heap.size + 1, 2, none⟩) qlt).trans q2; have q3 := (hbb.cell (p := ⟨W.heap.size + 1, 3, none⟩) qlt).trans q3; have q4 := (hbb.cell (p := ⟨W.heap.size + 1, 4, none⟩) qlt).trans q4; have q5 := (hbb.cell (p := ⟨W.heap.size + 1, 5, none⟩) qlt).trans q5; have q6 := (hbb.cell (p := ⟨W.heap.size + 1, 6, none⟩) qlt).trans q6; have hml := Nat.lt_of_lt_of_le hml hbb.size; have qlt := Nat.lt_of_lt_of_le qlt hbb.size; clear hbb; simp only [Fr.val, Fr.cells])
              | (go_at_call 11; refine (take_of (⟨_, _, _, _, _, _, 0⟩ : Fr) ma mi hy hn3 hfa).mono ?_; rintro e wt ⟨rfl, hLt, hKt⟩; have hy := hLt; have hx := hx.other hKt hc1 hc2 hc6; have m0 := (hKt.cell (p := ⟨W.heap.size, 0, none⟩) hml hd0).trans m0; have m1 := (hKt.cell (p := ⟨W.heap.size, 1, none⟩) hml hd0).trans m1; have q0 := (hKt.cell (p := ⟨W.heap.size + 1, 0, none⟩) qlt hd1).trans q0; have q1 := (hKt.cell (p := ⟨W.heap.size + 1, 1, none⟩) qlt hd1).trans q1; have q2 := (hKt.cell (p := ⟨W.heap.size + 1, 2, none⟩) qlt hd1).trans q2; have q3 := (hKt.cell (p := ⟨W.heap.size + 1, 3, none⟩) qlt hd1).trans q3; have q4 := (hKt.cell (p := ⟨W.heap.size + 1, 4, none⟩) qlt hd1).trans q4; have q5 := (hKt.cell (p := ⟨W.heap.size + 1, 5, none⟩) qlt hd1).trans q5; have q6 := (hKt.cell (p := ⟨W.heap.size + 1, 6, none⟩) qlt hd1).trans q6; have hml := Nat.lt_of_lt_of_le hml hKt.size; have qlt := Nat.lt_of_lt_of_le qlt hKt.size; clear hLt hKt))
          all_goals
            go_wp2_with fail
            go_meet
            case rel => exact ⟨hx, hy⟩
        · go_wp2_with fail
          refine (fence_of fa fi hy (by omega) hfa).mono ?_
          rintro e wf ⟨rfl, hLf, hKf⟩
          go_wp2_with fail
          go_meet
          case rel => exact ⟨hx.other hKf hc1 hc2 hc6, hLf⟩
      case rest =>
        obtain ⟨hx, hy⟩ := hcut
        clear m0 m1 q0 q1 q2 q3 q4 q5 q6 hml qlt hbel
        have hG : stepF ma mi G0 ⟨fence, kind, fa, fi, ta, ti, fn⟩ fa2 = G0 fa2 := step_apart HNE.out
        have HG := Lib.hid hG
        clear hG
        generalize stepF ma mi G0 ⟨fence, kind, fa, fi, ta, ti, fn⟩ = G2 at hy HG
        have hbel := hx.below
        have m0 : wc.cell? ⟨W.heap.size, 0, none⟩ = some (.int .i64 ma) := (hbel.cell (p := ⟨W.heap.size, 0, none⟩) (by show W.heap.size < _; rw [hs3]; omega)).trans HX.out.1
        have m1 : wc.cell? ⟨W.heap.size, 1, none⟩ = some (.int .i64 mi) := (hbel.cell (p := ⟨W.heap.size, 1, none⟩) (by show W.heap.size < _; rw [hs3]; omega)).trans HX.out.2.1
        have q0 : wc.cell? ⟨W.heap.size + 2, 0, none⟩ = some (.bool fe2) := (hbel.cell (p := ⟨W.heap.size + 2, 0, none⟩) (by show W.heap.size + 2 < _; rw [hs3]; omega)).trans (HX.out.2.2.2 0 _ rfl)
        have q1 : wc.cell? ⟨W.heap.size + 2, 1, none⟩ = some (.int .u8 ki2) := (hbel.cell (p := ⟨W.heap.size + 2, 1, none⟩) (by show W.heap.size + 2 < _; rw [hs3]; omega)).trans (HX.out.2.2.2 1 _ rfl)
        have q2 : wc.cell? ⟨W.heap.size + 2, 2, none⟩ = some (.int .i64 fa2) := (hbel.cell (p := ⟨W.heap.size + 2, 2, none⟩) (by show W.heap.size + 2 < _; rw [hs3]; omega)).trans (HX.out.2.2.2 2 _ rfl)
        have q3 : wc.cell? ⟨W.heap.size + 2, 3, none⟩ = some (.int .i64 fi2) := (hbel.cell (p := ⟨W.heap.size + 2, 3, none⟩) (by show W.heap.size + 2 < _; rw [hs3]; omega)).trans (HX.out.2.2.2 3 _ rfl)
        have q4 : wc.cell? ⟨W.heap.size + 2, 4, none⟩ = some (.int .i64 ta2) := (hbel.cell (p := ⟨W.heap.size + 2, 4, none⟩) (by show W.heap.size + 2 < _; rw [hs3]; omega)).trans (HX.out.2.2.2 4 _ rfl)
        have q5 : wc.cell? ⟨W.heap.size + 2, 5, none⟩ = some (.int .i64 ti2) := (hbel.cell (p := ⟨W.heap.size + 2, 5, none⟩) (by show W.heap.size + 2 < _; rw [hs3]; omega)).trans (HX.out.2.2.2 5 _ rfl)
        have q6 : wc.cell? ⟨W.heap.size + 2, 6, none⟩ = some (.int .i64 fn2) := (hbel.cell (p := ⟨W.heap.size + 2, 6, none⟩) (by show W.heap.size + 2 < _; rw [hs3]; omega)).trans (HX.out.2.2.2 6 _ rfl)
        have hml : W.heap.size < wc.heap.size := by have := hbel.size; omega
        have qlt : W.heap.size + 2 < wc.heap.size := by have := hbel.size; omega
        clear hbel
        go_upto_region 9 with fail
        clear m0 m1 q0 q1 q2 q3 q4 q5 q6 hml qlt
        have hx := (hx.alloc (.cells #[.int .i64 fa2, .int .i64 fi2] 23)).drew
        have hy := (hy.alloc (.cells #[.int .i64 fa2, .int .i64 fi2] 23)).drew
        obtain ⟨Q, hQ⟩ : ∃ Q, Q = wc.heap.size := ⟨_, rfl⟩
        have z0 : ((wc.alloc (.cells #[.int .i64 fa2, .int .i64 fi2] 23)).drew).cell? ⟨Q, 0, none⟩ = some (.int .i64 fa2) := by rw [hQ]; simp
        have z1 : ((wc.alloc (.cells #[.int .i64 fa2, .int .i64 fi2] 23)).drew).cell? ⟨Q, 1, none⟩ = some (.int .i64 fi2) := by rw [hQ]; simp
        have hql : Q < ((wc.alloc (.cells #[.int .i64 fa2, .int .i64 fi2] 23)).drew).heap.size := by rw [hQ]; simp
        rw [← hQ]
        clear hQ
        go_region_held3 (fun v => v.cell? ⟨Q, 0, none⟩ = some (.int .i64 fa2) ∧ v.cell? ⟨Q, 1, none⟩ = some (.int .i64 fi2)) (go_keep)
          (first
            | (go_at_call 13; (with_reducible refine (newest_any B M _ G0 fa2 _ hx.lk hfa2).mono ?_); rintro e wn ⟨rfl, rfl⟩)
            | (go_at_call 13; (with_reducible refine (newest_eq B2 M2 _ G2 G0 fa2 _ hy.lk hfa2 HG.out).mono ?_); rintro e wn ⟨rfl, rfl⟩)
            | (go_at_call 15; (with_reducible refine (fenced_any B M _ G0 fa2 fi2 _ hx.lk hfa2).mono ?_); rintro e wf ⟨rfl, hbf⟩; have hx := hx.kept hbf; have hy := hy.kept hbf; have z0 := (hbf.cell (p := ⟨Q, 0, none⟩) hql).trans z0; have z1 := (hbf.cell (p := ⟨Q, 1, none⟩) hql).trans z1; have hql := Nat.lt_of_lt_of_le hql hbf.size; clear hbf)
            | (go_at_call 15; (with_reducible refine (fenced_eq B2 M2 _ G2 G0 fa2 fi2 _ hy.lk hfa2 HG.out).mono ?_); rintro e wf ⟨rfl, hbf⟩; have hx := hx.kept hbf; have hy := hy.kept hbf; have z0 := (hbf.cell (p := ⟨Q, 0, none⟩) hql).trans z0; have z1 := (hbf.cell (p := ⟨Q, 1, none⟩) hql).trans z1; have hql := Nat.lt_of_lt_of_le hql hbf.size; clear hbf))
        clear z0 z1 hql
        go_upto_region 11 with fail
        have hx := hx.drew
        have hy := hy.drew
        have hbel := hx.below
        have m0 : wf.drew.cell? ⟨W.heap.size, 0, none⟩ = some (.int .i64 ma) := (hbel.cell (p := ⟨W.heap.size, 0, none⟩) (by show W.heap.size < _; rw [hs3]; omega)).trans HX.out.1
        have m1 : wf.drew.cell? ⟨W.heap.size, 1, none⟩ = some (.int .i64 mi) := (hbel.cell (p := ⟨W.heap.size, 1, none⟩) (by show W.heap.size < _; rw [hs3]; omega)).trans HX.out.2.1
        have q0 : wf.drew.cell? ⟨W.heap.size + 2, 0, none⟩ = some (.bool fe2) := (hbel.cell (p := ⟨W.heap.size + 2, 0, none⟩) (by show W.heap.size + 2 < _; rw [hs3]; omega)).trans (HX.out.2.2.2 0 _ rfl)
        have q1 : wf.drew.cell? ⟨W.heap.size + 2, 1, none⟩ = some (.int .u8 ki2) := (hbel.cell (p := ⟨W.heap.size + 2, 1, none⟩) (by show W.heap.size + 2 < _; rw [hs3]; omega)).trans (HX.out.2.2.2 1 _ rfl)
        have q2 : wf.drew.cell? ⟨W.heap.size + 2, 2, none⟩ = some (.int .i64 fa2) := (hbel.cell (p := ⟨W.heap.size + 2, 2, none⟩) (by show W.heap.size + 2 < _; rw [hs3]; omega)).trans (HX.out.2.2.2 2 _ rfl)
        have q3 : wf.drew.cell? ⟨W.heap.size + 2, 3, none⟩ = some (.int .i64 fi2) := (hbel.cell (p := ⟨W.heap.size + 2, 3, none⟩) (by show W.heap.size + 2 < _; rw [hs3]; omega)).trans (HX.out.2.2.2 3 _ rfl)
        have q4 : wf.drew.cell? ⟨W.heap.size + 2, 4, none⟩ = some (.int .i64 ta2) := (hbel.cell (p := ⟨W.heap.size + 2, 4, none⟩) (by show W.heap.size + 2 < _; rw [hs3]; omega)).trans (HX.out.2.2.2 4 _ rfl)
        have q5 : wf.drew.cell? ⟨W.heap.size + 2, 5, none⟩ = some (.int .i64 ti2) := (hbel.cell (p := ⟨W.heap.size + 2, 5, none⟩) (by show W.heap.size + 2 < _; rw [hs3]; omega)).trans (HX.out.2.2.2 5 _ rfl)
        have q6 : wf.drew.cell? ⟨W.heap.size + 2, 6, none⟩ = some (.int .i64 fn2) := (hbel.cell (p := ⟨W.heap.size + 2, 6, none⟩) (by show W.heap.size + 2 < _; rw [hs3]; omega)).trans (HX.out.2.2.2 6 _ rfl)
        have hml : W.heap.size < wf.drew.heap.size := by have := hbel.size; omega
        have qlt : W.heap.size + 2 < wf.drew.heap.size := by have := hbel.size; omega
        clear hbel
        go_region_held3 (fun v => v.cell? ⟨W.heap.size, 0, none⟩ = some (.int .i64 ma) ∧ v.cell? ⟨W.heap.size, 1, none⟩ = some (.int .i64 mi) ∧ v.cell? ⟨W.heap.size + 2, 0, none⟩ = some (.bool fe2) ∧ v.cell? ⟨W.heap.size + 2, 1, none⟩ = some (.int .u8 ki2) ∧ v.cell? ⟨W.heap.size + 2, 2, none⟩ = some (.int .i64 fa2) ∧ v.cell? ⟨W.heap.size + 2, 3, none⟩ = some (.int .i64 fi2) ∧ v.cell? ⟨W.heap.size + 2, 4, none⟩ = some (.int .i64 ta2) ∧ v.cell? ⟨W.heap.size + 2, 5, none⟩ = some (.int .i64 ti2) ∧ v.cell? ⟨W.heap.size + 2, 6, none⟩ = some (.int .i64 fn2)) (go_keep)
          (first
            | (go_at_call 10; (with_reducible refine (frame_any _ _ _ _ _ _ _ _).mono ?_); rintro e wb ⟨rfl, hbb⟩; have hx := hx.kept hbb; have hy := hy.kept hbb; have m0 := (hbb.cell (p := ⟨W.heap.size, 0, none⟩) hml).trans m0; have m1 := (hbb.cell (p := ⟨W.heap.size, 1, none⟩) hml).trans m1; have q0 := (hbb.cell (p := ⟨W.heap.size + 2, 0, none⟩) qlt).trans q0; have q1 := (hbb.cell (p := ⟨W.heap.size + 2, 1, none⟩) qlt).trans q1; have q2 := (hbb.cell (p := ⟨W.heap.size + 2, 2, none⟩) qlt).trans q2; have q3 := (hbb.cell (p := ⟨W.heap.size + 2, 3, none⟩) qlt).trans q3; have q4 := (hbb.cell (p := ⟨W.heap.size + 2, 4, none⟩) qlt).trans q4; have q5 := (hbb.cell (p := ⟨W.heap.size + 2, 5, none⟩) qlt).trans q5; have q6 := (hbb.cell (p := ⟨W.heap.size + 2, 6, none⟩) qlt).trans q6; have hml := Nat.lt_of_lt_of_le hml hbb.size; have qlt := Nat.lt_of_lt_of_le qlt hbb.size; clear hbb; simp only [Fr.val, Fr.cells])
            | (go_at_call 11; (with_reducible refine (take_lit ki2 fa2 fi2 ta2 ti2 fn2 ma mi hx hn3 hfa2).mono ?_); rintro e wt ⟨rfl, hLt, hKt⟩; have hx := hLt; have hy := hy.other hKt hc3 hc4 hc7; have m0 := (hKt.cell (p := ⟨W.heap.size, 0, none⟩) hml he0).trans m0; have m1 := (hKt.cell (p := ⟨W.heap.size, 1, none⟩) hml he0).trans m1; have q0 := (hKt.cell (p := ⟨W.heap.size + 2, 0, none⟩) qlt he2).trans q0; have q1 := (hKt.cell (p := ⟨W.heap.size + 2, 1, none⟩) qlt he2).trans q1; have q2 := (hKt.cell (p := ⟨W.heap.size + 2, 2, none⟩) qlt he2).trans q2; have q3 := (hKt.cell (p := ⟨W.heap.size + 2, 3, none⟩) qlt he2).trans q3; have q4 := (hKt.cell (p := ⟨W.heap.size + 2, 4, none⟩) qlt he2).trans q4; have q5 := (hKt.cell (p := ⟨W.heap.size + 2, 5, none⟩) qlt he2).trans q5; have q6 := (hKt.cell (p := ⟨W.heap.size + 2, 6, none⟩) qlt he2).trans q6; have hml := Nat.lt_of_lt_of_le hml hKt.size; have qlt := Nat.lt_of_lt_of_le qlt hKt.size; clear hLt hKt)
            | (go_at_call 11; (with_reducible refine (take_lit_eq ki2 fa2 fi2 ta2 ti2 fn2 ma mi hy hn4 hfa2 HG.out).mono ?_); rintro e wt ⟨rfl, hLt, hKt⟩; have hy := hLt; have hx := hx.other hKt hc1 hc2 hc6; have m0 := (hKt.cell (p := ⟨W.heap.size, 0, none⟩) hml hd0).trans m0; have m1 := (hKt.cell (p := ⟨W.heap.size, 1, none⟩) hml hd0).trans m1; have q0 := (hKt.cell (p := ⟨W.heap.size + 2, 0, none⟩) qlt hd2).trans q0; have q1 := (hKt.cell (p := ⟨W.heap.size + 2, 1, none⟩) qlt hd2).trans q1; have q2 := (hKt.cell (p := ⟨W.heap.size + 2, 2, none⟩) qlt hd2).trans q2; have q3 := (hKt.cell (p := ⟨W.heap.size + 2, 3, none⟩) qlt hd2).trans q3; have q4 := (hKt.cell (p := ⟨W.heap.size + 2, 4, none⟩) qlt hd2).trans q4; have q5 := (hKt.cell (p := ⟨W.heap.size + 2, 5, none⟩) qlt hd2).trans q5; have q6 := (hKt.cell (p := ⟨W.heap.size + 2, 6, none⟩) qlt hd2).trans q6; have hml := Nat.lt_of_lt_of_le hml hKt.size; have qlt := Nat.lt_of_lt_of_le qlt hKt.size; clear hLt hKt))
        go_wp2_with fail
        go_ret
        exact ⟨rfl, hW3.trans (hx.below.mono (by simp; omega))⟩
  · go_enter Try.func7, Try.ntmps7
    go_wp2_with fail
    refine (awake_any _).mono ?_
    rintro e w0 ⟨rfl, hb0⟩
    go_wp2_with fail
    go_ret
    exact ⟨rfl, ((((Below.refl _ W).alloc (Nat.le_refl _) _).alloc (by simp) _).alloc (by simp; omega) _).trans (hb0.mono (by simp; omega))⟩
end Go.Proofs.Ytacmplomahmaiaa
