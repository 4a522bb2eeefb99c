/-
  The walk of the law ArbiterPlays.
-/
import Derived.Test.YtjjbfmaldhlenaaPlaysA
namespace Go.Proofs.Ytjjbfmaldhlenaa
open Go.RowKit
set_option linter.unusedVariables false
set_option linter.unusedSimpArgs false
attribute [local go_sem ↓] Go.wp_at_zero Go.wp_at_succ
theorem pastA {w : World} {p : Addr} (o : Obj) (h : p.block < w.heap.size) : (w.alloc o).cell? p = w.cell? p := ((Below.refl w.heap.size w).alloc (Nat.le_refl _) o).cell h
set_option maxRecDepth 100000 in
set_option maxHeartbeats 8000000 in
theorem plays_walk (term : Int) (oa : Option Addr) (cap : Nat) (l : List Step) (W : World) (hl : Step.Holds W (.slice oa l.length cap) l) :
    Calls Try.prog 5 #[.int .i64 term, .slice oa l.length cap] W fun e w' => e = .returned (.bool true) ∧ Below W.heap.size W w' := by
  by_cases hlen : l.length ≤ 300
  · by_cases ht : 1 ≤ term ∧ term ≤ 4096
    · obtain ⟨t1, t2⟩ := ht
      go_enter Try.func5, Try.ntmps5
      go_wp2_with fail
      refine (new_yes term W t1 t2).mono ?_
      rintro e w1 ⟨rfl, hA1, hb1⟩
      go_wp2_with fail
      refine (rnew_yes term w1 t1 t2).mono ?_
      rintro e w2 ⟨rfl, hC2, hb2⟩
      have hD : Duo W.heap.size w1.heap.size (.fresh term) (.fresh term) W w2 := ⟨hA1.kept hb2, hC2, by have := hA1.lt; omega, Nat.le_refl _, hb1.size, then_below hb1 hb2⟩
      clear hA1 hC2 hb1
      generalize W.heap.size = B at hD ⊢
      generalize w1.heap.size = C at hD ⊢
      go_wp2_with fail
      go_loopw [9] (fun x wr => ∃ (k : Nat) (s : St), k ≤ l.length ∧ x = .int .i64 k ∧ Duo B C s s W wr ∧ Pl term k s) (fun x _ => l.length - (intOf x).toNat)
      case atStart => exact ⟨0, _, by omega, rfl, hD, Pl.start term⟩
      case round =>
        clear hD hb2
        obtain ⟨k, s, hk, rfl, hD, J⟩ := hrel
        have hok := J.ok t1 t2 (by omega)
        by_cases hlt : k < l.length
        · obtain ⟨b, off, rfl, hbW, hx, q0, q1, q2, q3, q4, q5⟩ := hl.at_ hlt
          generalize l[k] = x at hx q0 q1 q2 q3 q4 q5
          obtain ⟨what, a, i, kind, n, tok⟩ := x
          simp only at q0 q1 q2 q3 q4 q5
          obtain ⟨-, -, -, -, -, -, hk0, hk1, -, -, -, -⟩ := hx
          simp only at hk0 hk1
          go_wp2_with fail
          refine (copy_any B s _ hD.here).mono ?_
          rintro e w3 ⟨rfl, hA3, hb3⟩
          have hD3 := hD.kept hb3
          obtain ⟨D, hDD⟩ : ∃ D, D = wr.heap.size := ⟨_, rfl⟩
          rw [← hDD] at hA3 ⊢
          have nBD : B ≠ D := by have := hD.here.lt; omega
          have nCD : C ≠ D := by have := hD.doc.lt; omega
          have oD : W.heap.size ≤ D := by rw [hDD]; exact hD.below.size
          clear hD hb3 hDD
          go_wp2_with fail
          refine (rcopy_any C s _ hD3.doc).mono ?_
          rintro e w4 ⟨rfl, hA4, hb4⟩
          have h1 := hD3.kept hb4
          obtain ⟨E, hEE⟩ : ∃ E, E = w3.heap.size := ⟨_, rfl⟩
          rw [← hEE] at hA4 ⊢
          have nBE : B ≠ E := by have := hD3.here.lt; omega
          have nCE : C ≠ E := by have := hD3.doc.lt; omega
          have oE : W.heap.size ≤ E := by rw [hEE]; exact hD3.below.size
          have h2 : Duo D E s s W w4 := ⟨hA3.kept hb4, hA4, by have := hA3.lt; omega, oD, oE, h1.below⟩
          clear hD3 hb4 hA3 hA4 hEE
          have q0 := (h1.below.cell (p := ⟨b, off + k * 6, none⟩) hbW).trans q0
          have q1 := (h1.below.cell (p := ⟨b, off + k * 6 + 1, none⟩) hbW).trans q1
          have q2 := (h1.below.cell (p := ⟨b, off + k * 6 + 2, none⟩) hbW).trans q2
          have q3 := (h1.below.cell (p := ⟨b, off + k * 6 + 3, none⟩) hbW).trans q3
          have q4 := (h1.below.cell (p := ⟨b, off + k * 6 + 4, none⟩) hbW).trans q4
          have q5 := (h1.below.cell (p := ⟨b, off + k * 6 + 5, none⟩) hbW).trans q5
          have hbl := Nat.lt_of_lt_of_le hbW h1.below.size
          have nbB : b ≠ B := by have := h1.ownB; omega
          clear hbW
          go_upto_block 2 with fail
          go_cut [12, 13, 14, 15, 16, 17] (fun _ _ _ _ _ _ wx => ∃ s', Duo B C s' s' W wx ∧ Duo D E s s W wx ∧ Pl term (k + 1) s')
          case first =>
            by_cases hw0 : what = 0
            · skip
              subst hw0
              go_wp2_with fail
              refine (tick_any B s _ h1.here hok).mono ?_
              rintro e w5 ⟨rfl, hA5, hK5⟩
              have h5 := h1.ours hA5 hK5
              have c5 := h2.beside hK5 (Ne.symm nBD) (Ne.symm nBE) h1.ownB
              clear hA5 hK5
              go_wp2_with fail
              refine (rtick_any C s _ h5.doc hok).mono ?_
              rintro e w6 ⟨rfl, hA6, hK6⟩
              have h6 := h5.docs hA6 hK6
              have c6 := c5.beside hK6 (Ne.symm nCD) (Ne.symm nCE) h5.ownC
              clear hA6 hK6
              go_wp2_with fail
              go_meet
              case rel => exact ⟨s.tick, h6, c6, J.tick⟩
            · by_cases hw1 : what = 1
              · skip
                subst hw1
                go_wp2_with fail
                refine (start_any B s _ h1.here).mono ?_
                rintro e w5 ⟨rfl, hA5, hK5⟩
                have h5 := h1.ours hA5 hK5
                have c5 := h2.beside hK5 (Ne.symm nBD) (Ne.symm nBE) h1.ownB
                clear hA5 hK5
                go_wp2_with fail
                refine (rstart_any C s _ h5.doc).mono ?_
                rintro e w6 ⟨rfl, hA6, hK6⟩
                have h6 := h5.docs hA6 hK6
                have c6 := c5.beside hK6 (Ne.symm nCD) (Ne.symm nCE) h5.ownC
                clear hA6 hK6
                go_wp2_with fail
                go_meet
                case rel => exact ⟨s.start, h6, c6, J.anew⟩
              · skip
                have J5 := J.take ⟨kind, a, i, 0, 0, n, tok⟩
                go_wp2_with fail
                refine (frame14 what a i kind n tok _).mono ?_
                rintro e w5 ⟨rfl, hb5⟩
                have h5 := h1.kept hb5
                have c5 := h2.kept hb5
                have q0 := (hb5.cell (p := ⟨b, off + k * 6, none⟩) hbl).trans q0
                have q1 := (hb5.cell (p := ⟨b, off + k * 6 + 1, none⟩) hbl).trans q1
                have q2 := (hb5.cell (p := ⟨b, off + k * 6 + 2, none⟩) hbl).trans q2
                have q3 := (hb5.cell (p := ⟨b, off + k * 6 + 3, none⟩) hbl).trans q3
                have q4 := (hb5.cell (p := ⟨b, off + k * 6 + 4, none⟩) hbl).trans q4
                have q5 := (hb5.cell (p := ⟨b, off + k * 6 + 5, none⟩) hbl).trans q5
                have hbl := Nat.lt_of_lt_of_le hbl hb5.size
                clear hb5 h1 h2
                go_wp2_with fail
                refine (take_any B s ⟨kind, a, i, 0, 0, n, tok⟩ _ h5.here hok hk0 hk1).mono ?_
                rintro e w6 ⟨rfl, hA6, hK6⟩
                have h6 := h5.ours hA6 hK6
                have c6 := c5.beside hK6 (Ne.symm nBD) (Ne.symm nBE) h5.ownB
                have q0 := (hK6.cell (p := ⟨b, off + k * 6, none⟩) hbl nbB).trans q0
                have q1 := (hK6.cell (p := ⟨b, off + k * 6 + 1, none⟩) hbl nbB).trans q1
                have q2 := (hK6.cell (p := ⟨b, off + k * 6 + 2, none⟩) hbl nbB).trans q2
                have q3 := (hK6.cell (p := ⟨b, off + k * 6 + 3, none⟩) hbl nbB).trans q3
                have q4 := (hK6.cell (p := ⟨b, off + k * 6 + 4, none⟩) hbl nbB).trans q4
                have q5 := (hK6.cell (p := ⟨b, off + k * 6 + 5, none⟩) hbl nbB).trans q5
                have hbl := Nat.lt_of_lt_of_le hbl hK6.size
                clear hA6 hK6 h5 c5
                have HRT := fun (v : World) (h : Rf C s v) => rtake_any C s ⟨kind, a, i, 0, 0, n, tok⟩ v h hok
                generalize s.take ⟨kind, a, i, 0, 0, n, tok⟩ = r at h6 J5 HRT ⊢
                obtain ⟨st, fr, is, err⟩ := r
                obtain ⟨k1, k2, k3, k4, k5, k6, k7⟩ := fr
                simp only [Ans.val, Fr.val, Fr.cells] at HRT ⊢
                simp only at h6 J5
                have HR := Lib.hid HRT
                clear HRT
                go_wp2_with fail
                refine (frame14 what a i kind n tok _).mono ?_
                rintro e w7 ⟨rfl, hb7⟩
                have h7 := (h6.alloc _).kept hb7
                have c7 := (c6.alloc _).kept hb7
                have p0 := fun (o : Nat) => hb7.cell (p := ⟨w6.heap.size, o, none⟩) (by simp)
                have e0 : w7.cell? ⟨w6.heap.size, 0, none⟩ = some (.int .u8 k1) := (p0 0).trans (by simp)
                have e1 : w7.cell? ⟨w6.heap.size, 1, none⟩ = some (.int .i64 k2) := (p0 1).trans (by simp)
                have e2 : w7.cell? ⟨w6.heap.size, 2, none⟩ = some (.int .i64 k3) := (p0 2).trans (by simp)
                have e3 : w7.cell? ⟨w6.heap.size, 3, none⟩ = some (.int .i64 k4) := (p0 3).trans (by simp)
                have e4 : w7.cell? ⟨w6.heap.size, 4, none⟩ = some (.int .i64 k5) := (p0 4).trans (by simp)
                have e5 : w7.cell? ⟨w6.heap.size, 5, none⟩ = some (.int .i64 k6) := (p0 5).trans (by simp)
                have e6 : w7.cell? ⟨w6.heap.size, 6, none⟩ = some (.int .i64 k7) := (p0 6).trans (by simp)
                have e7 : w7.cell? ⟨w6.heap.size, 7, none⟩ = some (.int .i64 0) := (p0 7).trans (by simp)
                have e8 : w7.cell? ⟨w6.heap.size, 8, none⟩ = some (.int .i64 0) := (p0 8).trans (by simp)
                have e9 : w7.cell? ⟨w6.heap.size, 9, none⟩ = some (.slice none 0 0) := (p0 9).trans (by simp)
                have e10 : w7.cell? ⟨w6.heap.size, 10, none⟩ = some (.slice none 0 0) := (p0 10).trans (by simp)
                have e11 : w7.cell? ⟨w6.heap.size, 11, none⟩ = some (.slice none 0 0) := (p0 11).trans (by simp)
                have e12 : w7.cell? ⟨w6.heap.size, 12, none⟩ = some (.slice none 0 0) := (p0 12).trans (by simp)
                have e13 : w7.cell? ⟨w6.heap.size, 13, none⟩ = some (.slice none 0 0) := (p0 13).trans (by simp)
                have hg7 : w6.heap.size < w7.heap.size := Nat.lt_of_lt_of_le (by simp) hb7.size
                have hCn : w6.heap.size ≠ C := by have := h6.doc.lt; omega
                clear hb7 p0 q0 q1 q2 q3 q4 q5 hbl h6 c6
                go_wp2_with fail
                refine (HR.out _ h7.doc).mono ?_
                rintro e w8 ⟨rfl, hA8, hK8⟩
                have h8 := h7.docs hA8 hK8
                have c8 := c7.beside hK8 (Ne.symm nCD) (Ne.symm nCE) h7.ownC
                have e0 := (hK8.cell (p := ⟨w6.heap.size, 0, none⟩) hg7 hCn).trans e0
                have e1 := (hK8.cell (p := ⟨w6.heap.size, 1, none⟩) hg7 hCn).trans e1
                have e2 := (hK8.cell (p := ⟨w6.heap.size, 2, none⟩) hg7 hCn).trans e2
                have e3 := (hK8.cell (p := ⟨w6.heap.size, 3, none⟩) hg7 hCn).trans e3
                have e4 := (hK8.cell (p := ⟨w6.heap.size, 4, none⟩) hg7 hCn).trans e4
                have e5 := (hK8.cell (p := ⟨w6.heap.size, 5, none⟩) hg7 hCn).trans e5
                have e6 := (hK8.cell (p := ⟨w6.heap.size, 6, none⟩) hg7 hCn).trans e6
                have e7 := (hK8.cell (p := ⟨w6.heap.size, 7, none⟩) hg7 hCn).trans e7
                have e8 := (hK8.cell (p := ⟨w6.heap.size, 8, none⟩) hg7 hCn).trans e8
                have e9 := (hK8.cell (p := ⟨w6.heap.size, 9, none⟩) hg7 hCn).trans e9
                have e10 := (hK8.cell (p := ⟨w6.heap.size, 10, none⟩) hg7 hCn).trans e10
                have e11 := (hK8.cell (p := ⟨w6.heap.size, 11, none⟩) hg7 hCn).trans e11
                have e12 := (hK8.cell (p := ⟨w6.heap.size, 12, none⟩) hg7 hCn).trans e12
                have e13 := (hK8.cell (p := ⟨w6.heap.size, 13, none⟩) hg7 hCn).trans e13
                have hg8 := Nat.lt_of_lt_of_le hg7 hK8.size
                clear hA8 hK8 h7 c7 hg7 hCn
                go_wp2_with fail
                refine (same_any ⟨k1, k2, k3, k4, k5, k6, k7⟩ _).mono ?_
                rintro e w9 ⟨rfl, hb9⟩
                have h9 := (h8.alloc _).kept hb9
                have c9 := (c8.alloc _).kept hb9
                clear hb9 h8 c8 e0 e1 e2 e3 e4 e5 e6 e7 e8 e9 e10 e11 e12 e13
                go_wp2_with fail
                go_meet
                case rel => exact ⟨st, h9, c9, J5⟩
          case rest =>
            clear h1 h2 q0 q1 q2 q3 q4 q5 hbl
            obtain ⟨s', h1, h2, J'⟩ := hcut
            clear hok
            go_wp2_with fail
            refine (holds15 B s' _ h1.here).mono ?_
            rintro e w5 ⟨rfl, hb5⟩
            have h5 := h1.kept hb5
            have c5 := h2.kept hb5
            clear hb5 h1 h2
            go_wp2_with fail
            refine (holds24 C s' _ (h5.alloc _).doc).mono ?_
            rintro e w6 ⟨rfl, hb6⟩
            have h6 := (h5.alloc (.cells #[.int .i64 s'.hA, .int .i64 s'.hI] 39)).kept hb6
            have c6 := (c5.alloc (.cells #[.int .i64 s'.hA, .int .i64 s'.hI] 39)).kept hb6
            have x0 : w6.cell? ⟨w5.heap.size, 0, none⟩ = some (.int .i64 s'.hA) := (hb6.cell (p := ⟨w5.heap.size, 0, none⟩) (by simp)).trans (by simp)
            have x1 : w6.cell? ⟨w5.heap.size, 1, none⟩ = some (.int .i64 s'.hI) := (hb6.cell (p := ⟨w5.heap.size, 1, none⟩) (by simp)).trans (by simp)
            have lx : w5.heap.size < w6.heap.size := Nat.lt_of_lt_of_le (by simp) hb6.size
            clear hb6 h5 c5
            go_wp2_with fail
            refine (holds15 D s _ (c6.alloc _).here).mono ?_
            rintro e w7 ⟨rfl, hb7⟩
            have h7 := (h6.alloc (.cells #[.int .i64 s'.hA, .int .i64 s'.hI] 39)).kept hb7
            have c7 := (c6.alloc (.cells #[.int .i64 s'.hA, .int .i64 s'.hI] 39)).kept hb7
            have y0 : w7.cell? ⟨w6.heap.size, 0, none⟩ = some (.int .i64 s'.hA) := (hb7.cell (p := ⟨w6.heap.size, 0, none⟩) (by simp)).trans (by simp)
            have y1 : w7.cell? ⟨w6.heap.size, 1, none⟩ = some (.int .i64 s'.hI) := (hb7.cell (p := ⟨w6.heap.size, 1, none⟩) (by simp)).trans (by simp)
            have x0 := (hb7.cell (p := ⟨w5.heap.size, 0, none⟩) (by simp; omega)).trans ((pastA _ lx).trans x0)
            have x1 := (hb7.cell (p := ⟨w5.heap.size, 1, none⟩) (by simp; omega)).trans ((pastA _ lx).trans x1)
            have ly : w6.heap.size < w7.heap.size := Nat.lt_of_lt_of_le (by simp) hb7.size
            have lx : w5.heap.size < w7.heap.size := by omega
            clear hb7 h6 c6
            go_wp2_with fail
            refine (holds24 E s _ (c7.alloc _).doc).mono ?_
            rintro e w8 ⟨rfl, hb8⟩
            have h8 := (h7.alloc (.cells #[.int .i64 s.hA, .int .i64 s.hI] 39)).kept hb8
            have c8 := (c7.alloc (.cells #[.int .i64 s.hA, .int .i64 s.hI] 39)).kept hb8
            have z0 : w8.cell? ⟨w7.heap.size, 0, none⟩ = some (.int .i64 s.hA) := (hb8.cell (p := ⟨w7.heap.size, 0, none⟩) (by simp)).trans (by simp)
            have z1 : w8.cell? ⟨w7.heap.size, 1, none⟩ = some (.int .i64 s.hI) := (hb8.cell (p := ⟨w7.heap.size, 1, none⟩) (by simp)).trans (by simp)
            have x0 := (hb8.cell (p := ⟨w5.heap.size, 0, none⟩) (by simp; omega)).trans ((pastA _ lx).trans x0)
            have x1 := (hb8.cell (p := ⟨w5.heap.size, 1, none⟩) (by simp; omega)).trans ((pastA _ lx).trans x1)
            have y0 := (hb8.cell (p := ⟨w6.heap.size, 0, none⟩) (by simp; omega)).trans ((pastA _ ly).trans y0)
            have y1 := (hb8.cell (p := ⟨w6.heap.size, 1, none⟩) (by simp; omega)).trans ((pastA _ ly).trans y1)
            have lz : w7.heap.size < w8.heap.size := Nat.lt_of_lt_of_le (by simp) hb8.size
            have lx : w5.heap.size < w8.heap.size := by omega
            have ly : w6.heap.size < w8.heap.size := by omega
            clear hb8 h7 c7
            obtain ⟨hA, hhA⟩ : ∃ x, x = s'.hA := ⟨_, rfl⟩
            obtain ⟨hI, hhI⟩ : ∃ x, x = s'.hI := ⟨_, rfl⟩
            obtain ⟨hB, hhB⟩ : ∃ x, x = s'.hB := ⟨_, rfl⟩
            obtain ⟨gA, hgA⟩ : ∃ x, x = s.hA := ⟨_, rfl⟩
            obtain ⟨gI, hgI⟩ : ∃ x, x = s.hI := ⟨_, rfl⟩
            obtain ⟨gB, hgB⟩ : ∃ x, x = s.hB := ⟨_, rfl⟩
            rw [← hhA] at x0 y0
            rw [← hhI] at x1 y1
            rw [← hgA] at z0
            rw [← hgI] at z1
            rw [← hhA, ← hhI, ← hhB, ← hgA, ← hgI, ← hgB]
            clear hhA hhI hhB hgA hgI hgB
            go_wp2_with fail
            have h9 := h8.alloc (.cells #[.int .i64 gA, .int .i64 gI] 39)
            have c9 := c8.alloc (.cells #[.int .i64 gA, .int .i64 gI] 39)
            have u0 : (w8.alloc (.cells #[.int .i64 gA, .int .i64 gI] 39)).cell? ⟨w8.heap.size, 0, none⟩ = some (.int .i64 gA) := by simp
            have u1 : (w8.alloc (.cells #[.int .i64 gA, .int .i64 gI] 39)).cell? ⟨w8.heap.size, 1, none⟩ = some (.int .i64 gI) := by simp
            have x0 := (pastA (.cells #[.int .i64 gA, .int .i64 gI] 39) lx).trans x0
            have x1 := (pastA (.cells #[.int .i64 gA, .int .i64 gI] 39) lx).trans x1
            have y0 := (pastA (.cells #[.int .i64 gA, .int .i64 gI] 39) ly).trans y0
            have y1 := (pastA (.cells #[.int .i64 gA, .int .i64 gI] 39) ly).trans y1
            have z0 := (pastA (.cells #[.int .i64 gA, .int .i64 gI] 39) lz).trans z0
            have z1 := (pastA (.cells #[.int .i64 gA, .int .i64 gI] 39) lz).trans z1
            clear h8 c8 lx ly lz
            generalize w8.alloc (.cells #[.int .i64 gA, .int .i64 gI] 39) = Y at *
            generalize w8.heap.size = m8 at *
            generalize w7.heap.size = m7 at *
            generalize w6.heap.size = m6 at *
            generalize w5.heap.size = m5 at *
            obtain ⟨-, -, k2, -⟩ := h9.doc.reads
            obtain ⟨-, -, j2, -⟩ := c9.doc.reads
            have hT1 := token_any B s' Y.drew h9.drew.here
            have hT2 := token_any D s Y.drew c9.drew.here
            obtain ⟨tk, htk⟩ : ∃ x, x = s'.token := ⟨_, rfl⟩
            obtain ⟨tj, htj⟩ : ∃ x, x = s.token := ⟨_, rfl⟩
            rw [← htk] at k2 hT1
            rw [← htj] at j2 hT2
            clear htk htj
            have HX := Lib.hid (And.intro h9 (And.intro c9 J'))
            clear h9 c9 J'
            go_region_held3 (fun v => v.cell? ⟨m5, 0, none⟩ = some (.int .i64 hA) ∧ v.cell? ⟨m5, 1, none⟩ = some (.int .i64 hI) ∧ v.cell? ⟨m6, 0, none⟩ = some (.int .i64 hA) ∧ v.cell? ⟨m6, 1, none⟩ = some (.int .i64 hI) ∧ v.cell? ⟨m7, 0, none⟩ = some (.int .i64 gA) ∧ v.cell? ⟨m7, 1, none⟩ = some (.int .i64 gI) ∧ v.cell? ⟨m8, 0, none⟩ = some (.int .i64 gA) ∧ v.cell? ⟨m8, 1, none⟩ = some (.int .i64 gI) ∧ v.cell? ⟨C, 2, none⟩ = some (.int .i64 tk) ∧ v.cell? ⟨E, 2, none⟩ = some (.int .i64 tj)) (go_keep)
              (first
                | (go_at_call 16; (with_reducible refine hT1.mono ?_); rintro e wt ⟨rfl, rfl⟩)
                | (go_at_call 16; (with_reducible refine hT2.mono ?_); rintro e wt ⟨rfl, rfl⟩))
            obtain ⟨h9, c9, J9⟩ := HX.out
            go_wp2_with fail
            go_roundw
            case rel => exact ⟨k + 1, s', by omega, by go_num, h9.drew, J9⟩
            case measure => simp only [intOf]; omega
        · go_wp2_with fail
          refine (awake_any _).mono ?_
          rintro e w3 ⟨rfl, hb3⟩
          have hb := then_below hD.below hb3
          go_wp2_with fail
          go_ret
          exact ⟨rfl, hb⟩
    · have hd : term < 1 ∨ 4096 < term := by omega
      clear ht
      go_enter Try.func5, Try.ntmps5
      go_wp2_with fail
      refine (new_no term W hd).mono ?_
      rintro e w1 ⟨rfl, rfl⟩
      go_wp2_with fail
      refine (rnew_no term _ hd).mono ?_
      rintro e w2 ⟨rfl, rfl⟩
      go_wp2_with fail
      refine (awake_any _).mono ?_
      rintro e w0 ⟨rfl, hb0⟩
      go_wp2_with fail
      go_ret
      exact ⟨rfl, hb0⟩
  · go_enter Try.func5, Try.ntmps5
    go_wp2_with fail
    refine (awake_any _).mono ?_
    rintro e w0 ⟨rfl, hb0⟩
    go_wp2_with fail
    go_ret
    exact ⟨rfl, hb0⟩
end Go.Proofs.Ytjjbfmaldhlenaa
