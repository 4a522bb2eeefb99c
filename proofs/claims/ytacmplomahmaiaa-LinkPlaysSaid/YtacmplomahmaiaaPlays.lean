/-
  The walk of the law LinkPlays.
-/
import Derived.Test.YtacmplomahmaiaaTwo
namespace Go.Proofs.Ytacmplomahmaiaa
open Go.RowKit Go.Maps
set_option linter.unusedVariables false
set_option linter.unusedSimpArgs false
attribute [local go_sem ↓] Go.wp_at_zero Go.wp_at_succ
theorem take_lit2 {B M n : Nat} {g : Int → Peer} {W w : World} (kind fa fi ta ti n' ma mi : Int) (h : Hs B M n g W w) (hn : n ≤ 1000) (ha : inI64 fa) :
    Calls Try.prog 11 #[.pointer (some ⟨B, 0, none⟩), .agg #[.int .u8 kind, .int .i64 fa, .int .i64 fi, .int .i64 ta, .int .i64 ti, .int .i64 n', .int .i64 0, .int .i64 0, .int .i64 0, .slice none 0 0, .slice none 0 0, .slice none 0 0, .slice none 0 0, .slice none 0 0], .agg #[.int .i64 ma, .int .i64 mi]] w fun e w' =>
      e = .returned (.int .i64 (takeE g ⟨kind, fa, fi, ta, ti, n', 0⟩ ma mi)) ∧ Hs B M (n + 1) (takeF g ⟨kind, fa, fi, ta, ti, n', 0⟩ ma mi) W w' ∧ Keep M w w' := take_of ⟨kind, fa, fi, ta, ti, n', 0⟩ ma mi h hn ha
set_option maxRecDepth 100000 in
set_option maxHeartbeats 16000000 in
theorem plays_walk (ma mi : Int) (oa : Option Addr) (cap : Nat) (l : List Step) (W : World) (hl : Step.Holds W (.slice oa l.length cap) l) :
    Calls Try.prog 5 #[.agg #[.int .i64 ma, .int .i64 mi], .slice oa l.length cap] W fun e w' => e = .returned (.bool true) ∧ Below W.heap.size W w' := by
  have hBW : Below W.heap.size W (W.alloc (.cells #[.int .i64 ma, .int .i64 mi] 23)) := (Below.refl _ W).alloc (Nat.le_refl _) _
  have hl1 := hl.below hBW
  have hm0 : (W.alloc (.cells #[.int .i64 ma, .int .i64 mi] 23)).cell? ⟨W.heap.size, 0, none⟩ = some (.int .i64 ma) := by simp
  have hm1 : (W.alloc (.cells #[.int .i64 ma, .int .i64 mi] 23)).cell? ⟨W.heap.size, 1, none⟩ = some (.int .i64 mi) := by simp
  have hms : W.heap.size < (W.alloc (.cells #[.int .i64 ma, .int .i64 mi] 23)).heap.size := by simp
  by_cases hn : l.length ≤ 200
  · clear hl
    go_enter Try.func5, Try.ntmps5
    go_wp2_with fail
    generalize W.alloc (.cells #[.int .i64 ma, .int .i64 mi] 23) = W1 at hBW hl1 hm0 hm1 hms ⊢
    refine (new_of (Below.refl _ W1)).mono ?_
    rintro e w1 ⟨B, M, rfl, h1, -⟩
    go_wp2_with fail
    refine (rnew_any w1).mono ?_
    rintro e w2 ⟨rfl, hr, hb⟩
    have HT0 : Hid (Two B M w1.heap.size 0 (fun _ => .zero) W1 w2) := Lib.hid ⟨h1.kept hb, hr, by have := h1.lk.lt; omega, by have := h1.lk.knows.lt; omega, h1.below.size, fun _ _ => rfl⟩
    generalize w1.heap.size = R at HT0 ⊢
    clear h1 hb hr
    go_wp2_with fail
    go_loopw [7, 8, 9, 10, 11] (fun x _ _ _ _ wr => ∃ (k : Nat) (g : Int → Peer), k ≤ l.length ∧ x = .int .i64 k ∧ Hid (Two B M R k g W1 wr)) (fun x _ _ _ _ _ => l.length - (intOf x).toNat)
    case atStart => exact ⟨0, _, by omega, rfl, HT0⟩
    case round =>
      clear HT0
      obtain ⟨k, g, hk, rfl, HT⟩ := hrel
      by_cases hlt : k < l.length
      · obtain ⟨b, off, rfl, hbl, hx, q0, q1, q2, q3, q4, q5, q6⟩ := hl1.at_ hlt
        have hbt := HT.out.hs.below
        have hMB := HT.out.hs.lk.lt
        have hMM := HT.out.hs.lk.knows.lt
        have hRR := HT.out.rl.lt
        have hoM := HT.out.hs.ownM
        have hoB := HT.out.hs.ownB
        have hoR := HT.out.rW
        obtain ⟨xs, hxs⟩ : ∃ xs, xs = l[k] := ⟨_, rfl⟩
        rw [← hxs] at hx q0 q1 q2 q3 q4 q5 q6
        have HXS := Lib.hid hxs
        clear hxs
        obtain ⟨fence, kind, fa, fi, ta, ti, fn⟩ := xs
        simp only at q0 q1 q2 q3 q4 q5 q6
        have hfa : inI64 fa := ⟨hx.fa0, hx.fa1⟩
        go_wp2_with fail
        refine (copy_any B M k g wr HT.out.hs.lk).mono ?_
        rintro e w3 ⟨rfl, hc, hb3⟩
        have HT3 := HT.out.kept hb3
        go_wp2_with fail
        refine (rcopy_any R g w3 HT3.rl).mono ?_
        rintro e w4 ⟨rfl, hd, hb4⟩
        have HT4 := HT3.kept hb4
        have hs43 : wr.heap.size ≤ w3.heap.size := hb3.size
        have hcl := hc.lt
        have hckl := hc.knows.lt
        have hWr : W1.heap.size ≤ wr.heap.size := hbt.size
        have HC4 : Hid (Two (wr.heap.size + 1) wr.heap.size w3.heap.size k g W1 w4) := Lib.hid ⟨⟨hc.kept hb4, by omega, by omega, HT4.hs.below⟩, hd, by omega, by omega, by omega, HT4.off⟩
        have fa1 : wr.heap.size + 1 ≠ M := by omega
        have fa2 : wr.heap.size ≠ M := by omega
        have fa3 : w3.heap.size ≠ M := by omega
        have fb1 : wr.heap.size + 1 ≠ R := by omega
        have fb2 : wr.heap.size ≠ R := by omega
        have fb3 : w3.heap.size ≠ R := by omega
        have qM : b ≠ M := by omega
        have qR : b ≠ R := by omega
        have mM : W.heap.size ≠ M := by omega
        have mR : W.heap.size ≠ R := by omega
        have rB := HT4.rB
        have rM := HT4.rM
        have hb1 := HT4.hs.below
        have qlt : b < w4.heap.size := Nat.lt_of_lt_of_le hbl hb1.size
        have mlt : W.heap.size < w4.heap.size := Nat.lt_of_lt_of_le hms hb1.size
        have m0 := (hb1.cell (p := ⟨W.heap.size, 0, none⟩) hms).trans hm0
        have m1 := (hb1.cell (p := ⟨W.heap.size, 1, none⟩) hms).trans hm1
        have HQ := Lib.hid (And.intro q0 (And.intro q1 (And.intro q2 (And.intro q3 (And.intro q4 (And.intro q5 q6))))))
        have q0 := (hb1.cell (p := ⟨b, off + k * 7, none⟩) hbl).trans q0
        have q1 := (hb1.cell (p := ⟨b, off + k * 7 + 1, none⟩) hbl).trans q1
        have q2 := (hb1.cell (p := ⟨b, off + k * 7 + 2, none⟩) hbl).trans q2
        have q3 := (hb1.cell (p := ⟨b, off + k * 7 + 3, none⟩) hbl).trans q3
        have q4 := (hb1.cell (p := ⟨b, off + k * 7 + 4, none⟩) hbl).trans q4
        have q5 := (hb1.cell (p := ⟨b, off + k * 7 + 5, none⟩) hbl).trans q5
        have q6 := (hb1.cell (p := ⟨b, off + k * 7 + 6, none⟩) hbl).trans q6
        have hs := HT4.hs
        have rl := HT4.rl
        have hoff := Lib.hid HT4.off
        have hBR : B ≠ R := fun e => rB e.symm
        have hMR : M ≠ R := fun e => rM e.symm
        clear HT3 HT4 hc hd hb3 hb4 hb1 hbt hMB hMM hRR hs43 hcl hckl
        generalize wr.heap.size + 1 = B2 at HC4 fa1 fb1 ⊢
        generalize wr.heap.size = M2 at HC4 fa2 fb2 hWr ⊢
        generalize w3.heap.size = R2 at HC4 fa3 fb3 ⊢
        clear hWr
        have HC := HC4.out
        clear HC4
        go_upto_if 32 with fail
        go_cut [7] (fun a7 wx => a7 = .int .i64 k ∧ Two B M R (k + 1) (stepF ma mi g ⟨fence, kind, fa, fi, ta, ti, fn⟩) W1 wx ∧ Two B2 M2 R2 k g W1 wx)
        case first =>
          cases fence
          · have HE : Hid (stepF ma mi g ⟨false, kind, fa, fi, ta, ti, fn⟩ = takeF g ⟨kind, fa, fi, ta, ti, fn, 0⟩ ma mi) := Lib.hid rfl
            have hs := hs.drew
            have rl := rl.drew
            have HC := HC.drew
            have q0 : w4.drew.cell? ⟨b, off + k * 7, none⟩ = _ := q0
            have q1 : w4.drew.cell? ⟨b, off + k * 7 + 1, none⟩ = _ := q1
            have q2 : w4.drew.cell? ⟨b, off + k * 7 + 2, none⟩ = _ := q2
            have q3 : w4.drew.cell? ⟨b, off + k * 7 + 3, none⟩ = _ := q3
            have q4 : w4.drew.cell? ⟨b, off + k * 7 + 4, none⟩ = _ := q4
            have q5 : w4.drew.cell? ⟨b, off + k * 7 + 5, none⟩ = _ := q5
            have q6 : w4.drew.cell? ⟨b, off + k * 7 + 6, none⟩ = _ := q6
            have m0 : w4.drew.cell? ⟨W.heap.size, 0, none⟩ = some (.int .i64 ma) := m0
            have m1 : w4.drew.cell? ⟨W.heap.size, 1, none⟩ = some (.int .i64 mi) := m1
            have qlt : b < w4.drew.heap.size := qlt
            have mlt : W.heap.size < w4.drew.heap.size := mlt
            go_upto_region 11 with fail
            go_region_held3 (fun v => v.cell? ⟨W.heap.size, 0, none⟩ = some (.int .i64 ma) ∧ v.cell? ⟨W.heap.size, 1, none⟩ = some (.int .i64 mi) ∧ v.cell? ⟨b, off + k * 7, none⟩ = some (.bool false) ∧ v.cell? ⟨b, off + k * 7 + 1, none⟩ = some (.int .u8 kind) ∧ v.cell? ⟨b, off + k * 7 + 2, none⟩ = some (.int .i64 fa) ∧ v.cell? ⟨b, off + k * 7 + 3, none⟩ = some (.int .i64 fi) ∧ v.cell? ⟨b, off + k * 7 + 4, none⟩ = some (.int .i64 ta) ∧ v.cell? ⟨b, off + k * 7 + 5, none⟩ = some (.int .i64 ti) ∧ v.cell? ⟨b, off + k * 7 + 6, none⟩ = some (.int .i64 fn)) (go_keep)
              (first
                | (go_at_call 10; (with_reducible refine (frame_any _ _ _ _ _ _ _ _).mono ?_); rintro e wb ⟨rfl, hbb⟩; have hs := hs.kept hbb; have rl := rl.kept hbb; have HC := HC.kept hbb; have q0 := (hbb.cell (p := ⟨b, off + k * 7, none⟩) qlt).trans q0; have q1 := (hbb.cell (p := ⟨b, off + k * 7 + 1, none⟩) qlt).trans q1; have q2 := (hbb.cell (p := ⟨b, off + k * 7 + 2, none⟩) qlt).trans q2; have q3 := (hbb.cell (p := ⟨b, off + k * 7 + 3, none⟩) qlt).trans q3; have q4 := (hbb.cell (p := ⟨b, off + k * 7 + 4, none⟩) qlt).trans q4; have q5 := (hbb.cell (p := ⟨b, off + k * 7 + 5, none⟩) qlt).trans q5; have q6 := (hbb.cell (p := ⟨b, off + k * 7 + 6, none⟩) qlt).trans q6; have qlt := Nat.lt_of_lt_of_le qlt hbb.size; have m0 := (hbb.cell (p := ⟨W.heap.size, 0, none⟩) mlt).trans m0; have m1 := (hbb.cell (p := ⟨W.heap.size, 1, none⟩) mlt).trans m1; have mlt := Nat.lt_of_lt_of_le mlt hbb.size; clear hbb; simp only [Fr.val, Fr.cells])
                | (go_at_call 11; (with_reducible refine (take_lit2 kind fa fi ta ti fn ma mi hs (by omega) hfa).mono ?_); rintro e wt ⟨rfl, hLt, hKt⟩; have hs := hLt; have rl := rl.keepK hKt rM; have HC := HC.other hKt fa1 fa2 fa3 hoM; have q0 := (hKt.cell (p := ⟨b, off + k * 7, none⟩) qlt qM).trans q0; have q1 := (hKt.cell (p := ⟨b, off + k * 7 + 1, none⟩) qlt qM).trans q1; have q2 := (hKt.cell (p := ⟨b, off + k * 7 + 2, none⟩) qlt qM).trans q2; have q3 := (hKt.cell (p := ⟨b, off + k * 7 + 3, none⟩) qlt qM).trans q3; have q4 := (hKt.cell (p := ⟨b, off + k * 7 + 4, none⟩) qlt qM).trans q4; have q5 := (hKt.cell (p := ⟨b, off + k * 7 + 5, none⟩) qlt qM).trans q5; have q6 := (hKt.cell (p := ⟨b, off + k * 7 + 6, none⟩) qlt qM).trans q6; have qlt := Nat.lt_of_lt_of_le qlt hKt.size; have m0 := (hKt.cell (p := ⟨W.heap.size, 0, none⟩) mlt mM).trans m0; have m1 := (hKt.cell (p := ⟨W.heap.size, 1, none⟩) mlt mM).trans m1; have mlt := Nat.lt_of_lt_of_le mlt hKt.size; clear hKt hLt)
                | (go_at_call 21; (with_reducible refine (rtake_any R g kind fa fi ta ti fn 0 ma mi _ rl).mono ?_); rintro e wt ⟨rfl, hLt, hKt⟩; have rl := hLt; have hs := hs.keepR hKt hBR hMR hoR; have HC := HC.other hKt fb1 fb2 fb3 hoR; have q0 := (hKt.cell (p := ⟨b, off + k * 7, none⟩) qlt qR).trans q0; have q1 := (hKt.cell (p := ⟨b, off + k * 7 + 1, none⟩) qlt qR).trans q1; have q2 := (hKt.cell (p := ⟨b, off + k * 7 + 2, none⟩) qlt qR).trans q2; have q3 := (hKt.cell (p := ⟨b, off + k * 7 + 3, none⟩) qlt qR).trans q3; have q4 := (hKt.cell (p := ⟨b, off + k * 7 + 4, none⟩) qlt qR).trans q4; have q5 := (hKt.cell (p := ⟨b, off + k * 7 + 5, none⟩) qlt qR).trans q5; have q6 := (hKt.cell (p := ⟨b, off + k * 7 + 6, none⟩) qlt qR).trans q6; have qlt := Nat.lt_of_lt_of_le qlt hKt.size; have m0 := (hKt.cell (p := ⟨W.heap.size, 0, none⟩) mlt mR).trans m0; have m1 := (hKt.cell (p := ⟨W.heap.size, 1, none⟩) mlt mR).trans m1; have mlt := Nat.lt_of_lt_of_le mlt hKt.size; clear hKt hLt))
            go_wp2_with fail
            go_meet
            case rel => exact ⟨rfl, by rw [HE.out]; exact ⟨hs, rl, rB, rM, hoR, hoff.out.take _ _ _⟩, HC⟩
          · have HE : Hid (stepF ma mi g ⟨true, kind, fa, fi, ta, ti, fn⟩ = fenceF g fa fi) := Lib.hid rfl
            have hs := hs.drew
            have rl := rl.drew
            have HC := HC.drew
            have q2 : w4.drew.cell? ⟨b, off + k * 7 + 2, none⟩ = _ := q2
            have q3 : w4.drew.cell? ⟨b, off + k * 7 + 3, none⟩ = _ := q3
            have qlt : b < w4.drew.heap.size := qlt
            go_upto_region 9 with fail
            go_region_held3 (fun v => v.cell? ⟨b, off + k * 7 + 2, none⟩ = some (.int .i64 fa) ∧ v.cell? ⟨b, off + k * 7 + 3, none⟩ = some (.int .i64 fi)) (go_keep)
              (first
                | (go_at_call 12; (with_reducible refine (fence_of fa fi hs (by omega) hfa).mono ?_); rintro e wt ⟨rfl, hLt, hKt⟩; have hs := hLt; have rl := rl.keepK hKt rM; have HC := HC.other hKt fa1 fa2 fa3 hoM; have q2 := (hKt.cell (p := ⟨b, off + k * 7 + 2, none⟩) qlt qM).trans q2; have q3 := (hKt.cell (p := ⟨b, off + k * 7 + 3, none⟩) qlt qM).trans q3; have qlt := Nat.lt_of_lt_of_le qlt hKt.size; clear hKt hLt)
                | (go_at_call 20; (with_reducible refine (rfence_any R g fa fi _ rl).mono ?_); rintro e wt ⟨rfl, hLt, hKt⟩; have rl := hLt; have hs := hs.keepR hKt hBR hMR hoR; have HC := HC.other hKt fb1 fb2 fb3 hoR; have q2 := (hKt.cell (p := ⟨b, off + k * 7 + 2, none⟩) qlt qR).trans q2; have q3 := (hKt.cell (p := ⟨b, off + k * 7 + 3, none⟩) qlt qR).trans q3; have qlt := Nat.lt_of_lt_of_le qlt hKt.size; clear hKt hLt))
            go_wp2_with fail
            go_meet
            case rel => exact ⟨rfl, by rw [HE.out]; exact ⟨hs, rl, rB, rM, hoR, hoff.out.fence _ _⟩, HC⟩
        case rest =>
          obtain ⟨rfl, HT5, HC5⟩ := hcut
          clear hs rl HC hoff q0 q1 q2 q3 q4 q5 q6 m0 m1 qlt mlt
          generalize stepF ma mi g ⟨fence, kind, fa, fi, ta, ti, fn⟩ = g5 at HT5
          have HT5 := Lib.hid HT5
          have HC5 := Lib.hid HC5
          go_wp2_with fail
          obtain ⟨wo, rfl⟩ : ∃ wo : World, wo = wr := ⟨_, rfl⟩
          go_loopw [10, 11] (fun x _ wr => ∃ j : Nat, j ≤ 5 ∧ j ≤ k + 1 ∧ x = .int .i64 j ∧ Hid (Two B M R (k + 1) g5 W1 wr) ∧ Hid (Two B2 M2 R2 k g W1 wr)) (fun x _ _ => 5 - (intOf x).toNat)
          case atStart => exact ⟨0, by omega, by omega, rfl, HT5, HC5⟩
          case round =>
            clear HT5 HC5
            obtain ⟨j, hj5, hjk, rfl, HT, HC⟩ := hrel
            by_cases hj1 : j ≤ k
            · by_cases hj2 : j < 5
              · obtain ⟨u, hu⟩ : ∃ u : Nat, (k : Int) - j = u := ⟨k - j, by omega⟩
                have hul : u < l.length := by omega
                have hll := hl1
                obtain ⟨b9, off9, he9, hbl9, hx9, -, -, p2, p3, -, -, -⟩ := hll.at_ hul
                simp only [Option.some.injEq, Addr.mk.injEq, and_true] at he9
                obtain ⟨rfl, rfl⟩ := he9
                have hfa9 : inI64 l[u].fa := ⟨hx9.fa0, hx9.fa1⟩
                generalize l[u].fa = f9 at p2 hfa9
                generalize l[u].fi = i9 at p3
                clear hx9 hll
                have p2 := (HT.out.hs.below.cell (p := ⟨b, off + u * 7 + 2, none⟩) hbl).trans p2
                have p3 := (HT.out.hs.below.cell (p := ⟨b, off + u * 7 + 3, none⟩) hbl).trans p3
                have hu0 : (0 : Int) ≤ (u : Int) := by omega
                have hul2 : (u : Int) < (l.length : Int) := by omega
                go_upto_region 17 with fail
                have HT := (HT.out.alloc (.cells #[.int .i64 f9, .int .i64 i9] 23)).drew
                have HC := (HC.out.alloc (.cells #[.int .i64 f9, .int .i64 i9] 23)).drew
                obtain ⟨Qn, hQ⟩ : ∃ Qn, Qn = wr.heap.size := ⟨_, rfl⟩
                have z0 : ((wr.alloc (.cells #[.int .i64 f9, .int .i64 i9] 23)).drew).cell? ⟨Qn, 0, none⟩ = some (.int .i64 f9) := by rw [hQ]; simp
                have z1 : ((wr.alloc (.cells #[.int .i64 f9, .int .i64 i9] 23)).drew).cell? ⟨Qn, 1, none⟩ = some (.int .i64 i9) := by rw [hQ]; simp
                have hql : Qn < ((wr.alloc (.cells #[.int .i64 f9, .int .i64 i9] 23)).drew).heap.size := by rw [hQ]; simp
                rw [← hQ]
                clear hQ p2 p3
                have hz5 : Hid (¬ (1 ≤ f9 ∧ f9 ≤ 12) → (g5 f9).newest = 0) := Lib.hid (fun h => by rw [HT.off f9 h]; rfl)
                have hz : Hid (¬ (1 ≤ f9 ∧ f9 ≤ 12) → (g f9).newest = 0) := Lib.hid (fun h => by rw [HC.off f9 h]; rfl)
                go_region_held3 (fun v => v.cell? ⟨Qn, 0, none⟩ = some (.int .i64 f9) ∧ v.cell? ⟨Qn, 1, none⟩ = some (.int .i64 i9)) (go_keep)
                  (first
                    | (go_at_call 15; (with_reducible refine (fenced_any B M _ g5 f9 i9 _ HT.hs.lk hfa9).mono ?_); rintro e wf ⟨rfl, hbf⟩; have HT := HT.kept hbf; have HC := HC.kept hbf; have z0 := (hbf.cell (p := ⟨Qn, 0, none⟩) hql).trans z0; have z1 := (hbf.cell (p := ⟨Qn, 1, none⟩) hql).trans z1; have hql := Nat.lt_of_lt_of_le hql hbf.size; clear hbf)
                    | (go_at_call 15; (with_reducible refine (fenced_any B2 M2 _ g f9 i9 _ HC.hs.lk hfa9).mono ?_); rintro e wf ⟨rfl, hbf⟩; have HT := HT.kept hbf; have HC := HC.kept hbf; have z0 := (hbf.cell (p := ⟨Qn, 0, none⟩) hql).trans z0; have z1 := (hbf.cell (p := ⟨Qn, 1, none⟩) hql).trans z1; have hql := Nat.lt_of_lt_of_le hql hbf.size; clear hbf)
                    | (go_at_call 22; (with_reducible refine (rfenced_any R g5 f9 i9 _ HT.rl).mono ?_); rintro e wf ⟨rfl, hbf⟩; have HT := HT.kept hbf; have HC := HC.kept hbf; have z0 := (hbf.cell (p := ⟨Qn, 0, none⟩) hql).trans z0; have z1 := (hbf.cell (p := ⟨Qn, 1, none⟩) hql).trans z1; have hql := Nat.lt_of_lt_of_le hql hbf.size; clear hbf)
                    | (go_at_call 22; (with_reducible refine (rfenced_any R2 g f9 i9 _ HC.rl).mono ?_); rintro e wf ⟨rfl, hbf⟩; have HT := HT.kept hbf; have HC := HC.kept hbf; have z0 := (hbf.cell (p := ⟨Qn, 0, none⟩) hql).trans z0; have z1 := (hbf.cell (p := ⟨Qn, 1, none⟩) hql).trans z1; have hql := Nat.lt_of_lt_of_le hql hbf.size; clear hbf)
                    | (go_at_call 13; (with_reducible refine (newest_any B M _ g5 f9 _ HT.hs.lk hfa9).mono ?_); rintro e wn ⟨rfl, rfl⟩)
                    | (go_at_call 13; (with_reducible refine (newest_any B2 M2 _ g f9 _ HC.hs.lk hfa9).mono ?_); rintro e wn ⟨rfl, rfl⟩)
                    | (go_at_call 23; (with_reducible refine (rnewest_any R g5 f9 _ HT.rl hz5.out).mono ?_); rintro e wn ⟨rfl, rfl⟩)
                    | (go_at_call 23; (with_reducible refine (rnewest_any R2 g f9 _ HC.rl hz.out).mono ?_); rintro e wn ⟨rfl, rfl⟩))
                have HTf := Lib.hid HT
                have HCf := Lib.hid HC
                clear HT HC z0 z1 hql
                go_wp2_with fail
                go_roundw
                case rel => exact ⟨j + 1, by omega, by omega, by go_num, HTf, HCf⟩
                case measure => simp only [intOf]; omega
              · go_wp2_with fail
                go_roundw
                case rel => exact ⟨k + 1, g5, by omega, by go_num, HT⟩
                case measure => simp only [intOf]; omega
            · go_wp2_with fail
              go_roundw
              case rel => exact ⟨k + 1, g5, by omega, by go_num, HT⟩
              case measure => simp only [intOf]; omega
      · go_wp2_with fail
        refine (awake_any _).mono ?_
        rintro e w9 ⟨rfl, hb9⟩
        go_wp2_with fail
        go_ret
        exact ⟨rfl, hBW.trans ((HT.out.hs.below.mono (Nat.le_of_lt hms)).trans (hb9.mono (by have := HT.out.hs.below.size; omega)))⟩
  · go_enter Try.func5, Try.ntmps5
    go_wp2_with fail
    refine (awake_any _).mono ?_
    rintro e w0 ⟨rfl, hb0⟩
    go_wp2_with fail
    go_ret
    exact ⟨rfl, then_below hBW hb0⟩
end Go.Proofs.Ytacmplomahmaiaa
