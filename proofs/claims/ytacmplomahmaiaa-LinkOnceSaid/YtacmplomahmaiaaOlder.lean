/-
  The walk of the law LinkOlder.
-/
import Derived.Test.YtacmplomahmaiaaPlay
namespace Go.Proofs.Ytacmplomahmaiaa
open Go.RowKit Go.Maps
set_option linter.unusedVariables false
set_option linter.unusedSimpArgs false
attribute [local go_sem ↓] Go.wp_at_zero Go.wp_at_succ
theorem ite_min (a b : Int) : (if b < a then b else a) = min a b := by omega
attribute [local go_sem] ite_max ite_min
def stepE (ma mi : Int) (g : Int → Peer) (s : Step) : Int := if s.fence = true then fenceE s.fa s.fi else takeE g s.fr ma mi
set_option maxRecDepth 100000 in
set_option maxHeartbeats 8000000 in
theorem older_walk (ma mi : Int) (oa1 : Option Addr) (cap1 : Nat) (l1 : List Step) (fence : Bool) (kind fa fi ta ti fn : Int) (oa3 : Option Addr) (cap3 : Nat) (l3 : List Step) (inc : Int) (W : World)
    (hl1 : Step.Holds W (.slice oa1 l1.length cap1) l1) (hl3 : Step.Holds W (.slice oa3 l3.length cap3) l3) (hs : (Step.mk fence kind fa fi ta ti fn).Ok) (hp : inI64 inc) :
    Calls Try.prog 4 #[.agg #[.int .i64 ma, .int .i64 mi], .slice oa1 l1.length cap1, .agg #[.bool fence, .int .u8 kind, .int .i64 fa, .int .i64 fi, .int .i64 ta, .int .i64 ti, .int .i64 fn], .slice oa3 l3.length cap3, .int .i64 inc] W fun e w' => e = .returned (.bool true) ∧ Below W.heap.size W w' := by
  have hfa : inI64 fa := ⟨hs.fa0, hs.fa1⟩
  have HX : Hid ((((W.alloc (.cells #[.int .i64 ma, .int .i64 mi] 23)).alloc (.cells #[.bool fence, .int .u8 kind, .int .i64 fa, .int .i64 fi, .int .i64 ta, .int .i64 ti, .int .i64 fn] 26)).cell? ⟨W.heap.size, 0, none⟩ = some (.int .i64 ma)) ∧ (((W.alloc (.cells #[.int .i64 ma, .int .i64 mi] 23)).alloc (.cells #[.bool fence, .int .u8 kind, .int .i64 fa, .int .i64 fi, .int .i64 ta, .int .i64 ti, .int .i64 fn] 26)).cell? ⟨W.heap.size, 1, none⟩ = some (.int .i64 mi)) ∧ ∀ (j : Nat) (v : Value), #[Value.bool fence, .int .u8 kind, .int .i64 fa, .int .i64 fi, .int .i64 ta, .int .i64 ti, .int .i64 fn][j]? = some v → ((W.alloc (.cells #[.int .i64 ma, .int .i64 mi] 23)).alloc (.cells #[.bool fence, .int .u8 kind, .int .i64 fa, .int .i64 fi, .int .i64 ta, .int .i64 ti, .int .i64 fn] 26)).cell? ⟨W.heap.size + 1, j, none⟩ = some v) := Lib.hid
    ⟨by rw [cell_of_row _ _ _ _ _ _ (two W _ _ _ rfl).2]; rfl, by rw [cell_of_row _ _ _ _ _ _ (two W _ _ _ rfl).2]; rfl, fun j v hv => by rw [cell_of_row _ _ _ _ _ _ (two W _ _ _ rfl).1]; exact hv⟩
  have hW2 : Below W.heap.size W ((W.alloc (.cells #[.int .i64 ma, .int .i64 mi] 23)).alloc (.cells #[.bool fence, .int .u8 kind, .int .i64 fa, .int .i64 fi, .int .i64 ta, .int .i64 ti, .int .i64 fn] 26)) := ((Below.refl _ W).alloc (Nat.le_refl _) _).alloc (by simp) _
  have HL3 := Lib.hid hl3
  clear hl3
  by_cases h1 : l1.length ≤ 100
  · by_cases h3 : l3.length ≤ 100
    · go_enter Try.func4, Try.ntmps4
      go_wp2_with fail
      refine (awake_any _).mono ?_
      rintro e w0 ⟨rfl, hb0⟩
      have hcw := fun (b o : Nat) (h : b < _) => hb0.cell (p := ⟨b, o, none⟩) h
      go_wp2_with fail
      refine (play_any ma mi oa1 cap1 l1 w0 (hl1.below (then_below hW2 hb0)) h1).mono ?_
      rintro e w1 ⟨B, M, rfl, hL0⟩
      clear hcw
      have hL := hL0.base hb0
      clear hL0 hb0
      have hbel := hL.below
      have hmn : W.heap.size ≠ M := by have := hL.ownM; simp at this; omega
      have hsn : W.heap.size + 1 ≠ M := by have := hL.ownM; simp at this; omega
      generalize playF ma mi (fun _ => Peer.zero) l1 = G0 at hL ⊢
      have HL1 := Lib.hid hl1
      clear hl1
      generalize hG1 : stepF ma mi G0 ⟨fence, kind, fa, fi, ta, ti, fn⟩ = G1
      have hle : (G0 fa).newest ≤ (G1 fa).newest := by rw [← hG1]; exact (step_le ma mi G0 _ fa).new
      have HG1 := Lib.hid hG1
      clear hG1
      have m0 : w1.cell? ⟨W.heap.size, 0, none⟩ = some (.int .i64 ma) := (hbel.cell (p := ⟨W.heap.size, 0, none⟩) (by simp; omega)).trans (HX.out.1)
      have m1 : w1.cell? ⟨W.heap.size, 1, none⟩ = some (.int .i64 mi) := (hbel.cell (p := ⟨W.heap.size, 1, none⟩) (by simp; omega)).trans (HX.out.2.1)
      have q0 : w1.cell? ⟨W.heap.size + 1, 0, none⟩ = some (.bool fence) := (hbel.cell (p := ⟨W.heap.size + 1, 0, none⟩) (by simp)).trans (HX.out.2.2 0 _ rfl)
      have q1 : w1.cell? ⟨W.heap.size + 1, 1, none⟩ = some (.int .u8 kind) := (hbel.cell (p := ⟨W.heap.size + 1, 1, none⟩) (by simp)).trans (HX.out.2.2 1 _ rfl)
      have q2 : w1.cell? ⟨W.heap.size + 1, 2, none⟩ = some (.int .i64 fa) := (hbel.cell (p := ⟨W.heap.size + 1, 2, none⟩) (by simp)).trans (HX.out.2.2 2 _ rfl)
      have q3 : w1.cell? ⟨W.heap.size + 1, 3, none⟩ = some (.int .i64 fi) := (hbel.cell (p := ⟨W.heap.size + 1, 3, none⟩) (by simp)).trans (HX.out.2.2 3 _ rfl)
      have q4 : w1.cell? ⟨W.heap.size + 1, 4, none⟩ = some (.int .i64 ta) := (hbel.cell (p := ⟨W.heap.size + 1, 4, none⟩) (by simp)).trans (HX.out.2.2 4 _ rfl)
      have q5 : w1.cell? ⟨W.heap.size + 1, 5, none⟩ = some (.int .i64 ti) := (hbel.cell (p := ⟨W.heap.size + 1, 5, none⟩) (by simp)).trans (HX.out.2.2 5 _ rfl)
      have q6 : w1.cell? ⟨W.heap.size + 1, 6, none⟩ = some (.int .i64 fn) := (hbel.cell (p := ⟨W.heap.size + 1, 6, none⟩) (by simp)).trans (HX.out.2.2 6 _ rfl)
      have hml : W.heap.size < w1.heap.size := by have := hbel.size; simp at this; omega
      have qlt : W.heap.size + 1 < w1.heap.size := by have := hbel.size; simp at this; omega
      go_wp2_with fail
      refine (newest_any B M _ G0 fa _ hL.lk hfa).mono ?_
      rintro e wn ⟨rfl, rfl⟩
      go_upto_if 38 with fail
      go_cut [13] (fun v wx => v = .bool (stepE ma mi G0 ⟨fence, kind, fa, fi, ta, ti, fn⟩ == 0) ∧ Hs B M (l1.length + 1) G1 ((W.alloc (.cells #[.int .i64 ma, .int .i64 mi] 23)).alloc (.cells #[.bool fence, .int .u8 kind, .int .i64 fa, .int .i64 fi, .int .i64 ta, .int .i64 ti, .int .i64 fn] 26)) wx)
      case first =>
        cases fence
        · have hL := hL.drew
          have m0 : wn.drew.cell? ⟨W.heap.size, 0, none⟩ = some (.int .i64 ma) := m0
          have m1 : wn.drew.cell? ⟨W.heap.size, 1, none⟩ = some (.int .i64 mi) := m1
          have hml : W.heap.size < wn.drew.heap.size := hml
          have qlt : W.heap.size + 1 < wn.drew.heap.size := qlt
          have qne : W.heap.size + 1 ≠ M := hsn
          go_upto_region 8 with fail
          go_region_held3 (fun v => v.cell? ⟨W.heap.size, 0, none⟩ = some (.int .i64 ma) ∧ v.cell? ⟨W.heap.size, 1, none⟩ = some (.int .i64 mi) ∧ v.cell? ⟨W.heap.size + 1, 0, none⟩ = some (.bool false) ∧ v.cell? ⟨W.heap.size + 1, 1, none⟩ = some (.int .u8 kind) ∧ v.cell? ⟨W.heap.size + 1, 2, none⟩ = some (.int .i64 fa) ∧ v.cell? ⟨W.heap.size + 1, 3, none⟩ = some (.int .i64 fi) ∧ v.cell? ⟨W.heap.size + 1, 4, none⟩ = some (.int .i64 ta) ∧ v.cell? ⟨W.heap.size + 1, 5, none⟩ = some (.int .i64 ti) ∧ v.cell? ⟨W.heap.size + 1, 6, none⟩ = some (.int .i64 fn)) (go_keep)
            (first
              | (go_at_call 10; refine (frame_any _ _ _ _ _ _ _ _).mono ?_; rintro e wb ⟨rfl, hbb⟩; have hL := hL.kept hbb; have m0 := (hbb.cell (p := ⟨W.heap.size, 0, none⟩) hml).trans m0; have m1 := (hbb.cell (p := ⟨W.heap.size, 1, none⟩) hml).trans m1; have q0 := (hbb.cell qlt).trans q0; have q1 := (hbb.cell qlt).trans q1; have q2 := (hbb.cell qlt).trans q2; have q3 := (hbb.cell qlt).trans q3; have q4 := (hbb.cell qlt).trans q4; have q5 := (hbb.cell qlt).trans q5; have q6 := (hbb.cell qlt).trans q6; have hml := Nat.lt_of_lt_of_le hml hbb.size; have qlt := Nat.lt_of_lt_of_le qlt hbb.size; clear hbb; simp only [Fr.val, Fr.cells])
              | (go_at_call 11; refine (take_of (⟨_, _, _, _, _, _, 0⟩ : Fr) ma mi hL (by omega) (by assumption)).mono ?_; rintro e wt ⟨rfl, hLt, hKt⟩; have m0 := (hKt.cell (p := ⟨W.heap.size, 0, none⟩) hml hmn).trans m0; have m1 := (hKt.cell (p := ⟨W.heap.size, 1, none⟩) hml hmn).trans m1; have q0 := (hKt.cell qlt qne).trans q0; have q1 := (hKt.cell qlt qne).trans q1; have q2 := (hKt.cell qlt qne).trans q2; have q3 := (hKt.cell qlt qne).trans q3; have q4 := (hKt.cell qlt qne).trans q4; have q5 := (hKt.cell qlt qne).trans q5; have q6 := (hKt.cell qlt qne).trans q6; have hml := Nat.lt_of_lt_of_le hml hKt.size; have qlt := Nat.lt_of_lt_of_le qlt hKt.size; clear hKt))
          all_goals
            go_wp2_with fail
            go_meet
            case rel => exact ⟨by simp [stepE, Step.fr], by rw [← HG1.out]; exact hLt⟩
        · go_wp2_with fail
          refine (fence_of fa fi hL (by omega) hfa).mono ?_
          rintro e wf ⟨rfl, hLf, -⟩
          go_wp2_with fail
          go_meet
          case rel => exact ⟨by simp [stepE], by rw [← HG1.out]; exact hLf⟩
      case rest =>
        obtain ⟨rfl, hL⟩ := hcut
        clear m0 m1 q0 q1 q2 q3 q4 q5 q6 hml qlt hbel
        have hbel := hL.below
        have m0 : wc.cell? ⟨W.heap.size, 0, none⟩ = some (.int .i64 ma) := (hbel.cell (p := ⟨W.heap.size, 0, none⟩) (by simp; omega)).trans (HX.out.1)
        have m1 : wc.cell? ⟨W.heap.size, 1, none⟩ = some (.int .i64 mi) := (hbel.cell (p := ⟨W.heap.size, 1, none⟩) (by simp; omega)).trans (HX.out.2.1)
        have q0 : wc.cell? ⟨W.heap.size + 1, 0, none⟩ = some (.bool fence) := (hbel.cell (p := ⟨W.heap.size + 1, 0, none⟩) (by simp)).trans (HX.out.2.2 0 _ rfl)
        have q1 : wc.cell? ⟨W.heap.size + 1, 1, none⟩ = some (.int .u8 kind) := (hbel.cell (p := ⟨W.heap.size + 1, 1, none⟩) (by simp)).trans (HX.out.2.2 1 _ rfl)
        have q2 : wc.cell? ⟨W.heap.size + 1, 2, none⟩ = some (.int .i64 fa) := (hbel.cell (p := ⟨W.heap.size + 1, 2, none⟩) (by simp)).trans (HX.out.2.2 2 _ rfl)
        have q3 : wc.cell? ⟨W.heap.size + 1, 3, none⟩ = some (.int .i64 fi) := (hbel.cell (p := ⟨W.heap.size + 1, 3, none⟩) (by simp)).trans (HX.out.2.2 3 _ rfl)
        have q4 : wc.cell? ⟨W.heap.size + 1, 4, none⟩ = some (.int .i64 ta) := (hbel.cell (p := ⟨W.heap.size + 1, 4, none⟩) (by simp)).trans (HX.out.2.2 4 _ rfl)
        have q5 : wc.cell? ⟨W.heap.size + 1, 5, none⟩ = some (.int .i64 ti) := (hbel.cell (p := ⟨W.heap.size + 1, 5, none⟩) (by simp)).trans (HX.out.2.2 5 _ rfl)
        have q6 : wc.cell? ⟨W.heap.size + 1, 6, none⟩ = some (.int .i64 fn) := (hbel.cell (p := ⟨W.heap.size + 1, 6, none⟩) (by simp)).trans (HX.out.2.2 6 _ rfl)
        have hml : W.heap.size < wc.heap.size := by have := hbel.size; simp at this; omega
        have qlt : W.heap.size + 1 < wc.heap.size := by have := hbel.size; simp at this; omega
        go_wp2_with fail
        refine (newest_any B M _ G1 fa _ hL.lk hfa).mono ?_
        rintro e wn2 ⟨rfl, rfl⟩
        go_wp2_with fail
        clear m0 m1 q0 q1 q2 q3 q4 q5 q6 hml qlt
        clear hbel
        go_loopw [14] (fun x wr => ∃ k : Nat, k ≤ l3.length ∧ x = .int .i64 k ∧ Hs B M (l1.length + 1 + k) (playF ma mi G1 (l3.take k)) ((W.alloc (.cells #[.int .i64 ma, .int .i64 mi] 23)).alloc (.cells #[.bool fence, .int .u8 kind, .int .i64 fa, .int .i64 fi, .int .i64 ta, .int .i64 ti, .int .i64 fn] 26)) wr) (fun x _ => l3.length - (intOf x).toNat)
        case atStart => exact ⟨0, by omega, rfl, hL⟩
        case round =>
          clear hL
          obtain ⟨k, hk, rfl, hL⟩ := hrel
          have hbel := hL.below
          by_cases hlt : k < l3.length
          · have hps := play_snoc ma mi G1 l3 k hlt
            obtain ⟨b, off, rfl, hb, hx, p0, p1, p2, p3, p4, p5, p6⟩ := HL3.out.at_ hlt
            generalize l3[k] = x at hx p0 p1 p2 p3 p4 p5 p6 hps
            obtain ⟨fence', kind', fa', fi', ta', ti', fn'⟩ := x
            simp only at p0 p1 p2 p3 p4 p5 p6
            have hfa' : inI64 fa' := ⟨hx.fa0, hx.fa1⟩
            have qne : b ≠ M := by have := hL.ownM; simp at this; omega
            have hbW : Below W.heap.size W wr := then_below (((Below.refl _ W).alloc (Nat.le_refl _) _).alloc (by simp) _) hbel
            have q0 := (hbW.cell hb).trans p0
            have q1 := (hbW.cell hb).trans p1
            have q2 := (hbW.cell hb).trans p2
            have q3 := (hbW.cell hb).trans p3
            have q4 := (hbW.cell hb).trans p4
            have q5 := (hbW.cell hb).trans p5
            have q6 := (hbW.cell hb).trans p6
            have qlt : b < wr.heap.size := Nat.lt_of_lt_of_le hb hbW.size
            have m0 : wr.cell? ⟨W.heap.size, 0, none⟩ = some (.int .i64 ma) := (hbel.cell (p := ⟨W.heap.size, 0, none⟩) (by simp; omega)).trans (HX.out.1)
            have m1 : wr.cell? ⟨W.heap.size, 1, none⟩ = some (.int .i64 mi) := (hbel.cell (p := ⟨W.heap.size, 1, none⟩) (by simp; omega)).trans (HX.out.2.1)
            have hml : W.heap.size < wr.heap.size := by have := hbel.size; simp at this; omega
            have HPS := Lib.hid hps
            clear hps hbW hb p0 p1 p2 p3 p4 p5 p6 hbel
            cases fence'
            · have hL := hL.drew
              have m0 : wr.drew.cell? ⟨W.heap.size, 0, none⟩ = some (.int .i64 ma) := m0
              have m1 : wr.drew.cell? ⟨W.heap.size, 1, none⟩ = some (.int .i64 mi) := m1
              have hml : W.heap.size < wr.drew.heap.size := hml
              have qlt : b < wr.drew.heap.size := qlt
              go_upto_region 16 with fail
              go_region_held3 (fun v => v.cell? ⟨W.heap.size, 0, none⟩ = some (.int .i64 ma) ∧ v.cell? ⟨W.heap.size, 1, none⟩ = some (.int .i64 mi) ∧ v.cell? ⟨b, off + k * 7, none⟩ = some (.bool false) ∧ v.cell? ⟨b, off + k * 7 + 1, none⟩ = some (.int .u8 kind') ∧ v.cell? ⟨b, off + k * 7 + 2, none⟩ = some (.int .i64 fa') ∧ v.cell? ⟨b, off + k * 7 + 3, none⟩ = some (.int .i64 fi') ∧ v.cell? ⟨b, off + k * 7 + 4, none⟩ = some (.int .i64 ta') ∧ v.cell? ⟨b, off + k * 7 + 5, none⟩ = some (.int .i64 ti') ∧ v.cell? ⟨b, off + k * 7 + 6, none⟩ = some (.int .i64 fn')) (go_keep)
                (first
                  | (go_at_call 10; refine (frame_any _ _ _ _ _ _ _ _).mono ?_; rintro e wb ⟨rfl, hbb⟩; have hL := hL.kept hbb; have m0 := (hbb.cell (p := ⟨W.heap.size, 0, none⟩) hml).trans m0; have m1 := (hbb.cell (p := ⟨W.heap.size, 1, none⟩) hml).trans m1; have q0 := (hbb.cell qlt).trans q0; have q1 := (hbb.cell qlt).trans q1; have q2 := (hbb.cell qlt).trans q2; have q3 := (hbb.cell qlt).trans q3; have q4 := (hbb.cell qlt).trans q4; have q5 := (hbb.cell qlt).trans q5; have q6 := (hbb.cell qlt).trans q6; have hml := Nat.lt_of_lt_of_le hml hbb.size; have qlt := Nat.lt_of_lt_of_le qlt hbb.size; clear hbb; simp only [Fr.val, Fr.cells])
                  | (go_at_call 11; refine (take_of (⟨_, _, _, _, _, _, 0⟩ : Fr) ma mi hL (by omega) (by assumption)).mono ?_; rintro e wt ⟨rfl, hLt, hKt⟩; have m0 := (hKt.cell (p := ⟨W.heap.size, 0, none⟩) hml hmn).trans m0; have m1 := (hKt.cell (p := ⟨W.heap.size, 1, none⟩) hml hmn).trans m1; have q0 := (hKt.cell qlt qne).trans q0; have q1 := (hKt.cell qlt qne).trans q1; have q2 := (hKt.cell qlt qne).trans q2; have q3 := (hKt.cell qlt qne).trans q3; have q4 := (hKt.cell qlt qne).trans q4; have q5 := (hKt.cell qlt qne).trans q5; have q6 := (hKt.cell qlt qne).trans q6; have hml := Nat.lt_of_lt_of_le hml hKt.size; have qlt := Nat.lt_of_lt_of_le qlt hKt.size; clear hKt))
              all_goals
                go_wp2_with fail
                refine ⟨⟨k + 1, by omega, by go_num, by rw [HPS.out]; exact hLt⟩, ?_⟩
                simp only [intOf]; omega
            · go_wp2_with fail
              refine (fence_of fa' fi' hL (by omega) hfa').mono ?_
              rintro e wf ⟨rfl, hLf, -⟩
              go_wp2_with fail
              refine ⟨⟨k + 1, by omega, by go_num, by rw [HPS.out]; exact hLf⟩, ?_⟩
              simp only [intOf]; omega
          · obtain rfl : k = l3.length := by omega
            rw [List.take_length] at hL
            have hbel := hL.below
            have HM0 := Lib.hid hL.lk.knows.lt
            have m0 : wr.cell? ⟨W.heap.size, 0, none⟩ = some (.int .i64 ma) := (hbel.cell (p := ⟨W.heap.size, 0, none⟩) (by simp; omega)).trans (HX.out.1)
            have m1 : wr.cell? ⟨W.heap.size, 1, none⟩ = some (.int .i64 mi) := (hbel.cell (p := ⟨W.heap.size, 1, none⟩) (by simp; omega)).trans (HX.out.2.1)
            have q0 : wr.cell? ⟨W.heap.size + 1, 0, none⟩ = some (.bool fence) := (hbel.cell (p := ⟨W.heap.size + 1, 0, none⟩) (by simp)).trans (HX.out.2.2 0 _ rfl)
            have q1 : wr.cell? ⟨W.heap.size + 1, 1, none⟩ = some (.int .u8 kind) := (hbel.cell (p := ⟨W.heap.size + 1, 1, none⟩) (by simp)).trans (HX.out.2.2 1 _ rfl)
            have q2 : wr.cell? ⟨W.heap.size + 1, 2, none⟩ = some (.int .i64 fa) := (hbel.cell (p := ⟨W.heap.size + 1, 2, none⟩) (by simp)).trans (HX.out.2.2 2 _ rfl)
            have q3 : wr.cell? ⟨W.heap.size + 1, 3, none⟩ = some (.int .i64 fi) := (hbel.cell (p := ⟨W.heap.size + 1, 3, none⟩) (by simp)).trans (HX.out.2.2 3 _ rfl)
            have q4 : wr.cell? ⟨W.heap.size + 1, 4, none⟩ = some (.int .i64 ta) := (hbel.cell (p := ⟨W.heap.size + 1, 4, none⟩) (by simp)).trans (HX.out.2.2 4 _ rfl)
            have q5 : wr.cell? ⟨W.heap.size + 1, 5, none⟩ = some (.int .i64 ti) := (hbel.cell (p := ⟨W.heap.size + 1, 5, none⟩) (by simp)).trans (HX.out.2.2 5 _ rfl)
            have q6 : wr.cell? ⟨W.heap.size + 1, 6, none⟩ = some (.int .i64 fn) := (hbel.cell (p := ⟨W.heap.size + 1, 6, none⟩) (by simp)).trans (HX.out.2.2 6 _ rfl)
            have hml : W.heap.size < wr.heap.size := by have := hbel.size; simp at this; omega
            have qlt : W.heap.size + 1 < wr.heap.size := by have := hbel.size; simp at this; omega
            have hmn' := hmn
            cases hz : (stepE ma mi G0 ⟨fence, kind, fa, fi, ta, ti, fn⟩ == 0)
            · go_wp2_with fail
              go_ret
              exact ⟨rfl, then_below hW2 hbel⟩
            · have hz' : stepE ma mi G0 ⟨fence, kind, fa, fi, ta, ti, fn⟩ = 0 := by simpa using hz
              have hle := play_le ma mi l3 fa G1
              have HG1' := HG1.out
              cases fence
              · have htk : takeE G0 (Step.fr ⟨false, kind, fa, fi, ta, ti, fn⟩) ma mi = 0 := by simpa [stepE] using hz'
                obtain ⟨hform, hst, h0⟩ := takeE_zero htk
                have hmay := may_inc (form_may hform)
                have hnew := (Peer.took _ _ _ h0).2.1
                have hG1a : (G1 fa).newest = fi := by
                  rw [← HG1', stepF, if_neg (by simp)]
                  exact (congrArg Peer.newest hst).trans hnew
                have h1fi : 1 ≤ fi ∧ fi ≤ 1048576 := hmay.2.2
                generalize playF ma mi G1 l3 = G at hL hle
                have hne : takeE G ⟨kind, fa, min inc (fi - 1), ta, ti, 1125899906842624, 0⟩ ma mi ≠ 0 := older_not (by have := hle.new; simp only; omega)
                have HNE := Lib.hid hne
                clear hne hz' hle HG1' htk hform hst h0 hmay hnew hG1a
                go_wp2_with fail
                refine (frame_any false kind fa fi ta ti fn _).mono ?_
                rintro e wb ⟨rfl, hbb⟩
                have hL := (hL.kept hbb).alloc (.cells (Fr.cells ⟨kind, fa, min inc (fi - 1), ta, ti, 1125899906842624, 0⟩) 37)
                have hb2 := hbel.trans (hbb.mono hbel.size)
                clear m0 m1 q0 q1 q2 q3 q4 q5 q6 hml qlt hbel
                have m0 : wb.cell? ⟨W.heap.size, 0, none⟩ = some (.int .i64 ma) := (hb2.cell (p := ⟨W.heap.size, 0, none⟩) (by simp; omega)).trans (HX.out.1)
                have m1 : wb.cell? ⟨W.heap.size, 1, none⟩ = some (.int .i64 mi) := (hb2.cell (p := ⟨W.heap.size, 1, none⟩) (by simp; omega)).trans (HX.out.2.1)
                have q0 : wb.cell? ⟨W.heap.size + 1, 0, none⟩ = some (.bool false) := (hb2.cell (p := ⟨W.heap.size + 1, 0, none⟩) (by simp)).trans (HX.out.2.2 0 _ rfl)
                have q1 : wb.cell? ⟨W.heap.size + 1, 1, none⟩ = some (.int .u8 kind) := (hb2.cell (p := ⟨W.heap.size + 1, 1, none⟩) (by simp)).trans (HX.out.2.2 1 _ rfl)
                have q2 : wb.cell? ⟨W.heap.size + 1, 2, none⟩ = some (.int .i64 fa) := (hb2.cell (p := ⟨W.heap.size + 1, 2, none⟩) (by simp)).trans (HX.out.2.2 2 _ rfl)
                have q3 : wb.cell? ⟨W.heap.size + 1, 3, none⟩ = some (.int .i64 fi) := (hb2.cell (p := ⟨W.heap.size + 1, 3, none⟩) (by simp)).trans (HX.out.2.2 3 _ rfl)
                have q4 : wb.cell? ⟨W.heap.size + 1, 4, none⟩ = some (.int .i64 ta) := (hb2.cell (p := ⟨W.heap.size + 1, 4, none⟩) (by simp)).trans (HX.out.2.2 4 _ rfl)
                have q5 : wb.cell? ⟨W.heap.size + 1, 5, none⟩ = some (.int .i64 ti) := (hb2.cell (p := ⟨W.heap.size + 1, 5, none⟩) (by simp)).trans (HX.out.2.2 5 _ rfl)
                have q6 : wb.cell? ⟨W.heap.size + 1, 6, none⟩ = some (.int .i64 fn) := (hb2.cell (p := ⟨W.heap.size + 1, 6, none⟩) (by simp)).trans (HX.out.2.2 6 _ rfl)
                have hml : W.heap.size < wb.heap.size := by have := hb2.size; simp at this; omega
                have qlt : W.heap.size + 1 < wb.heap.size := by have := hb2.size; simp at this; omega
                simp only [Fr.val, Fr.cells]
                go_wp2_with fail
                refine (take_of ⟨kind, fa, min inc (fi - 1), ta, ti, 1125899906842624, 0⟩ ma mi hL (by omega) hfa).mono ?_
                rintro e wt ⟨rfl, hLt, -⟩
                have hbt := hLt.below
                clear m0 m1 q0 q1 q2 q3 q4 q5 q6 hml qlt
                have m0 : wt.cell? ⟨W.heap.size, 0, none⟩ = some (.int .i64 ma) := (hbt.cell (p := ⟨W.heap.size, 0, none⟩) (by simp; omega)).trans (HX.out.1)
                have m1 : wt.cell? ⟨W.heap.size, 1, none⟩ = some (.int .i64 mi) := (hbt.cell (p := ⟨W.heap.size, 1, none⟩) (by simp; omega)).trans (HX.out.2.1)
                have q0 : wt.cell? ⟨W.heap.size + 1, 0, none⟩ = some (.bool false) := (hbt.cell (p := ⟨W.heap.size + 1, 0, none⟩) (by simp)).trans (HX.out.2.2 0 _ rfl)
                have q1 : wt.cell? ⟨W.heap.size + 1, 1, none⟩ = some (.int .u8 kind) := (hbt.cell (p := ⟨W.heap.size + 1, 1, none⟩) (by simp)).trans (HX.out.2.2 1 _ rfl)
                have q2 : wt.cell? ⟨W.heap.size + 1, 2, none⟩ = some (.int .i64 fa) := (hbt.cell (p := ⟨W.heap.size + 1, 2, none⟩) (by simp)).trans (HX.out.2.2 2 _ rfl)
                have q3 : wt.cell? ⟨W.heap.size + 1, 3, none⟩ = some (.int .i64 fi) := (hbt.cell (p := ⟨W.heap.size + 1, 3, none⟩) (by simp)).trans (HX.out.2.2 3 _ rfl)
                have q4 : wt.cell? ⟨W.heap.size + 1, 4, none⟩ = some (.int .i64 ta) := (hbt.cell (p := ⟨W.heap.size + 1, 4, none⟩) (by simp)).trans (HX.out.2.2 4 _ rfl)
                have q5 : wt.cell? ⟨W.heap.size + 1, 5, none⟩ = some (.int .i64 ti) := (hbt.cell (p := ⟨W.heap.size + 1, 5, none⟩) (by simp)).trans (HX.out.2.2 5 _ rfl)
                have q6 : wt.cell? ⟨W.heap.size + 1, 6, none⟩ = some (.int .i64 fn) := (hbt.cell (p := ⟨W.heap.size + 1, 6, none⟩) (by simp)).trans (HX.out.2.2 6 _ rfl)
                have hml : W.heap.size < wt.heap.size := by have := hbt.size; simp at this; omega
                have qlt : W.heap.size + 1 < wt.heap.size := by have := hbt.size; simp at this; omega
                obtain ⟨c, hc⟩ : ∃ c, c = takeE G ⟨kind, fa, min inc (fi - 1), ta, ti, 1125899906842624, 0⟩ ma mi := ⟨_, rfl⟩
                rw [← hc]
                have hcb : (c != 0) = true := by rw [hc]; simpa using HNE.out
                clear hc
                go_wp2_with fail
                go_ret
                exact ⟨rfl, then_below hW2 hbt⟩
              · have htk : fenceE fa fi = 0 := by simpa [stepE] using hz'
                have hmay : mayB fa fi = true := by
                  cases hm : mayB fa fi
                  · simp [fenceE, hm] at htk
                  · rfl
                have hG1a : fi ≤ (G1 fa).fenced := by
                  rw [← HG1', stepF, if_pos rfl]
                  simp only [fenceF, hmay, if_true, set, Peer.fence]
                  omega
                generalize playF ma mi G1 l3 = G at hL hle
                have hfe : min inc fi ≤ (G fa).fenced := by have := hle.fen; omega
                have hne : takeE G ⟨kind, fa, min inc fi, ta, ti, 1125899906842624, 0⟩ ma mi ≠ 0 := fenced_not hfe
                have HNE := Lib.hid hne
                have HGG := Lib.hid (takeF_not hne)
                have HFE := Lib.hid hfe
                clear hne hz' hle HG1' htk hmay hG1a hfe
                go_wp2_with fail
                refine (frame_any true kind fa fi ta ti fn _).mono ?_
                rintro e wb ⟨rfl, hbb⟩
                have hL := (hL.kept hbb).alloc (.cells (Fr.cells ⟨kind, fa, min inc fi, ta, ti, 1125899906842624, 0⟩) 37)
                have hb2 := hbel.trans (hbb.mono hbel.size)
                have hQM : wb.heap.size ≠ M := by have := (hL.lk.knows.lt); have := hbb.size; have h2 := hbel.size; have := hL; intro hc; have h3 := HM0.out; omega
                clear m0 m1 q0 q1 q2 q3 q4 q5 q6 hml qlt hbel
                have m0 : wb.cell? ⟨W.heap.size, 0, none⟩ = some (.int .i64 ma) := (hb2.cell (p := ⟨W.heap.size, 0, none⟩) (by simp; omega)).trans (HX.out.1)
                have m1 : wb.cell? ⟨W.heap.size, 1, none⟩ = some (.int .i64 mi) := (hb2.cell (p := ⟨W.heap.size, 1, none⟩) (by simp; omega)).trans (HX.out.2.1)
                have q0 : wb.cell? ⟨W.heap.size + 1, 0, none⟩ = some (.bool true) := (hb2.cell (p := ⟨W.heap.size + 1, 0, none⟩) (by simp)).trans (HX.out.2.2 0 _ rfl)
                have q1 : wb.cell? ⟨W.heap.size + 1, 1, none⟩ = some (.int .u8 kind) := (hb2.cell (p := ⟨W.heap.size + 1, 1, none⟩) (by simp)).trans (HX.out.2.2 1 _ rfl)
                have q2 : wb.cell? ⟨W.heap.size + 1, 2, none⟩ = some (.int .i64 fa) := (hb2.cell (p := ⟨W.heap.size + 1, 2, none⟩) (by simp)).trans (HX.out.2.2 2 _ rfl)
                have q3 : wb.cell? ⟨W.heap.size + 1, 3, none⟩ = some (.int .i64 fi) := (hb2.cell (p := ⟨W.heap.size + 1, 3, none⟩) (by simp)).trans (HX.out.2.2 3 _ rfl)
                have q4 : wb.cell? ⟨W.heap.size + 1, 4, none⟩ = some (.int .i64 ta) := (hb2.cell (p := ⟨W.heap.size + 1, 4, none⟩) (by simp)).trans (HX.out.2.2 4 _ rfl)
                have q5 : wb.cell? ⟨W.heap.size + 1, 5, none⟩ = some (.int .i64 ti) := (hb2.cell (p := ⟨W.heap.size + 1, 5, none⟩) (by simp)).trans (HX.out.2.2 5 _ rfl)
                have q6 : wb.cell? ⟨W.heap.size + 1, 6, none⟩ = some (.int .i64 fn) := (hb2.cell (p := ⟨W.heap.size + 1, 6, none⟩) (by simp)).trans (HX.out.2.2 6 _ rfl)
                have hml : W.heap.size < wb.heap.size := by have := hb2.size; simp at this; omega
                have qlt : W.heap.size + 1 < wb.heap.size := by have := hb2.size; simp at this; omega
                simp only [Fr.val, Fr.cells]
                go_wp2_with fail
                refine (take_of ⟨kind, fa, min inc fi, ta, ti, 1125899906842624, 0⟩ ma mi hL (by omega) hfa).mono ?_
                rintro e wt ⟨rfl, hLt, hKt⟩
                rw [HGG.out] at hLt
                have f1 : wt.cell? ⟨wb.heap.size, 1, none⟩ = some (.int .i64 fa) := (hKt.cell (p := ⟨wb.heap.size, 1, none⟩) (by simp) hQM).trans (by simp [Fr.cells])
                have f2 : wt.cell? ⟨wb.heap.size, 2, none⟩ = some (.int .i64 (min inc fi)) := (hKt.cell (p := ⟨wb.heap.size, 2, none⟩) (by simp) hQM).trans (by simp [Fr.cells])
                have hQt : wb.heap.size < wt.heap.size := by have := hKt.size; simp at this; omega
                have hbt := hLt.below
                clear m0 m1 q0 q1 q2 q3 q4 q5 q6 hml qlt hKt
                have m0 : wt.cell? ⟨W.heap.size, 0, none⟩ = some (.int .i64 ma) := (hbt.cell (p := ⟨W.heap.size, 0, none⟩) (by simp; omega)).trans (HX.out.1)
                have m1 : wt.cell? ⟨W.heap.size, 1, none⟩ = some (.int .i64 mi) := (hbt.cell (p := ⟨W.heap.size, 1, none⟩) (by simp; omega)).trans (HX.out.2.1)
                have q0 : wt.cell? ⟨W.heap.size + 1, 0, none⟩ = some (.bool true) := (hbt.cell (p := ⟨W.heap.size + 1, 0, none⟩) (by simp)).trans (HX.out.2.2 0 _ rfl)
                have q1 : wt.cell? ⟨W.heap.size + 1, 1, none⟩ = some (.int .u8 kind) := (hbt.cell (p := ⟨W.heap.size + 1, 1, none⟩) (by simp)).trans (HX.out.2.2 1 _ rfl)
                have q2 : wt.cell? ⟨W.heap.size + 1, 2, none⟩ = some (.int .i64 fa) := (hbt.cell (p := ⟨W.heap.size + 1, 2, none⟩) (by simp)).trans (HX.out.2.2 2 _ rfl)
                have q3 : wt.cell? ⟨W.heap.size + 1, 3, none⟩ = some (.int .i64 fi) := (hbt.cell (p := ⟨W.heap.size + 1, 3, none⟩) (by simp)).trans (HX.out.2.2 3 _ rfl)
                have q4 : wt.cell? ⟨W.heap.size + 1, 4, none⟩ = some (.int .i64 ta) := (hbt.cell (p := ⟨W.heap.size + 1, 4, none⟩) (by simp)).trans (HX.out.2.2 4 _ rfl)
                have q5 : wt.cell? ⟨W.heap.size + 1, 5, none⟩ = some (.int .i64 ti) := (hbt.cell (p := ⟨W.heap.size + 1, 5, none⟩) (by simp)).trans (HX.out.2.2 5 _ rfl)
                have q6 : wt.cell? ⟨W.heap.size + 1, 6, none⟩ = some (.int .i64 fn) := (hbt.cell (p := ⟨W.heap.size + 1, 6, none⟩) (by simp)).trans (HX.out.2.2 6 _ rfl)
                have hml : W.heap.size < wt.heap.size := by have := hbt.size; simp at this; omega
                have qlt : W.heap.size + 1 < wt.heap.size := by have := hbt.size; simp at this; omega
                obtain ⟨c, hc⟩ : ∃ c, c = takeE G ⟨kind, fa, min inc fi, ta, ti, 1125899906842624, 0⟩ ma mi := ⟨_, rfl⟩
                rw [← hc]
                have hcb : (c != 0) = true := by rw [hc]; simpa using HNE.out
                clear hc
                go_wp2_with fail
                refine (may_any fa (min inc fi) _).mono ?_
                rintro e wu ⟨rfl, hbu⟩
                have g1 := (hbu.cell (p := ⟨wb.heap.size, 1, none⟩) hQt).trans f1
                have g2 := (hbu.cell (p := ⟨wb.heap.size, 2, none⟩) hQt).trans f2
                have hLu := hLt.kept hbu
                cases hm : mayB fa (min inc fi)
                · go_wp2_with fail
                  go_ret
                  exact ⟨rfl, then_below hW2 hLu.below⟩
                · have HFB := Lib.hid (show fencedB G fa (min inc fi) = true by simp [fencedB, hm, HFE.out])
                  go_wp2_with fail
                  refine (fenced_any B M _ G fa (min inc fi) _ hLu.lk hfa).mono ?_
                  rintro e wv ⟨rfl, hbv⟩
                  rw [HFB.out]
                  go_wp2_with fail
                  go_ret
                  exact ⟨rfl, then_below hW2 (hLu.kept hbv).below⟩
    · go_enter Try.func4, Try.ntmps4
      go_wp2_with fail
      refine (awake_any _).mono ?_
      rintro e w0 ⟨rfl, hb0⟩
      go_wp2_with fail
      go_ret
      exact ⟨rfl, then_below hW2 hb0⟩
  · go_enter Try.func4, Try.ntmps4
    go_wp2_with fail
    refine (awake_any _).mono ?_
    rintro e w0 ⟨rfl, hb0⟩
    go_wp2_with fail
    go_ret
    exact ⟨rfl, then_below hW2 hb0⟩
end Go.Proofs.Ytacmplomahmaiaa
