/-
  Steps that are played.
-/
import Derived.Test.YtacmplomahmaiaaPlain
namespace Go.Proofs.Ytacmplomahmaiaa
open Go.RowKit Go.Maps
set_option linter.unusedVariables false
set_option linter.unusedSimpArgs false
attribute [local go_sem ↓] Go.wp_at_zero Go.wp_at_succ
theorem Hs.base {B M n : Nat} {g : Int → Peer} {W W1 w : World} (h : Hs B M n g W1 w) (hb : Below W.heap.size W W1) : Hs B M n g W w :=
  ⟨h.lk, Nat.le_trans hb.size h.ownB, Nat.le_trans hb.size h.ownM, then_below hb h.below⟩
set_option maxRecDepth 100000 in
set_option maxHeartbeats 4000000 in
theorem play_any (ma mi : Int) (oa : Option Addr) (cap : Nat) (l : List Step) (W : World) (hl : Step.Holds W (.slice oa l.length cap) l) (hn : l.length ≤ 100) :
    Calls Try.prog 9 #[.agg #[.int .i64 ma, .int .i64 mi], .slice oa l.length cap] W fun e w' => ∃ B M, e = .returned (.pointer (some ⟨B, 0, none⟩)) ∧ Hs B M l.length (playF ma mi (fun _ => .zero) l) W w' := by
  go_enter Try.func9, Try.ntmps9
  go_wp2_with fail
  refine (new_of (Below.refl _ _)).mono ?_
  rintro e w1 ⟨B, M, rfl, h1, hM1, hB1, -⟩
  have hmM : W.heap.size ≠ M := by have := h1.ownM; simp at this; omega
  go_wp2_with fail
  go_loopw [6] (fun x wr => ∃ k : Nat, k ≤ l.length ∧ x = .int .i64 k ∧ Hs B M k (playF ma mi (fun _ => .zero) (l.take k)) (W.alloc (.cells #[.int .i64 ma, .int .i64 mi] 23)) wr) (fun x _ => l.length - (intOf x).toNat)
  case atStart => exact ⟨0, by omega, rfl, h1⟩
  case round =>
    clear h1
    obtain ⟨k, hk, rfl, hL⟩ := hrel
    by_cases hlt : k < l.length
    · have hps := play_snoc ma mi (fun _ => .zero) l k hlt
      obtain ⟨b, off, rfl, hb, hx, q0, q1, q2, q3, q4, q5, q6⟩ := hl.at_ hlt
      generalize l[k] = x at hx q0 q1 q2 q3 q4 q5 q6 hps
      obtain ⟨fence, kind, fa, fi, ta, ti, fn⟩ := x
      simp only at q0 q1 q2 q3 q4 q5 q6
      have hfa : inI64 fa := ⟨hx.fa0, hx.fa1⟩
      have m0 : wr.cell? ⟨W.heap.size, 0, none⟩ = some (.int .i64 ma) := (hL.below.cell (p := ⟨W.heap.size, 0, none⟩) (by simp)).trans (by simp)
      have m1 : wr.cell? ⟨W.heap.size, 1, none⟩ = some (.int .i64 mi) := (hL.below.cell (p := ⟨W.heap.size, 1, none⟩) (by simp)).trans (by simp)
      have hml : W.heap.size < wr.heap.size := by have := hL.below.size; simp at this; omega
      have hmn : W.heap.size ≠ M := hmM
      have qne : b ≠ M := by have := hL.ownM; simp at this; omega
      have hbel : Below W.heap.size W wr := then_below ((Below.refl _ W).alloc (Nat.le_refl _) (.cells #[.int .i64 ma, .int .i64 mi] 23)) hL.below
      have q0 := (hbel.cell hb).trans q0
      have q1 := (hbel.cell hb).trans q1
      have q2 := (hbel.cell hb).trans q2
      have q3 := (hbel.cell hb).trans q3
      have q4 := (hbel.cell hb).trans q4
      have q5 := (hbel.cell hb).trans q5
      have q6 := (hbel.cell hb).trans q6
      have qlt : b < wr.heap.size := Nat.lt_of_lt_of_le hb hbel.size
      have HPS := Lib.hid hps
      clear hps hl hbel hb
      cases fence
      · have hL := hL.drew
        have m0 : wr.drew.cell? ⟨W.heap.size, 0, none⟩ = some (.int .i64 ma) := m0
        have m1 : wr.drew.cell? ⟨W.heap.size, 1, none⟩ = some (.int .i64 mi) := m1
        have hml : W.heap.size < wr.drew.heap.size := hml
        have qlt : b < wr.drew.heap.size := qlt
        go_upto_region 7 with fail
        go_region_held3 (fun v => v.cell? ⟨W.heap.size, 0, none⟩ = some (.int .i64 ma) ∧ v.cell? ⟨W.heap.size, 1, none⟩ = some (.int .i64 mi) ∧ v.cell? ⟨b, off + k * 7, none⟩ = some (.bool false) ∧ v.cell? ⟨b, off + k * 7 + 1, none⟩ = some (.int .u8 kind) ∧ v.cell? ⟨b, off + k * 7 + 2, none⟩ = some (.int .i64 fa) ∧ v.cell? ⟨b, off + k * 7 + 3, none⟩ = some (.int .i64 fi) ∧ v.cell? ⟨b, off + k * 7 + 4, none⟩ = some (.int .i64 ta) ∧ v.cell? ⟨b, off + k * 7 + 5, none⟩ = some (.int .i64 ti) ∧ v.cell? ⟨b, off + k * 7 + 6, none⟩ = some (.int .i64 fn)) (go_keep)
          (first
            | (go_at_call 10; refine (frame_any _ _ _ _ _ _ _ _).mono ?_; rintro e wb ⟨rfl, hbb⟩; have hL := hL.kept hbb; have m0 := (hbb.cell (p := ⟨W.heap.size, 0, none⟩) hml).trans m0; have m1 := (hbb.cell (p := ⟨W.heap.size, 1, none⟩) hml).trans m1; have q0 := (hbb.cell qlt).trans q0; have q1 := (hbb.cell qlt).trans q1; have q2 := (hbb.cell qlt).trans q2; have q3 := (hbb.cell qlt).trans q3; have q4 := (hbb.cell qlt).trans q4; have q5 := (hbb.cell qlt).trans q5; have q6 := (hbb.cell qlt).trans q6; have hml := Nat.lt_of_lt_of_le hml hbb.size; have qlt := Nat.lt_of_lt_of_le qlt hbb.size; clear hbb; simp only [Fr.val, Fr.cells])
            | (go_at_call 11; refine (take_of (⟨_, _, _, _, _, _, 0⟩ : Fr) ma mi hL (by omega) (by assumption)).mono ?_; rintro e wt ⟨rfl, hLt, hKt⟩; have m0 := (hKt.cell (p := ⟨W.heap.size, 0, none⟩) hml hmn).trans m0; have m1 := (hKt.cell (p := ⟨W.heap.size, 1, none⟩) hml hmn).trans m1; have q0 := (hKt.cell qlt qne).trans q0; have q1 := (hKt.cell qlt qne).trans q1; have q2 := (hKt.cell qlt qne).trans q2; have q3 := (hKt.cell qlt qne).trans q3; have q4 := (hKt.cell qlt qne).trans q4; have q5 := (hKt.cell qlt qne).trans q5; have q6 := (hKt.cell qlt qne).trans q6; have hml := Nat.lt_of_lt_of_le hml hKt.size; have qlt := Nat.lt_of_lt_of_le qlt hKt.size; clear hKt))
        all_goals
          go_wp2_with fail
          refine ⟨⟨k + 1, by omega, by go_num, by rw [HPS.out]; exact hLt⟩, ?_⟩
          simp only [intOf]; omega
      · go_wp2_with fail
        refine (fence_of fa fi hL (by omega) hfa).mono ?_
        rintro e wf ⟨rfl, hLf, -⟩
        go_wp2_with fail
        refine ⟨⟨k + 1, by omega, by go_num, by rw [HPS.out]; exact hLf⟩, ?_⟩
        simp only [intOf]; omega
    · obtain rfl : k = l.length := by omega
      go_wp2_with fail
      go_ret
      rw [List.take_length] at hL
      exact ⟨B, M, rfl, hL.base ((Below.refl _ W).alloc (Nat.le_refl _) _)⟩
end Go.Proofs.Ytacmplomahmaiaa
