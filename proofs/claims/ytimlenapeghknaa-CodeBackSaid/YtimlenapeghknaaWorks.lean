/-
  The walk of the examples.
-/
import Derived.Test.YtimlenapeghknaaReads2
namespace Go.Proofs.Ytimlenapeghknaa
open Go.RowKit
set_option linter.unusedVariables false
set_option linter.unusedSimpArgs false
attribute [local go_sem ↓] Go.wp_at_zero Go.wp_at_succ
theorem enc0 : enc 0 = [0] := by rw [enc_small (by decide)]; rfl
theorem enc127 : enc 127 = [127] := by rw [enc_small (by decide)]; rfl
theorem enc128 : enc 128 = [128, 1] := by rw [enc_big (by decide), enc_small (by decide)]; rfl
theorem enc300 : enc 300 = [172, 2] := by rw [enc_big (by decide), enc_small (by decide)]; rfl
theorem rn_a : rn [128, 0] = (0, 4, []) := by decide
theorem rn_b : rn [128] = (0, 8, []) := by decide
theorem rise_two : rise [⟨1, 1⟩, ⟨2, 7⟩] = true := by decide
theorem encIds_two : encIds [⟨1, 1⟩, ⟨2, 7⟩] = [2, 1, 1, 2, 7] := by
  have e1 : enc 1 = [1] := by rw [enc_small (by decide)]; rfl
  have e2 : enc 2 = [2] := by rw [enc_small (by decide)]; rfl
  have e7 : enc 7 = [7] := by rw [enc_small (by decide)]; rfl
  simp [encIds, encAll, encId, e1, e2, e7]
theorem ex0 (w : World) : Calls Try.prog 9 #[.string ⟨#[]⟩, .int .i64 0] w fun e w' => e = .returned (.tuple #[.string ⟨#[0]⟩, .int .i64 0]) ∧ Below w.heap.size w w' := by
  have h := num9 [] 0 w (by decide) (by decide)
  rw [enc0] at h
  exact h
theorem ex127 (w : World) : Calls Try.prog 9 #[.string ⟨#[]⟩, .int .i64 127] w fun e w' => e = .returned (.tuple #[.string ⟨#[127]⟩, .int .i64 0]) ∧ Below w.heap.size w w' := by
  have h := num9 [] 127 w (by decide) (by decide)
  rw [enc127] at h
  exact h
theorem ex128 (w : World) : Calls Try.prog 9 #[.string ⟨#[]⟩, .int .i64 128] w fun e w' => e = .returned (.tuple #[.string ⟨#[128, 1]⟩, .int .i64 0]) ∧ Below w.heap.size w w' := by
  have h := num9 [] 128 w (by decide) (by decide)
  rw [enc128] at h
  exact h
theorem ex300 (w : World) : Calls Try.prog 9 #[.string ⟨#[]⟩, .int .i64 300] w fun e w' => e = .returned (.tuple #[.string ⟨#[172, 2]⟩, .int .i64 0]) ∧ Below w.heap.size w w' := by
  have h := num9 [] 300 w (by decide) (by decide)
  rw [enc300] at h
  exact h
theorem ids_two (g : Nat) (w : World) (hg : g < w.heap.size) (c0 : w.cell? ⟨g, 0, none⟩ = some (.int .i64 1)) (c1 : w.cell? ⟨g, 1, none⟩ = some (.int .i64 1)) (c2 : w.cell? ⟨g, 2, none⟩ = some (.int .i64 2)) (c3 : w.cell? ⟨g, 3, none⟩ = some (.int .i64 7)) :
    Calls Try.prog 13 #[.string ⟨#[]⟩, .slice (some ⟨g, 0, none⟩) 2 2] w fun e w' => e = .returned (.tuple #[.string ⟨#[2, 1, 1, 2, 7]⟩, .int .i64 0]) ∧ Below w.heap.size w w' := by
  have hR : Row (some ⟨g, 0, none⟩) [⟨1, 1⟩, ⟨2, 7⟩] w := ⟨by decide, fun k hk => ⟨g, 0, rfl, hg, by
    match k, hk with
    | 0, _ => exact ⟨c0, c1⟩
    | 1, _ => exact ⟨c2, c3⟩⟩⟩
  have h := ids13 [] (some ⟨g, 0, none⟩) 2 [⟨1, 1⟩, ⟨2, 7⟩] w hR (by decide)
  rw [if_neg (by decide), if_pos rise_two, encIds_two] at h
  exact h
def table : Array Value := #[.int .i64 0, .string ⟨#[0]⟩, .int .i64 127, .string ⟨#[127]⟩, .int .i64 128, .string ⟨#[128, 1]⟩, .int .i64 300, .string ⟨#[172, 2]⟩]
set_option maxRecDepth 100000 in
set_option maxHeartbeats 8000000 in
theorem awake_any (w : World) : Calls Try.prog 8 #[] w fun r w' => r = .returned (.bool true) ∧ Below w.heap.size w w' := by
  go_enter Try.func8, Try.ntmps8
  go_wp2_with fail
  go_loopw [17] (fun x wr => ∃ k : Nat, k ≤ 4 ∧ x = .int .i64 k ∧ wr.heap[w.heap.size]? = some (.cells table 49 (0, 0)) ∧ Below w.heap.size w wr) (fun x _ => 4 - (intOf x).toNat)
  case atStart => exact ⟨0, by omega, rfl, heap_alloc_new _ _, (Below.refl _ _).alloc (Nat.le_refl _) _⟩
  case round =>
    obtain ⟨k, hk, rfl, ht, hb⟩ := hrel
    have hlt := (Array.getElem?_eq_some_iff.1 ht).1
    have hc : ∀ j, wr.cell? ⟨w.heap.size, j, none⟩ = table[j]? := fun j => cell_of_row _ _ _ _ _ _ ht
    rcases (show k = 0 ∨ k = 1 ∨ k = 2 ∨ k = 3 ∨ k = 4 by omega) with rfl | rfl | rfl | rfl | rfl
    · have q0 : wr.cell? ⟨w.heap.size, 0, none⟩ = some (.int .i64 0) := hc 0
      have q1 : wr.cell? ⟨w.heap.size, 1, none⟩ = some (.string ⟨#[0]⟩) := hc 1
      clear hc
      have HT := Lib.hid ht
      clear ht
      go_wp2_with fail
      refine (ex0 _).mono ?_
      rintro r w2 ⟨rfl, hb2⟩
      have x1 : w2.cell? ⟨wr.heap.size, 1, none⟩ = some (.string ⟨#[0]⟩) := (hb2.cell (p := ⟨wr.heap.size, 1, none⟩) (by simp)).trans (by simp)
      have hb3 := Lib.hid ((hb.alloc hb.size (.cells #[.int .i64 0, .string ⟨#[0]⟩] 49)).trans (hb2.mono (by simp; have := hb.size; omega)))
      have ht2 := Lib.hid ((hb2.block _ (by simp; omega)).trans ((Below.heap_alloc _ _ _ hlt).trans HT.out))
      clear hb2
      go_wp2_with fail
      go_roundw
      case rel => exact ⟨0 + 1, by omega, by go_num, ht2.out, hb3.out⟩
      case measure => simp only [intOf]; omega
    · have q0 : wr.cell? ⟨w.heap.size, 2, none⟩ = some (.int .i64 127) := hc 2
      have q1 : wr.cell? ⟨w.heap.size, 3, none⟩ = some (.string ⟨#[127]⟩) := hc 3
      clear hc
      have HT := Lib.hid ht
      clear ht
      go_wp2_with fail
      refine (ex127 _).mono ?_
      rintro r w2 ⟨rfl, hb2⟩
      have x1 : w2.cell? ⟨wr.heap.size, 1, none⟩ = some (.string ⟨#[127]⟩) := (hb2.cell (p := ⟨wr.heap.size, 1, none⟩) (by simp)).trans (by simp)
      have hb3 := Lib.hid ((hb.alloc hb.size (.cells #[.int .i64 127, .string ⟨#[127]⟩] 49)).trans (hb2.mono (by simp; have := hb.size; omega)))
      have ht2 := Lib.hid ((hb2.block _ (by simp; omega)).trans ((Below.heap_alloc _ _ _ hlt).trans HT.out))
      clear hb2
      go_wp2_with fail
      go_roundw
      case rel => exact ⟨1 + 1, by omega, by go_num, ht2.out, hb3.out⟩
      case measure => simp only [intOf]; omega
    · have q0 : wr.cell? ⟨w.heap.size, 4, none⟩ = some (.int .i64 128) := hc 4
      have q1 : wr.cell? ⟨w.heap.size, 5, none⟩ = some (.string ⟨#[128, 1]⟩) := hc 5
      clear hc
      have HT := Lib.hid ht
      clear ht
      go_wp2_with fail
      refine (ex128 _).mono ?_
      rintro r w2 ⟨rfl, hb2⟩
      have x1 : w2.cell? ⟨wr.heap.size, 1, none⟩ = some (.string ⟨#[128, 1]⟩) := (hb2.cell (p := ⟨wr.heap.size, 1, none⟩) (by simp)).trans (by simp)
      have hb3 := Lib.hid ((hb.alloc hb.size (.cells #[.int .i64 128, .string ⟨#[128, 1]⟩] 49)).trans (hb2.mono (by simp; have := hb.size; omega)))
      have ht2 := Lib.hid ((hb2.block _ (by simp; omega)).trans ((Below.heap_alloc _ _ _ hlt).trans HT.out))
      clear hb2
      go_wp2_with fail
      go_roundw
      case rel => exact ⟨2 + 1, by omega, by go_num, ht2.out, hb3.out⟩
      case measure => simp only [intOf]; omega
    · have q0 : wr.cell? ⟨w.heap.size, 6, none⟩ = some (.int .i64 300) := hc 6
      have q1 : wr.cell? ⟨w.heap.size, 7, none⟩ = some (.string ⟨#[172, 2]⟩) := hc 7
      clear hc
      have HT := Lib.hid ht
      clear ht
      go_wp2_with fail
      refine (ex300 _).mono ?_
      rintro r w2 ⟨rfl, hb2⟩
      have x1 : w2.cell? ⟨wr.heap.size, 1, none⟩ = some (.string ⟨#[172, 2]⟩) := (hb2.cell (p := ⟨wr.heap.size, 1, none⟩) (by simp)).trans (by simp)
      have hb3 := Lib.hid ((hb.alloc hb.size (.cells #[.int .i64 300, .string ⟨#[172, 2]⟩] 49)).trans (hb2.mono (by simp; have := hb.size; omega)))
      have ht2 := Lib.hid ((hb2.block _ (by simp; omega)).trans ((Below.heap_alloc _ _ _ hlt).trans HT.out))
      clear hb2
      go_wp2_with fail
      go_roundw
      case rel => exact ⟨3 + 1, by omega, by go_num, ht2.out, hb3.out⟩
      case measure => simp only [intOf]; omega
    · clear hc ht
      go_wp2_with fail
      refine (open_any [128, 0] _).mono ?_
      rintro r w1 ⟨rfl, h1, hb1⟩
      go_wp2_with fail
      refine (num17_wrong _ [128, 0] 4 _ h1 (by decide) rn_a (by decide)).mono ?_
      rintro r w2 ⟨rfl, -, hK2⟩
      have hb2 := hb.trans ((hb1.trans (hK2.below (Nat.le_refl _) hb1.size)).mono hb.size)
      clear hb1 hK2 h1
      go_wp2_with fail
      refine (open_any [128] _).mono ?_
      rintro r w3 ⟨rfl, h3, hb3⟩
      go_wp2_with fail
      refine (num17_wrong _ [128] 8 _ h3 (by decide) rn_b (by decide)).mono ?_
      rintro r w4 ⟨rfl, -, hK4⟩
      have hb4 := hb2.trans ((hb3.trans (hK4.below (Nat.le_refl _) hb3.size)).mono hb2.size)
      clear hb3 hK4 h3 hb2
      go_wp2_with fail
      refine (ids_two _ _ (by simp) (by simp) (by simp) (by simp) (by simp)).mono ?_
      rintro r w5 ⟨rfl, hb5⟩
      go_wp2_with fail
      go_ret
      exact ⟨rfl, (hb4.alloc hb4.size _).trans (hb5.mono (by simp; have := hb4.size; omega))⟩
end Go.Proofs.Ytimlenapeghknaa
