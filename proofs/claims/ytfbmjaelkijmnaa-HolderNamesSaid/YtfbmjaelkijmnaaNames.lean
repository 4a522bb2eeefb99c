/-
  The walk of the law HolderNames (closed): the examples, the bounds, refusals, what is let go, and what is asked of nil.
-/
import Derived.Test.YtfbmjaelkijmnaaNils
import Derived.Deep.DrawnRows
namespace Go.Proofs.Ytfbmjaelkijmnaa
open Go.RowKit
set_option linter.unusedVariables false
set_option linter.unusedSimpArgs false
attribute [local go_sem ↓] Go.wp_at_zero Go.wp_at_succ
def pairs : Array Value := #[.int .i64 0, .int .i64 1, .int .i64 1, .int .i64 0, .int .i64 4097, .int .i64 1, .int .i64 1, .int .i64 4097, .int .i64 (-1), .int .i64 (-1)]
set_option maxRecDepth 100000 in
set_option maxHeartbeats 16000000 in
theorem names_walk (W : World) : Calls Try.prog 8 #[] W fun e w' => e = .returned (.bool true) ∧ Below W.heap.size W w' := by
  go_enter Try.func8, Try.ntmps8
  have HB := Lib.hid (Below.refl W.heap.size W)
  go_wp2_with fail
  refine (want_nil 1 _).mono ?_
  rintro e u1 ⟨rfl, hb⟩
  have HB := Lib.hid (then_below HB.out hb)
  clear hb
  simp only [Fr.val, Fr.cells, Fr.zero]
  go_wp2_with fail
  refine (drop_nil 1 _).mono ?_
  rintro e u2 ⟨rfl, hb⟩
  have HB := Lib.hid ((HB.out.alloc HB.out.size (.cells Fr.zero.cells 37)).trans (hb.mono (by simp; have := HB.out.size; omega)))
  clear hb
  simp only [Fr.val, Fr.cells, Fr.zero]
  go_wp2_with fail
  refine (works_any _).mono ?_
  rintro e u3 ⟨rfl, hb⟩
  have HB := Lib.hid ((HB.out.alloc HB.out.size (.cells Fr.zero.cells 37)).trans (hb.mono (by simp; have := HB.out.size; omega)))
  clear hb
  go_wp2_with fail
  refine (answer_any 12 1 1 _).mono ?_
  rintro e v1 ⟨rfl, hb⟩
  have HB := Lib.hid (then_below HB.out hb)
  clear hb
  go_wp2_with fail
  refine (take_nil ⟨12, 0, 0, 0, 0, 1, 1⟩ 1 _).mono ?_
  rintro e v2 ⟨rfl, hb⟩
  have HB := Lib.hid (then_below HB.out hb)
  clear hb
  go_wp2_with fail
  refine (holds_nil 1 _).mono ?_
  rintro e v3 ⟨rfl, hb⟩
  have HB := Lib.hid (then_below HB.out hb)
  clear hb
  go_wp2_with fail
  refine (token_nil _).mono ?_
  rintro e v4 ⟨rfl, rfl⟩
  go_wp2_with fail
  refine (refused_nil _).mono ?_
  rintro e v5 ⟨rfl, rfl⟩
  go_wp2_with fail
  refine (waits_nil _).mono ?_
  rintro e v6 ⟨rfl, rfl⟩
  go_wp2_with fail
  refine (copy_nil _).mono ?_
  rintro e v7 ⟨rfl, rfl⟩
  go_wp2_with fail
  have hR0 := HB.out.size
  have HB1 := Lib.hid (HB.out.alloc HB.out.size (.cells pairs 54))
  have HP1 : Hid (∀ o, (v7.alloc (.cells pairs 54)).cell? ⟨v7.heap.size, o, none⟩ = pairs[o]?) := Lib.hid (fun o => cell_of_row _ _ o _ _ _ (heap_alloc_new _ _))
  simp only [pairs] at HB1
  obtain ⟨R, hR⟩ : ∃ R, R = v7.heap.size := ⟨_, rfl⟩
  go_loopw [81] (fun x wr => ∃ k : Nat, k ≤ 5 ∧ x = .int .i64 k ∧ Below W.heap.size W wr ∧ v7.heap.size < wr.heap.size ∧ Hid (∀ o, wr.cell? ⟨v7.heap.size, o, none⟩ = pairs[o]?)) (fun x _ => 5 - (intOf x).toNat)
  case atStart => exact ⟨0, by omega, rfl, HB1.out, by simp, HP1⟩
  case round =>
    clear HB1 HP1 HB
    obtain ⟨k, hk, rfl, hB, hRl, HP⟩ := hrel
    by_cases hlt : k < 5
    · rcases (show k = 0 ∨ k = 1 ∨ k = 2 ∨ k = 3 ∨ k = 4 by omega) with rfl | rfl | rfl | rfl | rfl
      · skip
        have p0 : wr.cell? ⟨v7.heap.size, 0, none⟩ = some (.int .i64 (0)) := HP.out 0
        have p1 : wr.cell? ⟨v7.heap.size, 1, none⟩ = some (.int .i64 (1)) := HP.out 1
        have hno : ¬ may 2 1 (0) (1) := by simp [may]
        have HN := Lib.hid hno
        clear hno
        go_wp2_with fail
        have hY : Below wr.heap.size wr ((wr.alloc (.cells #[.int .i64 (0), .int .i64 (1)] 54)).drew) := ((Below.refl _ _).alloc (Nat.le_refl _) _).drew
        have hYl : wr.heap.size < ((wr.alloc (.cells #[.int .i64 (0), .int .i64 (1)] 54)).drew).heap.size := by simp
        have hB := (hB.alloc hB.size (.cells #[.int .i64 (0), .int .i64 (1)] 54)).drew
        have t0 : ((wr.alloc (.cells #[.int .i64 (0), .int .i64 (1)] 54)).drew).cell? ⟨wr.heap.size, 0, none⟩ = some (.int .i64 (0)) := by simp
        have t1 : ((wr.alloc (.cells #[.int .i64 (0), .int .i64 (1)] 54)).drew).cell? ⟨wr.heap.size, 1, none⟩ = some (.int .i64 (1)) := by simp
        go_region_held3 (fun v => v.cell? ⟨wr.heap.size, 0, none⟩ = some (.int .i64 (0)) ∧ v.cell? ⟨wr.heap.size, 1, none⟩ = some (.int .i64 (1))) (go_keep)
          (first
            | (go_at_call 22; (with_reducible refine (node_any _).mono ?_); rintro e wn ⟨rfl, hbn⟩; have hB := then_below hB hbn; have hY := then_below hY hbn; have hYl := Nat.lt_of_lt_of_le hYl hbn.size; have t0 := (hbn.cell (p := ⟨wr.heap.size, 0, none⟩) (by simp)).trans t0; have t1 := (hbn.cell (p := ⟨wr.heap.size, 1, none⟩) (by simp)).trans t1; clear hbn)
            | (go_at_call 11; (with_reducible refine (new_no 2 1 (0) (1) _ HN.out).mono ?_); rintro e wm ⟨rfl, hbm⟩; have hB := then_below hB hbm; have hY2 := then_below hY hbm; have t0 := (hbm.cell (p := ⟨wr.heap.size, 0, none⟩) hYl).trans t0; have t1 := (hbm.cell (p := ⟨wr.heap.size, 1, none⟩) hYl).trans t1; clear hbm))
        go_wp2_with fail
        refine ⟨⟨1, by omega, by go_num, hB, Nat.lt_of_lt_of_le hRl hY2.size, Lib.hid (fun o => (hY2.cell (p := ⟨v7.heap.size, o, none⟩) hRl).trans (HP.out o))⟩, ?_⟩
        simp only [intOf]; omega
      · skip
        have p0 : wr.cell? ⟨v7.heap.size, 2, none⟩ = some (.int .i64 (1)) := HP.out 2
        have p1 : wr.cell? ⟨v7.heap.size, 3, none⟩ = some (.int .i64 (0)) := HP.out 3
        have hno : ¬ may 2 1 (1) (0) := by simp [may]
        have HN := Lib.hid hno
        clear hno
        go_wp2_with fail
        have hY : Below wr.heap.size wr ((wr.alloc (.cells #[.int .i64 (1), .int .i64 (0)] 54)).drew) := ((Below.refl _ _).alloc (Nat.le_refl _) _).drew
        have hYl : wr.heap.size < ((wr.alloc (.cells #[.int .i64 (1), .int .i64 (0)] 54)).drew).heap.size := by simp
        have hB := (hB.alloc hB.size (.cells #[.int .i64 (1), .int .i64 (0)] 54)).drew
        have t0 : ((wr.alloc (.cells #[.int .i64 (1), .int .i64 (0)] 54)).drew).cell? ⟨wr.heap.size, 0, none⟩ = some (.int .i64 (1)) := by simp
        have t1 : ((wr.alloc (.cells #[.int .i64 (1), .int .i64 (0)] 54)).drew).cell? ⟨wr.heap.size, 1, none⟩ = some (.int .i64 (0)) := by simp
        go_region_held3 (fun v => v.cell? ⟨wr.heap.size, 0, none⟩ = some (.int .i64 (1)) ∧ v.cell? ⟨wr.heap.size, 1, none⟩ = some (.int .i64 (0))) (go_keep)
          (first
            | (go_at_call 22; (with_reducible refine (node_any _).mono ?_); rintro e wn ⟨rfl, hbn⟩; have hB := then_below hB hbn; have hY := then_below hY hbn; have hYl := Nat.lt_of_lt_of_le hYl hbn.size; have t0 := (hbn.cell (p := ⟨wr.heap.size, 0, none⟩) (by simp)).trans t0; have t1 := (hbn.cell (p := ⟨wr.heap.size, 1, none⟩) (by simp)).trans t1; clear hbn)
            | (go_at_call 11; (with_reducible refine (new_no 2 1 (1) (0) _ HN.out).mono ?_); rintro e wm ⟨rfl, hbm⟩; have hB := then_below hB hbm; have hY2 := then_below hY hbm; have t0 := (hbm.cell (p := ⟨wr.heap.size, 0, none⟩) hYl).trans t0; have t1 := (hbm.cell (p := ⟨wr.heap.size, 1, none⟩) hYl).trans t1; clear hbm))
        go_wp2_with fail
        refine ⟨⟨2, by omega, by go_num, hB, Nat.lt_of_lt_of_le hRl hY2.size, Lib.hid (fun o => (hY2.cell (p := ⟨v7.heap.size, o, none⟩) hRl).trans (HP.out o))⟩, ?_⟩
        simp only [intOf]; omega
      · skip
        have p0 : wr.cell? ⟨v7.heap.size, 4, none⟩ = some (.int .i64 (4097)) := HP.out 4
        have p1 : wr.cell? ⟨v7.heap.size, 5, none⟩ = some (.int .i64 (1)) := HP.out 5
        have hno : ¬ may 2 1 (4097) (1) := by simp [may]
        have HN := Lib.hid hno
        clear hno
        go_wp2_with fail
        have hY : Below wr.heap.size wr ((wr.alloc (.cells #[.int .i64 (4097), .int .i64 (1)] 54)).drew) := ((Below.refl _ _).alloc (Nat.le_refl _) _).drew
        have hYl : wr.heap.size < ((wr.alloc (.cells #[.int .i64 (4097), .int .i64 (1)] 54)).drew).heap.size := by simp
        have hB := (hB.alloc hB.size (.cells #[.int .i64 (4097), .int .i64 (1)] 54)).drew
        have t0 : ((wr.alloc (.cells #[.int .i64 (4097), .int .i64 (1)] 54)).drew).cell? ⟨wr.heap.size, 0, none⟩ = some (.int .i64 (4097)) := by simp
        have t1 : ((wr.alloc (.cells #[.int .i64 (4097), .int .i64 (1)] 54)).drew).cell? ⟨wr.heap.size, 1, none⟩ = some (.int .i64 (1)) := by simp
        go_region_held3 (fun v => v.cell? ⟨wr.heap.size, 0, none⟩ = some (.int .i64 (4097)) ∧ v.cell? ⟨wr.heap.size, 1, none⟩ = some (.int .i64 (1))) (go_keep)
          (first
            | (go_at_call 22; (with_reducible refine (node_any _).mono ?_); rintro e wn ⟨rfl, hbn⟩; have hB := then_below hB hbn; have hY := then_below hY hbn; have hYl := Nat.lt_of_lt_of_le hYl hbn.size; have t0 := (hbn.cell (p := ⟨wr.heap.size, 0, none⟩) (by simp)).trans t0; have t1 := (hbn.cell (p := ⟨wr.heap.size, 1, none⟩) (by simp)).trans t1; clear hbn)
            | (go_at_call 11; (with_reducible refine (new_no 2 1 (4097) (1) _ HN.out).mono ?_); rintro e wm ⟨rfl, hbm⟩; have hB := then_below hB hbm; have hY2 := then_below hY hbm; have t0 := (hbm.cell (p := ⟨wr.heap.size, 0, none⟩) hYl).trans t0; have t1 := (hbm.cell (p := ⟨wr.heap.size, 1, none⟩) hYl).trans t1; clear hbm))
        go_wp2_with fail
        refine ⟨⟨3, by omega, by go_num, hB, Nat.lt_of_lt_of_le hRl hY2.size, Lib.hid (fun o => (hY2.cell (p := ⟨v7.heap.size, o, none⟩) hRl).trans (HP.out o))⟩, ?_⟩
        simp only [intOf]; omega
      · skip
        have p0 : wr.cell? ⟨v7.heap.size, 6, none⟩ = some (.int .i64 (1)) := HP.out 6
        have p1 : wr.cell? ⟨v7.heap.size, 7, none⟩ = some (.int .i64 (4097)) := HP.out 7
        have hno : ¬ may 2 1 (1) (4097) := by simp [may]
        have HN := Lib.hid hno
        clear hno
        go_wp2_with fail
        have hY : Below wr.heap.size wr ((wr.alloc (.cells #[.int .i64 (1), .int .i64 (4097)] 54)).drew) := ((Below.refl _ _).alloc (Nat.le_refl _) _).drew
        have hYl : wr.heap.size < ((wr.alloc (.cells #[.int .i64 (1), .int .i64 (4097)] 54)).drew).heap.size := by simp
        have hB := (hB.alloc hB.size (.cells #[.int .i64 (1), .int .i64 (4097)] 54)).drew
        have t0 : ((wr.alloc (.cells #[.int .i64 (1), .int .i64 (4097)] 54)).drew).cell? ⟨wr.heap.size, 0, none⟩ = some (.int .i64 (1)) := by simp
        have t1 : ((wr.alloc (.cells #[.int .i64 (1), .int .i64 (4097)] 54)).drew).cell? ⟨wr.heap.size, 1, none⟩ = some (.int .i64 (4097)) := by simp
        go_region_held3 (fun v => v.cell? ⟨wr.heap.size, 0, none⟩ = some (.int .i64 (1)) ∧ v.cell? ⟨wr.heap.size, 1, none⟩ = some (.int .i64 (4097))) (go_keep)
          (first
            | (go_at_call 22; (with_reducible refine (node_any _).mono ?_); rintro e wn ⟨rfl, hbn⟩; have hB := then_below hB hbn; have hY := then_below hY hbn; have hYl := Nat.lt_of_lt_of_le hYl hbn.size; have t0 := (hbn.cell (p := ⟨wr.heap.size, 0, none⟩) (by simp)).trans t0; have t1 := (hbn.cell (p := ⟨wr.heap.size, 1, none⟩) (by simp)).trans t1; clear hbn)
            | (go_at_call 11; (with_reducible refine (new_no 2 1 (1) (4097) _ HN.out).mono ?_); rintro e wm ⟨rfl, hbm⟩; have hB := then_below hB hbm; have hY2 := then_below hY hbm; have t0 := (hbm.cell (p := ⟨wr.heap.size, 0, none⟩) hYl).trans t0; have t1 := (hbm.cell (p := ⟨wr.heap.size, 1, none⟩) hYl).trans t1; clear hbm))
        go_wp2_with fail
        refine ⟨⟨4, by omega, by go_num, hB, Nat.lt_of_lt_of_le hRl hY2.size, Lib.hid (fun o => (hY2.cell (p := ⟨v7.heap.size, o, none⟩) hRl).trans (HP.out o))⟩, ?_⟩
        simp only [intOf]; omega
      · skip
        have p0 : wr.cell? ⟨v7.heap.size, 8, none⟩ = some (.int .i64 (-1)) := HP.out 8
        have p1 : wr.cell? ⟨v7.heap.size, 9, none⟩ = some (.int .i64 (-1)) := HP.out 9
        have hno : ¬ may 2 1 (-1) (-1) := by simp [may]
        have HN := Lib.hid hno
        clear hno
        go_wp2_with fail
        have hY : Below wr.heap.size wr ((wr.alloc (.cells #[.int .i64 (-1), .int .i64 (-1)] 54)).drew) := ((Below.refl _ _).alloc (Nat.le_refl _) _).drew
        have hYl : wr.heap.size < ((wr.alloc (.cells #[.int .i64 (-1), .int .i64 (-1)] 54)).drew).heap.size := by simp
        have hB := (hB.alloc hB.size (.cells #[.int .i64 (-1), .int .i64 (-1)] 54)).drew
        have t0 : ((wr.alloc (.cells #[.int .i64 (-1), .int .i64 (-1)] 54)).drew).cell? ⟨wr.heap.size, 0, none⟩ = some (.int .i64 (-1)) := by simp
        have t1 : ((wr.alloc (.cells #[.int .i64 (-1), .int .i64 (-1)] 54)).drew).cell? ⟨wr.heap.size, 1, none⟩ = some (.int .i64 (-1)) := by simp
        go_region_held3 (fun v => v.cell? ⟨wr.heap.size, 0, none⟩ = some (.int .i64 (-1)) ∧ v.cell? ⟨wr.heap.size, 1, none⟩ = some (.int .i64 (-1))) (go_keep)
          (first
            | (go_at_call 22; (with_reducible refine (node_any _).mono ?_); rintro e wn ⟨rfl, hbn⟩; have hB := then_below hB hbn; have hY := then_below hY hbn; have hYl := Nat.lt_of_lt_of_le hYl hbn.size; have t0 := (hbn.cell (p := ⟨wr.heap.size, 0, none⟩) (by simp)).trans t0; have t1 := (hbn.cell (p := ⟨wr.heap.size, 1, none⟩) (by simp)).trans t1; clear hbn)
            | (go_at_call 11; (with_reducible refine (new_no 2 1 (-1) (-1) _ HN.out).mono ?_); rintro e wm ⟨rfl, hbm⟩; have hB := then_below hB hbm; have hY2 := then_below hY hbm; have t0 := (hbm.cell (p := ⟨wr.heap.size, 0, none⟩) hYl).trans t0; have t1 := (hbm.cell (p := ⟨wr.heap.size, 1, none⟩) hYl).trans t1; clear hbm))
        go_wp2_with fail
        refine ⟨⟨5, by omega, by go_num, hB, Nat.lt_of_lt_of_le hRl hY2.size, Lib.hid (fun o => (hY2.cell (p := ⟨v7.heap.size, o, none⟩) hRl).trans (HP.out o))⟩, ?_⟩
        simp only [intOf]; omega
    · obtain rfl : k = 5 := by omega
      clear HP
      go_wp2_with fail
      refine (new_no 0 0 1 1 _ (by simp [may, mayB])).mono ?_
      rintro e y1 ⟨rfl, hb⟩
      have hB := then_below hB hb
      clear hb
      go_wp2_with fail
      refine (node_any _).mono ?_
      rintro e y2 ⟨rfl, hb⟩
      have hB := then_below hB hb
      clear hb
      go_wp2_with fail
      refine (new_of 2 1 6 3 hB ⟨by decide, by decide, by decide, by decide, by decide⟩).mono ?_
      rintro e y3 ⟨H, rfl, hh, -⟩
      clear hB
      go_wp2_with fail
      refine (asks_two ⟨2, 1, 6, 3, 1, 10, true, 9, 0, 0, false⟩ 10 9 1 0 true hh (by constructor <;> decide) rfl rfl).mono ?_
      rintro e v8 ⟨rfl, hX, hK⟩
      have hh := hX
      clear hX hK
      go_wp2_with fail
      refine (answer_any 12 1 4 _).mono ?_
      rintro e v9 ⟨rfl, hb⟩
      have hh := hh.under hb
      clear hb
      go_wp2_with fail
      refine (take_of2 ⟨2, 1, 6, 3, 1, 10, false, 9, 4, 10, false⟩ ⟨12, 0, 0, 0, 0, 1, 4⟩ true 11 hh rfl).mono ?_
      rintro e v10 ⟨rfl, hX, hK⟩
      have hh := hX
      clear hX hK
      go_wp2_with fail
      refine (answer_any 12 1 4 _).mono ?_
      rintro e v11 ⟨rfl, hb⟩
      have hh := hh.under hb
      clear hb
      go_wp2_with fail
      refine (take_of2 ⟨2, 1, 6, 3, 1, 10, false, 9, 4, 10, false⟩ ⟨12, 0, 0, 0, 0, 1, 4⟩ false 11 hh rfl).mono ?_
      rintro e v12 ⟨rfl, hX, hK⟩
      have hh := hX
      clear hX hK
      go_wp2_with fail
      refine (waits_two false hh rfl).mono ?_
      rintro e v13 ⟨rfl, rfl⟩
      go_wp2_with fail
      refine (token_two 4 hh rfl).mono ?_
      rintro e v14 ⟨rfl, rfl⟩
      go_wp2_with fail
      refine (asks_two ⟨2, 1, 6, 3, 1, 10, false, 9, 4, 10, false⟩ 11 0 0 0 true hh (by constructor <;> decide) rfl rfl).mono ?_
      rintro e v15 ⟨rfl, hX, hK⟩
      have hh := hX
      clear hX hK
      go_wp2_with fail
      refine (asks_two ⟨2, 1, 6, 3, 2, 12, true, 10, 4, 10, false⟩ 12 10 2 4 true hh (by constructor <;> decide) rfl rfl).mono ?_
      rintro e v16 ⟨rfl, hX, hK⟩
      have hh := hX
      clear hX hK
      go_wp2_with fail
      refine (asks_two ⟨2, 1, 6, 3, 2, 12, true, 10, 4, 10, false⟩ 14 0 0 0 true hh (by constructor <;> decide) rfl rfl).mono ?_
      rintro e v17 ⟨rfl, hX, hK⟩
      have hh := hX
      clear hX hK
      go_wp2_with fail
      refine (asks_two ⟨2, 1, 6, 3, 3, 15, true, 10, 4, 10, false⟩ 15 10 3 4 true hh (by constructor <;> decide) rfl rfl).mono ?_
      rintro e v18 ⟨rfl, hX, hK⟩
      have hh := hX
      clear hX hK
      go_wp2_with fail
      refine (holds_two true 15 hh (by constructor <;> decide) rfl).mono ?_
      rintro e v19 ⟨rfl, hX, hK⟩
      have hh := hX
      clear hX hK
      go_wp2_with fail
      refine (holds_two false 16 hh (by constructor <;> decide) rfl).mono ?_
      rintro e v20 ⟨rfl, hX, hK⟩
      have hh := hX
      clear hX hK
      go_wp2_with fail
      refine (asks_two ⟨2, 1, 6, 3, 3, 15, true, 10, 4, 10, false⟩ 17 0 0 0 true hh (by constructor <;> decide) rfl rfl).mono ?_
      rintro e v21 ⟨rfl, hX, hK⟩
      have hh := hX
      clear hX hK
      go_wp2_with fail
      refine (asks_two ⟨2, 1, 6, 3, 4, 18, true, 9, 0, 0, false⟩ 18 9 4 0 true hh (by constructor <;> decide) rfl rfl).mono ?_
      rintro e v22 ⟨rfl, hX, hK⟩
      have hh := hX
      clear hX hK
      go_wp2_with fail
      refine (token_two 0 hh rfl).mono ?_
      rintro e v23 ⟨rfl, rfl⟩
      go_wp2_with fail
      refine (copy_of hh).mono ?_
      rintro e v24 ⟨D, rfl, hX, hc, nch⟩
      have hh := hX
      clear hX
      have nch := Ne.symm nch
      go_wp2_with fail
      refine (answer_any 13 4 0 _).mono ?_
      rintro e v25 ⟨rfl, hb⟩
      have hh := hh.under hb
      have hc := hc.under hb
      clear hb
      go_wp2_with fail
      refine (take_of2 ⟨2, 1, 6, 3, 4, 18, false, 9, 0, 0, true⟩ ⟨13, 0, 0, 0, 0, 4, 0⟩ true 18 hh rfl).mono ?_
      rintro e v26 ⟨rfl, hX, hK⟩
      have hc := hc.beside hK nch hh.own
      have hh := hX
      clear hX hK
      go_wp2_with fail
      refine (refused_two true hh rfl).mono ?_
      rintro e v27 ⟨rfl, rfl⟩
      go_wp2_with fail
      refine (asks_two ⟨2, 1, 6, 3, 4, 18, false, 9, 0, 0, true⟩ 50 0 0 0 true hh (by constructor <;> decide) rfl rfl).mono ?_
      rintro e v28 ⟨rfl, hX, hK⟩
      have hc := hc.beside hK nch hh.own
      have hh := hX
      clear hX hK
      clear hh
      go_wp2_with fail
      refine (refused_two false hc rfl).mono ?_
      rintro e v29 ⟨rfl, rfl⟩
      go_wp2_with fail
      refine (answer_any 12 4 9 _).mono ?_
      rintro e v30 ⟨rfl, hb⟩
      have hc := hc.under hb
      clear hb
      go_wp2_with fail
      refine (take_of2 ⟨2, 1, 6, 3, 4, 18, false, 9, 9, 18, false⟩ ⟨12, 0, 0, 0, 0, 4, 9⟩ true 30 hc rfl).mono ?_
      rintro e v31 ⟨rfl, hX, hK⟩
      have hc := hX
      clear hX hK
      go_wp2_with fail
      refine (holds_two false 30 hc (by constructor <;> decide) rfl).mono ?_
      rintro e v32 ⟨rfl, hX, hK⟩
      have hc := hX
      clear hX hK
      go_wp2_with fail
      refine (holds_two true 5 hc (by constructor <;> decide) rfl).mono ?_
      rintro e v33 ⟨rfl, hX, hK⟩
      have hc := hX
      clear hX hK
      go_wp2_with fail
      refine (token_two 9 hc rfl).mono ?_
      rintro e v34 ⟨rfl, rfl⟩
      go_wp2_with fail
      refine (drop_two ⟨2, 1, 6, 3, 4, 18, false, 9, 0, 0, false⟩ ⟨11, 2, 1, 0, 0, 0, 9⟩ true 30 hc rfl).mono ?_
      rintro e v35 ⟨rfl, hX, hK⟩
      have hc := hX
      clear hX hK
      simp only [Fr.val, Fr.cells]
      have hl : v35.heap.size < (v35.alloc (.cells (Fr.cells ⟨11, 2, 1, 0, 0, 0, 9⟩) 37)).heap.size := by simp
      have hg : (v35.alloc (.cells (Fr.cells ⟨11, 2, 1, 0, 0, 0, 9⟩) 37)).heap[v35.heap.size]? = some (.cells (Fr.cells ⟨11, 2, 1, 0, 0, 0, 9⟩) 37 (0, 0)) := heap_alloc_new _ _
      have nD : v35.heap.size ≠ D := by have := hc.here.lt; omega
      have hc := hc.under ((Below.refl _ _).alloc (Nat.le_refl _) (.cells (Fr.cells ⟨11, 2, 1, 0, 0, 0, 9⟩) 37))
      go_wp2_with fail
      refine (drop_two ⟨2, 1, 6, 3, 4, 18, false, 9, 0, 0, false⟩ ⟨0, 0, 0, 0, 0, 0, 0⟩ false 30 hc rfl).mono ?_
      rintro e v36 ⟨rfl, hX, hK⟩
      have hc := hX
      have hg := (hK.block _ hl nD).trans hg
      have hl := Nat.lt_of_lt_of_le hl hK.size
      clear hX hK
      simp only [Fr.val, Fr.cells, Fr.zero]
      go_wp2_with fail
      have hc := hc.under ((Below.refl _ _).alloc (Nat.le_refl _) (.cells Fr.zero.cells 37))
      have hg : (v36.alloc (.cells Fr.zero.cells 37)).heap[v35.heap.size]? = some (.cells (Fr.cells ⟨11, 2, 1, 0, 0, 0, 9⟩) 37 (0, 0)) := (Below.heap_alloc _ _ _ hl).trans hg
      have hl : v35.heap.size < (v36.alloc (.cells Fr.zero.cells 37)).heap.size := by simp; omega
      simp only [Fr.cells, Fr.zero] at hc hg hl
      generalize v36.alloc (.cells #[.int .u8 0, .int .i64 0, .int .i64 0, .int .i64 0, .int .i64 0, .int .i64 0, .int .i64 0, .int .i64 0, .int .i64 0, .slice none 0 0, .slice none 0 0, .slice none 0 0, .slice none 0 0, .slice none 0 0] 37) = Y at hc hg hl ⊢
      generalize v35.heap.size = q at hg hl nD ⊢
      have e0 : Y.drew.cell? ⟨q, 0, none⟩ = some (.int .u8 11) := (cell_of_row _ _ _ _ _ _ hg).trans rfl
      have e1 : Y.drew.cell? ⟨q, 1, none⟩ = some (.int .i64 2) := (cell_of_row _ _ _ _ _ _ hg).trans rfl
      have e2 : Y.drew.cell? ⟨q, 2, none⟩ = some (.int .i64 1) := (cell_of_row _ _ _ _ _ _ hg).trans rfl
      have e3 : Y.drew.cell? ⟨q, 3, none⟩ = some (.int .i64 0) := (cell_of_row _ _ _ _ _ _ hg).trans rfl
      have e4 : Y.drew.cell? ⟨q, 4, none⟩ = some (.int .i64 0) := (cell_of_row _ _ _ _ _ _ hg).trans rfl
      have e5 : Y.drew.cell? ⟨q, 5, none⟩ = some (.int .i64 0) := (cell_of_row _ _ _ _ _ _ hg).trans rfl
      have e6 : Y.drew.cell? ⟨q, 6, none⟩ = some (.int .i64 9) := (cell_of_row _ _ _ _ _ _ hg).trans rfl
      have e7 : Y.drew.cell? ⟨q, 7, none⟩ = some (.int .i64 0) := (cell_of_row _ _ _ _ _ _ hg).trans rfl
      have e8 : Y.drew.cell? ⟨q, 8, none⟩ = some (.int .i64 0) := (cell_of_row _ _ _ _ _ _ hg).trans rfl
      have e9 : Y.drew.cell? ⟨q, 9, none⟩ = some (.slice none 0 0) := (cell_of_row _ _ _ _ _ _ hg).trans rfl
      have e10 : Y.drew.cell? ⟨q, 10, none⟩ = some (.slice none 0 0) := (cell_of_row _ _ _ _ _ _ hg).trans rfl
      have e11 : Y.drew.cell? ⟨q, 11, none⟩ = some (.slice none 0 0) := (cell_of_row _ _ _ _ _ _ hg).trans rfl
      have e12 : Y.drew.cell? ⟨q, 12, none⟩ = some (.slice none 0 0) := (cell_of_row _ _ _ _ _ _ hg).trans rfl
      have e13 : Y.drew.cell? ⟨q, 13, none⟩ = some (.slice none 0 0) := (cell_of_row _ _ _ _ _ _ hg).trans rfl
      have hc := hc.drewN 1
      have hc : Has D _ W Y.drew := hc
      have hl : q < Y.drew.heap.size := hl
      clear hg
      have hBare := fun v => bare_two ⟨11, 2, 1, 0, 0, 0, 9⟩ ⟨11, 2, 1, 0, 0, 0, 9⟩ true v rfl
      simp only [Fr.val, Fr.cells] at hBare
      go_region_held3 (fun v => v.cell? ⟨q, 0, none⟩ = some (.int .u8 11) ∧ v.cell? ⟨q, 1, none⟩ = some (.int .i64 2) ∧ v.cell? ⟨q, 2, none⟩ = some (.int .i64 1) ∧ v.cell? ⟨q, 3, none⟩ = some (.int .i64 0) ∧ v.cell? ⟨q, 4, none⟩ = some (.int .i64 0) ∧ v.cell? ⟨q, 5, none⟩ = some (.int .i64 0) ∧ v.cell? ⟨q, 6, none⟩ = some (.int .i64 9) ∧ v.cell? ⟨q, 7, none⟩ = some (.int .i64 0) ∧ v.cell? ⟨q, 8, none⟩ = some (.int .i64 0) ∧ v.cell? ⟨q, 9, none⟩ = some (.slice none 0 0) ∧ v.cell? ⟨q, 10, none⟩ = some (.slice none 0 0) ∧ v.cell? ⟨q, 11, none⟩ = some (.slice none 0 0) ∧ v.cell? ⟨q, 12, none⟩ = some (.slice none 0 0) ∧ v.cell? ⟨q, 13, none⟩ = some (.slice none 0 0)) (go_keep)
        (first
          | (go_at_call 22; (with_reducible refine (node_any _).mono ?_); rintro e wn ⟨rfl, hbn⟩; have hc := hc.under hbn; have e0 := (hbn.cell (p := ⟨q, 0, none⟩) hl).trans e0; have e1 := (hbn.cell (p := ⟨q, 1, none⟩) hl).trans e1; have e2 := (hbn.cell (p := ⟨q, 2, none⟩) hl).trans e2; have e3 := (hbn.cell (p := ⟨q, 3, none⟩) hl).trans e3; have e4 := (hbn.cell (p := ⟨q, 4, none⟩) hl).trans e4; have e5 := (hbn.cell (p := ⟨q, 5, none⟩) hl).trans e5; have e6 := (hbn.cell (p := ⟨q, 6, none⟩) hl).trans e6; have e7 := (hbn.cell (p := ⟨q, 7, none⟩) hl).trans e7; have e8 := (hbn.cell (p := ⟨q, 8, none⟩) hl).trans e8; have e9 := (hbn.cell (p := ⟨q, 9, none⟩) hl).trans e9; have e10 := (hbn.cell (p := ⟨q, 10, none⟩) hl).trans e10; have e11 := (hbn.cell (p := ⟨q, 11, none⟩) hl).trans e11; have e12 := (hbn.cell (p := ⟨q, 12, none⟩) hl).trans e12; have e13 := (hbn.cell (p := ⟨q, 13, none⟩) hl).trans e13; have hl := Nat.lt_of_lt_of_le hl hbn.size; clear hbn)
          | (go_at_call 20; (with_reducible refine (hBare _).mono ?_); rintro e wn ⟨rfl, hbn⟩; have hc := hc.under hbn; have e0 := (hbn.cell (p := ⟨q, 0, none⟩) hl).trans e0; have e1 := (hbn.cell (p := ⟨q, 1, none⟩) hl).trans e1; have e2 := (hbn.cell (p := ⟨q, 2, none⟩) hl).trans e2; have e3 := (hbn.cell (p := ⟨q, 3, none⟩) hl).trans e3; have e4 := (hbn.cell (p := ⟨q, 4, none⟩) hl).trans e4; have e5 := (hbn.cell (p := ⟨q, 5, none⟩) hl).trans e5; have e6 := (hbn.cell (p := ⟨q, 6, none⟩) hl).trans e6; have e7 := (hbn.cell (p := ⟨q, 7, none⟩) hl).trans e7; have e8 := (hbn.cell (p := ⟨q, 8, none⟩) hl).trans e8; have e9 := (hbn.cell (p := ⟨q, 9, none⟩) hl).trans e9; have e10 := (hbn.cell (p := ⟨q, 10, none⟩) hl).trans e10; have e11 := (hbn.cell (p := ⟨q, 11, none⟩) hl).trans e11; have e12 := (hbn.cell (p := ⟨q, 12, none⟩) hl).trans e12; have e13 := (hbn.cell (p := ⟨q, 13, none⟩) hl).trans e13; have hl := Nat.lt_of_lt_of_le hl hbn.size; clear hbn)
          | (go_at_call 15; (with_reducible refine (token_two 0 hc rfl).mono ?_); rintro e wn ⟨rfl, rfl⟩)
          | (go_at_call 14; (with_reducible refine (holds_two false 19 hc (by constructor <;> decide) rfl).mono ?_); rintro e wn ⟨rfl, hX, hK⟩; have hc := hX; have e0 := (hK.cell (p := ⟨q, 0, none⟩) hl nD).trans e0; have e1 := (hK.cell (p := ⟨q, 1, none⟩) hl nD).trans e1; have e2 := (hK.cell (p := ⟨q, 2, none⟩) hl nD).trans e2; have e3 := (hK.cell (p := ⟨q, 3, none⟩) hl nD).trans e3; have e4 := (hK.cell (p := ⟨q, 4, none⟩) hl nD).trans e4; have e5 := (hK.cell (p := ⟨q, 5, none⟩) hl nD).trans e5; have e6 := (hK.cell (p := ⟨q, 6, none⟩) hl nD).trans e6; have e7 := (hK.cell (p := ⟨q, 7, none⟩) hl nD).trans e7; have e8 := (hK.cell (p := ⟨q, 8, none⟩) hl nD).trans e8; have e9 := (hK.cell (p := ⟨q, 9, none⟩) hl nD).trans e9; have e10 := (hK.cell (p := ⟨q, 10, none⟩) hl nD).trans e10; have e11 := (hK.cell (p := ⟨q, 11, none⟩) hl nD).trans e11; have e12 := (hK.cell (p := ⟨q, 12, none⟩) hl nD).trans e12; have e13 := (hK.cell (p := ⟨q, 13, none⟩) hl nD).trans e13; have hl := Nat.lt_of_lt_of_le hl hK.size; clear hX hK))
      clear e0 e1 e2 e3 e4 e5 e6 e7 e8 e9 e10 e11 e12 e13 hl nD
      go_wp2_with fail
      refine (node_any _).mono ?_
      rintro e y4 ⟨rfl, hb⟩
      have hB := then_below hc.below hb
      clear hb hc
      go_wp2_with fail
      refine (new_of 2 1 6 3 hB ⟨by decide, by decide, by decide, by decide, by decide⟩).mono ?_
      rintro e y5 ⟨G, rfl, hg, -⟩
      clear hB
      go_wp2_with fail
      refine (want_two ⟨2, 1, 6, 3, 1, 0, true, 9, 0, 0, false⟩ ⟨9, 2, 1, 0, 0, 1, 0⟩ true 0 hg (by constructor <;> decide) rfl).mono ?_
      rintro e v37 ⟨rfl, hX, hK⟩
      have hg := hX
      clear hX hK
      simp only [Fr.val, Fr.cells]
      go_wp2_with fail
      refine (answer_any 12 1 4 _).mono ?_
      rintro e v38 ⟨rfl, hb⟩
      have hg := hg.under hb
      clear hb
      go_wp2_with fail
      refine (take_of2 ⟨2, 1, 6, 3, 1, 0, false, 9, 4, 0, false⟩ ⟨12, 0, 0, 0, 0, 1, 4⟩ true 0 hg rfl).mono ?_
      rintro e v39 ⟨rfl, hX, hK⟩
      have hg := hX
      clear hX hK
      go_wp2_with fail
      refine (asks_two ⟨2, 1, 6, 3, 2, 2, true, 10, 4, 0, false⟩ 2 10 2 4 true hg (by constructor <;> decide) rfl rfl).mono ?_
      rintro e v40 ⟨rfl, hX, hK⟩
      have hg := hX
      clear hX hK
      go_wp2_with fail
      refine (answer_any 13 2 0 _).mono ?_
      rintro e v41 ⟨rfl, hb⟩
      have hg := hg.under hb
      clear hb
      go_wp2_with fail
      refine (take_of2 ⟨2, 1, 6, 3, 2, 2, false, 10, 0, 0, false⟩ ⟨13, 0, 0, 0, 0, 2, 0⟩ true 2 hg rfl).mono ?_
      rintro e v42 ⟨rfl, hX, hK⟩
      have hg := hX
      clear hX hK
      go_wp2_with fail
      refine (refused_two false hg rfl).mono ?_
      rintro e v43 ⟨rfl, rfl⟩
      go_wp2_with fail
      refine (holds_two false 2 hg (by constructor <;> decide) rfl).mono ?_
      rintro e v44 ⟨rfl, hX, hK⟩
      have hg := hX
      clear hX hK
      go_wp2_with fail
      refine (asks_two ⟨2, 1, 6, 3, 3, 2, true, 9, 0, 0, false⟩ 2 9 3 0 true hg (by constructor <;> decide) rfl rfl).mono ?_
      rintro e v45 ⟨rfl, hX, hK⟩
      have hg := hX
      clear hX hK
      go_wp2_with fail
      refine (answer_any 12 3 0 _).mono ?_
      rintro e v46 ⟨rfl, hb⟩
      have hg := hg.under hb
      clear hb
      go_wp2_with fail
      refine (take_of2 ⟨2, 1, 6, 3, 3, 2, false, 9, 0, 0, true⟩ ⟨12, 0, 0, 0, 0, 3, 0⟩ true 3 hg rfl).mono ?_
      rintro e v47 ⟨rfl, hX, hK⟩
      have hg := hX
      clear hX hK
      go_wp2_with fail
      refine (refused_two true hg rfl).mono ?_
      rintro e v48 ⟨rfl, rfl⟩
      go_wp2_with fail
      go_ret
      exact ⟨rfl, hg.below⟩
end Go.Proofs.Ytfbmjaelkijmnaa
