/-
  The walk of the law OutboxNames (closed).
-/
import Derived.Test.YtjdhdmljchnidaaIns
namespace Go.Proofs.Ytjdhdmljchnidaa
open Go.RowKit
set_option linter.unusedVariables false
set_option linter.unusedSimpArgs false
attribute [local go_sem ↓] Go.wp_at_zero Go.wp_at_succ
section
variable {B C : Nat} {v v' y : Value} {n n' m : N} {W w w' : World}
theorem clear_of (h : Hs B v n W w) : Calls Try.prog 20 #[.pointer (some ⟨B, 0, none⟩)] w fun e w' => e = .returned (.tuple #[]) ∧ Now B v ⟨n.max, []⟩ W w w' := by
  obtain ⟨c0, c1⟩ := h.nt.reads
  have f1 := h.nt.free 1
  have hok : N.Ok ⟨n.max, []⟩ := ⟨h.nt.ok.m1, h.nt.ok.m2, by have := h.nt.ok.m1; simp; omega⟩
  have hN : Nt W.heap.size B (.slice none 0 0) ⟨n.max, []⟩ (w.setCell ⟨B, 1, none⟩ (.slice none 0 0)) := Nt.set (n := ⟨n.max, []⟩) (u := v) h.nt.here (World.ownsRow_nil _ _ _ _) (by simp [Value.ownBlock]) hok h.nt.pB
  have hT : Turn B v (.slice none 0 0) w (w.setCell ⟨B, 1, none⟩ (.slice none 0 0)) := by
    have h1 := (Turn.refl B v w).setCell (p := ⟨B, 1, none⟩) (.inl rfl) (.slice none 0 0)
    exact ⟨h1.os, h1.tape, h1.output, h1.size, h1.block, fun k hk => by simp [Value.ownBlock] at hk⟩
  have HD := Lib.hid (show Now B v ⟨n.max, []⟩ W w (w.setCell ⟨B, 1, none⟩ (.slice none 0 0)) from ⟨_, h.turn hN hT (fun f hf => by simp at hf), hT⟩)
  clear hN hT h hok
  go_enter Try.func20, Try.ntmps20
  go_wp2
  go_end0
  exact ⟨rfl, HD.out⟩
theorem Hs.beside2 (h : Hs C y m W w) (hT : Turn B v v' w w') (ha : Apart B v C y) (hx : Hs B v' n' W w') : Hs C y m W w' := ⟨h.nt.beside hT ha, h.bare, hx.below⟩
theorem Apart.nils (h : B ≠ C) : Apart B (.slice none 0 0) C (.slice none 0 0) := ⟨h, fun e => by simp [Value.ownBlock] at e, fun e => by simp [Value.ownBlock] at e, fun k hk => by simp [Value.ownBlock] at hk⟩
theorem take_empty (h : Hs B v n W w) (hb : n.any = false) : Calls Try.prog 14 #[.pointer (some ⟨B, 0, none⟩)] w fun e w' => e = .returned (.tuple #[Fr.zero.val, .bool false]) ∧ Below w.heap.size w w' :=
  take_none _ B v n w h.nt hb
end
theorem clear_nil (w : World) : Calls Try.prog 20 #[.pointer none] w fun e w' => e = .returned (.tuple #[]) ∧ w' = w := by
  go_enter Try.func20, Try.ntmps20
  go_wp2
  go_end0
  exact ⟨rfl, rfl⟩
theorem copy_nil (w : World) : Calls Try.prog 21 #[.pointer none] w fun e w' => e = .returned (.pointer none) ∧ w' = w := by
  go_enter Try.func21, Try.ntmps21
  go_wp2
  go_ret
  exact ⟨rfl, rfl⟩
set_option maxRecDepth 100000 in
set_option maxHeartbeats 4000000 in
theorem names_walk (W : World) : Calls Try.prog 6 #[] W fun e w' => e = .returned (.bool true) ∧ Below W.heap.size W w' := by
  go_enter Try.func6, Try.ntmps6
  go_wp2_with fail
  refine (of_any 5 1 _).mono ?_
  rintro e w1 ⟨rfl, hb1⟩
  go_wp2_with fail
  refine (put_nil _ _).mono ?_
  rintro e w2 ⟨rfl, hb2⟩
  have HB := Lib.hid ((then_below hb1 hb2).alloc (then_below hb1 hb2).size (.cells #[.int .u8 0, .int .i64 0, .int .i64 0, .int .i64 0, .int .i64 0, .int .i64 0, .int .i64 0, .int .i64 0, .int .i64 0, .slice none 0 0, .slice none 0 0, .slice none 0 0, .slice none 0 0, .slice none 0 0] 38))
  clear hb1 hb2
  simp only [Fr.zero, Fr.val, Fr.cells, SL.nil]
  go_wp2_with fail
  refine (take_nil _).mono ?_
  rintro e w3 ⟨rfl, hb⟩
  have HB := Lib.hid ((then_below HB.out hb).alloc (then_below HB.out hb).size (.cells #[.int .u8 0, .int .i64 0, .int .i64 0, .int .i64 0, .int .i64 0, .int .i64 0, .int .i64 0, .int .i64 0, .int .i64 0, .slice none 0 0, .slice none 0 0, .slice none 0 0, .slice none 0 0, .slice none 0 0] 38))
  clear hb
  simp only [Fr.zero, Fr.val, Fr.cells, SL.nil]
  go_wp2_with fail
  refine (clear_nil _).mono ?_
  rintro e w4 ⟨rfl, rfl⟩
  go_wp2_with fail
  refine (works_any _).mono ?_
  rintro e w5 ⟨rfl, hb⟩
  have HB := Lib.hid (then_below HB.out hb)
  clear hb
  go_wp2_with fail
  refine (len_nil _).mono ?_
  rintro e w6 ⟨rfl, rfl⟩
  go_wp2_with fail
  refine (all_nil _).mono ?_
  rintro e w7 ⟨rfl, rfl⟩
  go_wp2_with fail
  refine (copy_nil _).mono ?_
  rintro e w8 ⟨rfl, rfl⟩
  go_wp2_with fail
  have HB1 := Lib.hid (HB.out.alloc HB.out.size (.cells #[.int .i64 0, .int .i64 (-1), .int .i64 4097] 3))
  have HP1 : Hid (∀ o, (w8.alloc (.cells #[.int .i64 0, .int .i64 (-1), .int .i64 4097] 3)).cell? ⟨w8.heap.size, o, none⟩ = (#[.int .i64 0, .int .i64 (-1), .int .i64 4097] : Array Value)[o]?) := Lib.hid (fun o => cell_of_row _ _ o _ _ _ (heap_alloc_new _ _))
  go_loopw [8, 9, 10, 62] (fun _ _ _ x wr => ∃ k : Nat, k ≤ 3 ∧ x = .int .i64 k ∧ Below W.heap.size W wr ∧ Hid (∀ o, wr.cell? ⟨w8.heap.size, o, none⟩ = (#[.int .i64 0, .int .i64 (-1), .int .i64 4097] : Array Value)[o]?)) (fun _ _ _ x _ => 3 - (intOf x).toNat)
  case atStart => exact ⟨0, by omega, rfl, HB1.out, HP1⟩
  case round =>
    clear HB1 HP1 HB
    obtain ⟨k, hk, rfl, hB, HP⟩ := hrel
    by_cases hlt : k < 3
    · rcases (show k = 0 ∨ k = 1 ∨ k = 2 by omega) with rfl | rfl | rfl
      · have p0 : wr.cell? ⟨w8.heap.size, 0, none⟩ = some (.int .i64 (0)) := HP.out 0
        go_wp2_with fail
        refine (new_no (0) _ (by decide)).mono ?_
        rintro e wn ⟨rfl, rfl⟩
        go_wp2_with fail
        go_roundw
        case rel => exact ⟨1, by omega, by go_num, hB, HP⟩
        case measure => simp only [intOf]; omega
      · have p0 : wr.cell? ⟨w8.heap.size, 1, none⟩ = some (.int .i64 (-1)) := HP.out 1
        go_wp2_with fail
        refine (new_no (-1) _ (by decide)).mono ?_
        rintro e wn ⟨rfl, rfl⟩
        go_wp2_with fail
        go_roundw
        case rel => exact ⟨2, by omega, by go_num, hB, HP⟩
        case measure => simp only [intOf]; omega
      · have p0 : wr.cell? ⟨w8.heap.size, 2, none⟩ = some (.int .i64 (4097)) := HP.out 2
        go_wp2_with fail
        refine (new_no (4097) _ (by decide)).mono ?_
        rintro e wn ⟨rfl, rfl⟩
        go_wp2_with fail
        go_roundw
        case rel => exact ⟨3, by omega, by go_num, hB, HP⟩
        case measure => simp only [intOf]; omega
    · obtain rfl : k = 3 := by omega
      clear HP
      go_wp2_with fail
      refine (new_of 4096 hB (by decide) (by decide)).mono ?_
      rintro e z1 ⟨rfl, hq, hbq⟩
      go_wp2_with fail
      refine (new_of 1 hq.below (by decide) (by decide)).mono ?_
      rintro e z2 ⟨rfl, hn, hbn⟩
      have aq : Apart z1.heap.size (.slice none 0 0) wr.heap.size (.slice none 0 0) := Apart.nils (by have := hq.nt.lt; omega)
      have hq := hq.kept hbn
      clear hbn hbq
      generalize z1.heap.size = Bn at hn aq ⊢
      generalize wr.heap.size = Bq at hq aq ⊢
      go_wp2_with fail
      refine (of_any 3 1 _).mono ?_
      rintro e wo ⟨rfl, hb⟩
      have hn := hn.kept hb
      have hq := hq.kept hb
      clear hb
      simp only [Fr.val, Fr.cells, Fr.of, SL.nil]
      go_wp2_with fail
      refine (puts_lit ⟨1, [Fr.of 3 1]⟩ 3 1 0 0 false hn (by kernel_rfl) (by kernel_rfl) (by kernel_rfl)).mono ?_
      rintro e wp ⟨rfl, vn, hX, hT⟩
      have hq2 := hq.beside2 hT aq hX
      have aq := aq.turn hT hq.nt.lt (fun k hk => (hq.nt.vlt k hk).2)
      have hq := hq2
      have hn := hX
      clear hX hT hq2
      go_wp2_with fail
      refine (of_any 4 2 _).mono ?_
      rintro e wo ⟨rfl, hb⟩
      have hn := hn.kept hb
      have hq := hq.kept hb
      clear hb
      simp only [Fr.val, Fr.cells, Fr.of, SL.nil]
      go_wp2_with fail
      refine (of_any 3 1 _).mono ?_
      rintro e wo ⟨rfl, hb⟩
      have hn := hn.kept hb
      have hq := hq.kept hb
      clear hb
      simp only [Fr.val, Fr.cells, Fr.of, SL.nil]
      go_wp2_with fail
      refine (puts_lit ⟨1, [Fr.of 4 2]⟩ 4 2 3 1 true hn (by kernel_rfl) (by kernel_rfl) (by kernel_rfl)).mono ?_
      rintro e wp ⟨rfl, vn, hX, hT⟩
      have hq2 := hq.beside2 hT aq hX
      have aq := aq.turn hT hq.nt.lt (fun k hk => (hq.nt.vlt k hk).2)
      have hq := hq2
      have hn := hX
      clear hX hT hq2
      go_wp2_with fail
      refine (of_any 1 3 _).mono ?_
      rintro e wo ⟨rfl, hb⟩
      have hn := hn.kept hb
      have hq := hq.kept hb
      clear hb
      simp only [Fr.val, Fr.cells, Fr.of, SL.nil]
      go_wp2_with fail
      refine (of_any 4 2 _).mono ?_
      rintro e wo ⟨rfl, hb⟩
      have hn := hn.kept hb
      have hq := hq.kept hb
      clear hb
      simp only [Fr.val, Fr.cells, Fr.of, SL.nil]
      go_wp2_with fail
      refine (puts_lit ⟨1, [Fr.of 1 3]⟩ 1 3 4 2 true hn (by kernel_rfl) (by kernel_rfl) (by kernel_rfl)).mono ?_
      rintro e wp ⟨rfl, vn, hX, hT⟩
      have hq2 := hq.beside2 hT aq hX
      have aq := aq.turn hT hq.nt.lt (fun k hk => (hq.nt.vlt k hk).2)
      have hq := hq2
      have hn := hX
      clear hX hT hq2
      go_wp2_with fail
      refine (of_any 4 4 _).mono ?_
      rintro e wo ⟨rfl, hb⟩
      have hn := hn.kept hb
      have hq := hq.kept hb
      clear hb
      simp only [Fr.val, Fr.cells, Fr.of, SL.nil]
      go_wp2_with fail
      refine (of_any 4 4 _).mono ?_
      rintro e wo ⟨rfl, hb⟩
      have hn := hn.kept hb
      have hq := hq.kept hb
      clear hb
      simp only [Fr.val, Fr.cells, Fr.of, SL.nil]
      go_wp2_with fail
      refine (puts_lit ⟨1, [Fr.of 1 3]⟩ 4 4 4 4 true hn (by kernel_rfl) (by kernel_rfl) (by kernel_rfl)).mono ?_
      rintro e wp ⟨rfl, vn, hX, hT⟩
      have hq2 := hq.beside2 hT aq hX
      have aq := aq.turn hT hq.nt.lt (fun k hk => (hq.nt.vlt k hk).2)
      have hq := hq2
      have hn := hX
      clear hX hT hq2
      go_wp2_with fail
      refine (clear_of hn).mono ?_
      rintro e wc ⟨rfl, vn, hX, hT⟩
      have hq2 := hq.beside2 hT aq hX
      have aq := aq.turn hT hq.nt.lt (fun k hk => (hq.nt.vlt k hk).2)
      have hq := hq2
      have hn := hX
      clear hX hT hq2
      go_wp2_with fail
      refine (take_empty hn rfl).mono ?_
      rintro e wt ⟨rfl, hb⟩
      have hn := hn.kept hb
      have hq := hq.kept hb
      clear hb
      go_wp2_with fail
      refine (len_of hn).mono ?_
      rintro e wl ⟨rfl, rfl⟩
      go_wp2_with fail
      refine (len_of hq).mono ?_
      rintro e wl ⟨rfl, rfl⟩
      go_wp2_with fail
      go_ret
      exact ⟨rfl, hn.below⟩
end Go.Proofs.Ytjdhdmljchnidaa
