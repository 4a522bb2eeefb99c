/-
  The walk of the law NetNames (closed).
-/
import Derived.Test.YtialfpmfiapepaaWorks
namespace Go.Proofs.Ytialfpmfiapepaa
open Go.RowKit
set_option linter.unusedVariables false
set_option linter.unusedSimpArgs false
attribute [local go_sem ↓] Go.wp_at_zero Go.wp_at_succ
section
variable {B C : Nat} {v v' y : Value} {n n' m : N} {W w w' : World}
theorem Hs.beside2 (h : Hs C y m W w) (hT : Turn B v v' w w') (ha : Apart B v C y) (hx : Hs B v' n' W w') : Hs C y m W w' := ⟨h.nt.beside hT ha, h.small, hx.below⟩
theorem Apart.nil (h : B ≠ C) (hy : y.ownBlock ≠ some B) : Apart B (.slice none 0 0) C y := ⟨h, hy, fun e => by simp [Value.ownBlock] at e, fun k hk => by simp [Value.ownBlock] at hk⟩
end
theorem bend_nil1 (k a : Int) (w : World) : Calls Try.prog 17 #[.pointer none, .int .i64 k, .int .i64 a, .int .u32 1] w fun e w' => e = .returned (.int .i64 2) ∧ Below w.heap.size w w' := bendn_nil k a (BitVec.ofNat 32 1) w
set_option maxRecDepth 100000 in
set_option maxHeartbeats 8000000 in
theorem names_walk (W : World) : Calls Try.prog 5 #[] W fun e w' => e = .returned (.bool true) ∧ Below W.heap.size W w' := by
  have HB := Lib.hid (Below.refl W.heap.size W)
  go_enter Try.func5, Try.ntmps5
  go_wp2_with fail
  refine (give_nil 0 _).mono ?_
  rintro e w1 ⟨rfl, hb⟩
  have HB := Lib.hid (then_below HB.out hb)
  clear hb
  go_wp2_with fail
  refine (at_of_nil 0 _).mono ?_
  rintro e w2 ⟨rfl, hb⟩
  have HB := Lib.hid (then_below HB.out hb)
  clear hb
  go_wp2_with fail
  refine (works_any _).mono ?_
  rintro e w3 ⟨rfl, hb⟩
  have HB := Lib.hid (then_below HB.out hb)
  clear hb
  go_wp2_with fail
  refine (send_nil ⟨#[97]⟩ 1 _).mono ?_
  rintro e w4 ⟨rfl, rfl⟩
  go_wp2_with fail
  refine (len_nil _).mono ?_
  rintro e w5 ⟨rfl, rfl⟩
  go_wp2_with fail
  refine (lose_nil 0 _).mono ?_
  rintro e w6 ⟨rfl, rfl⟩
  go_wp2_with fail
  refine (twice_nil 0 _).mono ?_
  rintro e w7 ⟨rfl, hb⟩
  have HB := Lib.hid (then_below HB.out hb)
  clear hb
  go_wp2_with fail
  refine (bend_nil1 0 0 _).mono ?_
  rintro e w8 ⟨rfl, hb⟩
  have HB := Lib.hid (then_below HB.out hb)
  clear hb
  go_wp2_with fail
  refine (copy_nil _).mono ?_
  rintro e w9 ⟨rfl, rfl⟩
  go_wp2_with fail
  have HB1 := Lib.hid (HB.out.alloc HB.out.size (.cells #[.int .i64 0, .int .i64 (-1), .int .i64 65537] 3))
  have HP1 : Hid (∀ o, (w9.alloc (.cells #[.int .i64 0, .int .i64 (-1), .int .i64 65537] 3)).cell? ⟨w9.heap.size, o, none⟩ = (#[.int .i64 0, .int .i64 (-1), .int .i64 65537] : Array Value)[o]?) := Lib.hid (fun o => cell_of_row _ _ o _ _ _ (heap_alloc_new _ _))
  go_loopw [78] (fun x wr => ∃ k : Nat, k ≤ 3 ∧ x = .int .i64 k ∧ Below W.heap.size W wr ∧ Hid (∀ o, wr.cell? ⟨w9.heap.size, o, none⟩ = (#[.int .i64 0, .int .i64 (-1), .int .i64 65537] : Array Value)[o]?)) (fun x _ => 3 - (intOf x).toNat)
  case atStart => exact ⟨0, by omega, rfl, HB1.out, HP1⟩
  case round =>
    clear HB1 HP1 HB
    obtain ⟨k, hk, rfl, hB, HP⟩ := hrel
    by_cases hlt : k < 3
    · rcases (show k = 0 ∨ k = 1 ∨ k = 2 by omega) with rfl | rfl | rfl
      · have p0 : wr.cell? ⟨w9.heap.size, 0, none⟩ = some (.int .i64 (0)) := HP.out 0
        go_wp2_with fail
        refine (new_no (0) _ (by decide)).mono ?_
        rintro e wn ⟨rfl, rfl⟩
        go_wp2_with fail
        refine ⟨⟨1, by omega, by go_num, hB, HP⟩, ?_⟩
        simp only [intOf]; omega
      · have p0 : wr.cell? ⟨w9.heap.size, 1, none⟩ = some (.int .i64 (-1)) := HP.out 1
        go_wp2_with fail
        refine (new_no (-1) _ (by decide)).mono ?_
        rintro e wn ⟨rfl, rfl⟩
        go_wp2_with fail
        refine ⟨⟨2, by omega, by go_num, hB, HP⟩, ?_⟩
        simp only [intOf]; omega
      · have p0 : wr.cell? ⟨w9.heap.size, 2, none⟩ = some (.int .i64 (65537)) := HP.out 2
        go_wp2_with fail
        refine (new_no (65537) _ (by decide)).mono ?_
        rintro e wn ⟨rfl, rfl⟩
        go_wp2_with fail
        refine ⟨⟨3, by omega, by go_num, hB, HP⟩, ?_⟩
        simp only [intOf]; omega
    · obtain rfl : k = 3 := by omega
      clear HP
      go_wp2_with fail
      refine (new_of 65536 hB (by decide) (by decide)).mono ?_
      rintro e z1 ⟨rfl, -, hb⟩
      have hB2 := then_below hB hb
      clear hB hb
      go_wp2_with fail
      refine (new_of 2 hB2 (by decide) (by decide)).mono ?_
      rintro e z2 ⟨rfl, hn, -⟩
      generalize z1.heap.size = Bn at hn ⊢
      clear hB2
      go_wp2_with fail
      refine (send_to ⟨2, [⟨⟨#[97]⟩, 1, false⟩]⟩ false ⟨#[97]⟩ 1 hn (by decide) rfl rfl).mono ?_
      rintro e w10 ⟨rfl, vn, hX, hT⟩
      have hn := hX
      clear hX hT
      go_wp2_with fail
      refine (send_to ⟨2, [⟨⟨#[97]⟩, 1, false⟩, ⟨⟨#[98]⟩, 0, false⟩]⟩ false ⟨#[98]⟩ 0 hn (by decide) rfl rfl).mono ?_
      rintro e w11 ⟨rfl, vn, hX, hT⟩
      have hn := hX
      clear hX hT
      go_wp2_with fail
      refine (send_to ⟨2, [⟨⟨#[98]⟩, 0, false⟩, ⟨⟨#[99]⟩, 3, false⟩]⟩ true ⟨#[99]⟩ 3 hn (by decide) rfl rfl).mono ?_
      rintro e w12 ⟨rfl, vn, hX, hT⟩
      have hn := hX
      clear hX hT
      go_wp2_with fail
      refine (len_to 2 hn rfl).mono ?_
      rintro e w13 ⟨rfl, rfl⟩
      go_wp2_with fail
      refine (is_at_yes _ _ _ _ (0) ⟨#[98]⟩ 0 _ hn.nt rfl rfl rfl).mono ?_
      rintro e w14 ⟨rfl, hb⟩
      have hn := hn.kept hb
      clear hb
      go_wp2_with fail
      refine (is_at_yes _ _ _ _ (1) ⟨#[99]⟩ 3 _ hn.nt rfl rfl rfl).mono ?_
      rintro e w15 ⟨rfl, hb⟩
      have hn := hn.kept hb
      clear hb
      go_wp2_with fail
      refine (twice_to ⟨2, [⟨⟨#[99]⟩, 3, false⟩, ⟨⟨#[98]⟩, 0, false⟩]⟩ 0 (0) hn rfl rfl).mono ?_
      rintro e w16 ⟨rfl, vn, hX, hT⟩
      have hn := hX
      clear hX hT
      go_wp2_with fail
      refine (is_at_yes _ _ _ _ (0) ⟨#[99]⟩ 3 _ hn.nt rfl rfl rfl).mono ?_
      rintro e w17 ⟨rfl, hb⟩
      have hn := hn.kept hb
      clear hb
      go_wp2_with fail
      refine (is_at_yes _ _ _ _ (1) ⟨#[98]⟩ 0 _ hn.nt rfl rfl rfl).mono ?_
      rintro e w18 ⟨rfl, hb⟩
      have hn := hn.kept hb
      clear hb
      go_wp2_with fail
      refine (new_of 4 hn.below (by decide) (by decide)).mono ?_
      rintro e z3 ⟨rfl, hm, hb⟩
      have amn : Apart w18.heap.size (.slice none 0 0) Bn vn := Apart.nil (by have := hn.nt.lt; omega) (fun e => by have := (hn.nt.vlt _ e).2; omega)
      have hn := hn.kept hb
      clear hb
      generalize w18.heap.size = Bm at hm amn ⊢
      go_wp2_with fail
      refine (send_to ⟨4, [⟨⟨#[97]⟩, 1, false⟩]⟩ false ⟨#[97]⟩ 1 hm (by decide) rfl rfl).mono ?_
      rintro e w19 ⟨rfl, vm, hX, hT⟩
      have hn2 := hn.beside2 hT amn hX
      have amn := amn.turn hT hn.nt.lt (fun k hk => (hn.nt.vlt k hk).2)
      have hn := hn2
      clear hn2
      have hm := hX
      clear hX hT
      go_wp2_with fail
      refine (bend_to ⟨4, [⟨⟨#[98]⟩, 1, true⟩]⟩ 0 (0) 0 3 3 hm rfl (by decide) (by decide) rfl (by kernel_rfl)).mono ?_
      rintro e w20 ⟨rfl, vm, hX, hT⟩
      have hn2 := hn.beside2 hT amn hX
      have amn := amn.turn hT hn.nt.lt (fun k hk => (hn.nt.vlt k hk).2)
      have hn := hn2
      clear hn2
      have hm := hX
      clear hX hT
      go_wp2_with fail
      refine (bend_to ⟨4, [⟨⟨#[98]⟩, 1, true⟩]⟩ 7 (0) 0 3 3 hm rfl (by decide) (by decide) rfl (by kernel_rfl)).mono ?_
      rintro e w21 ⟨rfl, vm, hX, hT⟩
      have hn2 := hn.beside2 hT amn hX
      have amn := amn.turn hT hn.nt.lt (fun k hk => (hn.nt.vlt k hk).2)
      have hn := hn2
      clear hn2
      have hm := hX
      clear hX hT
      go_wp2_with fail
      refine (twice_to ⟨4, [⟨⟨#[98]⟩, 1, true⟩, ⟨⟨#[98]⟩, 1, true⟩]⟩ 0 (0) hm rfl rfl).mono ?_
      rintro e w22 ⟨rfl, vm, hX, hT⟩
      have hn2 := hn.beside2 hT amn hX
      have amn := amn.turn hT hn.nt.lt (fun k hk => (hn.nt.vlt k hk).2)
      have hn := hn2
      clear hn2
      have hm := hX
      clear hX hT
      go_wp2_with fail
      refine (bend_to ⟨4, [⟨⟨#[98]⟩, 1, true⟩, ⟨⟨#[98]⟩, 1, true⟩]⟩ 7 (1) 0 3 3 hm rfl (by decide) (by decide) rfl (by kernel_rfl)).mono ?_
      rintro e w23 ⟨rfl, vm, hX, hT⟩
      have hn2 := hn.beside2 hT amn hX
      have amn := amn.turn hT hn.nt.lt (fun k hk => (hn.nt.vlt k hk).2)
      have hn := hn2
      clear hn2
      have hm := hX
      clear hX hT
      go_wp2_with fail
      refine (copy_any _ _ _ _ _ hm.nt).mono ?_
      rintro e z4 ⟨Bc, vc, rfl, hc, hb, hc1, hc2⟩
      have hcs : Hs Bc vc _ W z4 := ⟨hc, hm.small, then_below hm.below hb⟩
      have acm : Apart Bc vc Bm vm := ⟨by have := hm.nt.lt; omega, fun e => by have := (hm.nt.vlt _ e).2; omega, fun e => by have := hc2 _ e; have := hm.nt.lt; omega, fun k hk e => by have := hc2 _ hk; have := (hm.nt.vlt _ e).2; omega⟩
      have acn : Apart Bc vc Bn vn := ⟨by have := hn.nt.lt; omega, fun e => by have := (hn.nt.vlt _ e).2; omega, fun e => by have := hc2 _ e; have := hn.nt.lt; omega, fun k hk e => by have := hc2 _ hk; have := (hn.nt.vlt _ e).2; omega⟩
      have hm := hm.kept hb
      have hn := hn.kept hb
      clear hb hc hc1 hc2
      go_wp2_with fail
      refine (bend_to ⟨4, [⟨⟨#[98]⟩, 1, true⟩, ⟨⟨#[98]⟩, 1, true⟩]⟩ 7 (0) 0 3 3 hcs rfl (by decide) (by decide) rfl (by kernel_rfl)).mono ?_
      rintro e w24 ⟨rfl, vc, hX, hT⟩
      have hn := hn.beside2 hT acn hX
      have hm := hm.beside2 hT acm hX
      have hcs := hX
      clear hX hT
      go_wp2_with fail
      refine (is_at_yes _ _ _ _ (0) ⟨#[98]⟩ 1 _ hm.nt rfl rfl rfl).mono ?_
      rintro e w25 ⟨rfl, hb⟩
      have hn := hn.kept hb
      have hm := hm.kept hb
      clear hb
      go_wp2_with fail
      refine (is_at_yes _ _ _ _ (1) ⟨#[98]⟩ 1 _ hm.nt rfl rfl rfl).mono ?_
      rintro e w26 ⟨rfl, hb⟩
      have hn := hn.kept hb
      have hm := hm.kept hb
      clear hb
      clear hm amn
      go_wp2_with fail
      refine (lose_to ⟨2, [⟨⟨#[99]⟩, 3, false⟩, ⟨⟨#[98]⟩, 0, false⟩]⟩ 5 (-1) hn rfl rfl).mono ?_
      rintro e w27 ⟨rfl, vn, hX, hT⟩
      have hn := hX
      clear hX hT
      go_wp2_with fail
      refine (lose_to ⟨2, [⟨⟨#[99]⟩, 3, false⟩, ⟨⟨#[98]⟩, 0, false⟩]⟩ 5 (2) hn rfl rfl).mono ?_
      rintro e w28 ⟨rfl, vn, hX, hT⟩
      have hn := hX
      clear hX hT
      go_wp2_with fail
      refine (twice_to ⟨2, [⟨⟨#[99]⟩, 3, false⟩, ⟨⟨#[98]⟩, 0, false⟩]⟩ 5 (2) hn rfl rfl).mono ?_
      rintro e w29 ⟨rfl, vn, hX, hT⟩
      have hn := hX
      clear hX hT
      go_wp2_with fail
      refine (bend_to ⟨2, [⟨⟨#[99]⟩, 3, false⟩, ⟨⟨#[98]⟩, 0, false⟩]⟩ 5 (2) 0 1 1 hn rfl (by decide) (by decide) rfl (by kernel_rfl)).mono ?_
      rintro e w30 ⟨rfl, vn, hX, hT⟩
      have hn := hX
      clear hX hT
      go_wp2_with fail
      refine (bend_to ⟨2, [⟨⟨#[99]⟩, 3, false⟩, ⟨⟨#[98]⟩, 0, true⟩]⟩ 0 (1) 9 1 1 hn rfl (by decide) (by decide) rfl (by kernel_rfl)).mono ?_
      rintro e w31 ⟨rfl, vn, hX, hT⟩
      have hn := hX
      clear hX hT
      go_wp2_with fail
      refine (is_at_yes _ _ _ _ (1) ⟨#[98]⟩ 0 _ hn.nt rfl rfl rfl).mono ?_
      rintro e w32 ⟨rfl, hb⟩
      have hn := hn.kept hb
      clear hb
      go_wp2_with fail
      go_ret
      exact ⟨rfl, hn.below⟩
end Go.Proofs.Ytialfpmfiapepaa
