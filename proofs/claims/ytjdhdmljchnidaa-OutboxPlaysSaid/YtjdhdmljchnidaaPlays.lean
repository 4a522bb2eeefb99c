/-
  The walk of the law OutboxPlays.
-/
import Derived.Test.YtjdhdmljchnidaaTwo
namespace Go.Proofs.Ytjdhdmljchnidaa
open Go.RowKit
set_option linter.unusedVariables false
set_option linter.unusedSimpArgs false
attribute [local go_sem ↓] Go.wp_at_zero Go.wp_at_succ
/-- Cells of what came in. -/
def In (P b : Nat) (W : World) (c : Nat → Option Value) (at_ : Nat → Nat) : Prop := b < P ∧ ∀ r, r < 15 → W.cell? ⟨b, at_ r, none⟩ = c r
theorem In.at_ {P b : Nat} {W w : World} {c : Nat → Option Value} {a : Nat → Nat} (h : In P b W c a) (hb : Below P W w) : ∀ r, r < 15 → w.cell? ⟨b, a r, none⟩ = c r := fun r hr => (hb.cell (p := ⟨b, a r, none⟩) h.1).trans (h.2 r hr)
set_option maxRecDepth 100000 in
set_option maxHeartbeats 16000000 in
theorem plays_walk (most : Int) (s1 : SL) (l1 : List St) (W : World) (h1 : Ss W.heap.size s1 l1 W) :
    Calls Try.prog 7 #[.int .i64 most, s1.val] W fun e w' => e = .returned (.bool true) ∧ Below W.heap.size W w' := by
  obtain ⟨a1, n1, c1⟩ := s1
  obtain rfl : n1 = l1.length := h1.rd.n
  simp only [SL.val]
  go_enter Try.func7, Try.ntmps7
  go_wp2_with fail
  refine (large_any W.heap.size ⟨a1, l1.length, c1⟩ l1 W h1 (Nat.le_refl _)).mono ?_
  rintro e w1 ⟨g1, rfl, hb1, hg1⟩
  have hba : Below W.heap.size W w1 := hb1
  cases g1
  · obtain ⟨hl1, hs1⟩ := hg1 (by trivial)
    have HSl1 := Lib.hid hs1
    clear hg1 hs1 hb1
    go_wp2_with fail
    by_cases hq : most < 1 ∨ 4096 < most
    · refine (new_no most _ hq).mono ?_
      rintro e w3 ⟨rfl, rfl⟩
      go_wp2_with fail
      refine (rnew_no most _ hq).mono ?_
      rintro e w4 ⟨rfl, rfl⟩
      go_wp2_with fail
      go_ret
      exact ⟨rfl, hba⟩
    · obtain ⟨w3, hw3⟩ : ∃ w3, w3 = w1 := ⟨_, rfl⟩
      rw [← hw3] at hba ⊢
      clear hw3
      have hbc := hba
      refine (new_yes W.heap.size most w3 (by omega) (by omega) hbc.size).mono ?_
      rintro e w4 ⟨rfl, hN0, hb4⟩
      go_wp2_with fail
      refine (rnew_yes W.heap.size most w4 (by omega) (by omega) (Nat.le_trans hbc.size hb4.size)).mono ?_
      rintro e w5 ⟨rfl, hR0, hb5⟩
      clear hq hba
      obtain ⟨P, hPW⟩ : ∃ P, P = W.heap.size := ⟨_, rfl⟩
      have hb4s := hb4.size
      have hlt4 := hN0.lt
      have hO : Two P w3.heap.size (.slice none 0 0) ⟨most, []⟩ [] w4.heap.size (.slice none 0 0) [] W w5 := by
        rw [hPW]
        exact ⟨⟨hN0.kept hb5, Bx.nil _ _ _, then_below (then_below hbc hb4) hb5, Nat.le_refl _⟩, hR0, fun h => absurd rfl h⟩
      have H1 : Hid (Ss P ⟨a1, l1.length, c1⟩ l1 W) := Lib.hid (by rw [hPW]; exact h1)
      have HP := Lib.hid hPW
      generalize w3.heap.size = B at hO ⊢
      generalize w4.heap.size = R at hO ⊢
      clear hN0 hb4 hbc h1 hPW hb5 hR0 hb4s hlt4
      go_wp2_with fail
      go_loopw [9] (fun i wr => ∃ (k : Nat) (v : Value) (n : N) (xs : List X) (rv : Value) (rl : List Fr), k ≤ l1.length ∧ i = .int .i64 k ∧ Two P B v n xs R rv rl W wr ∧ n.max = most) (fun i _ => l1.length - (intOf i).toNat)
      case atStart => exact ⟨0, _, _, [], _, [], by omega, rfl, hO, rfl⟩
      case round =>
        clear hO
        obtain ⟨k, v, n, xs, rv, rl, hk, rfl, hT, hm⟩ := hrel
        by_cases hlt : k < l1.length
        · have HT := Lib.hid hT
          have HM := Lib.hid hm
          obtain ⟨b, o, e, -, hbP, -, -, hc⟩ := H1.out.rd.cell hlt
          have hok := (H1.out.ok _ (List.getElem_mem hlt)).x
          have hsm := HSl1.out _ (List.getElem_mem hlt)
          simp only at e
          subst e
          generalize l1[k] = s at hc hok hsm
          obtain ⟨kd, x⟩ := s
          simp only at hok hsm
          have hDp : ∀ w, Below P W w → Deep P 0 P x.dat x.f w := fun w hb => (hok.below hb).deep hsm
          obtain ⟨f, hf⟩ : ∃ f, f = x.f := ⟨_, rfl⟩
          have hc2 : In P b W (fun r => ([.int .u8 kd, .int .u8 f.kind, .int .i64 f.fa, .int .i64 f.fi, .int .i64 f.ta, .int .i64 f.ti, .int .i64 f.n, .int .i64 f.token, .int .i64 f.ba, .int .i64 f.bi, .slice f.ms.a f.ms.n f.ms.c, .slice f.fs.a f.fs.n f.fs.c, .slice f.rs.a f.rs.n f.rs.c, .slice f.cs.a f.cs.n f.cs.c, .slice f.ss.a f.ss.n f.ss.c] : List Value)[r]?) (fun r => o + (k * 15 + r)) := ⟨hbP, fun r hr => (hc r hr).trans (by rw [hf]; simp only [elS, Fr.cells])⟩
          rw [← hf] at hDp
          generalize x.dat = d at hDp
          have HI := Lib.hid hc2
          have HDp := Lib.hid hDp
          clear hc hok hsm hDp hc2 hT hm hf
          have hc5 := HI.out.at_ HT.out.one.below
          have x0 : wr.cell? ⟨b, o + k * 15, none⟩ = some (.int .u8 kd) := hc5 0 (by decide)
          have x1 : wr.cell? ⟨b, o + k * 15 + 1, none⟩ = some (.int .u8 f.kind) := by have := hc5 1 (by decide); rwa [← Nat.add_assoc] at this
          have x2 : wr.cell? ⟨b, o + k * 15 + 2, none⟩ = some (.int .i64 f.fa) := by have := hc5 2 (by decide); rwa [← Nat.add_assoc] at this
          have x3 : wr.cell? ⟨b, o + k * 15 + 3, none⟩ = some (.int .i64 f.fi) := by have := hc5 3 (by decide); rwa [← Nat.add_assoc] at this
          have x4 : wr.cell? ⟨b, o + k * 15 + 4, none⟩ = some (.int .i64 f.ta) := by have := hc5 4 (by decide); rwa [← Nat.add_assoc] at this
          have x5 : wr.cell? ⟨b, o + k * 15 + 5, none⟩ = some (.int .i64 f.ti) := by have := hc5 5 (by decide); rwa [← Nat.add_assoc] at this
          have x6 : wr.cell? ⟨b, o + k * 15 + 6, none⟩ = some (.int .i64 f.n) := by have := hc5 6 (by decide); rwa [← Nat.add_assoc] at this
          have x7 : wr.cell? ⟨b, o + k * 15 + 7, none⟩ = some (.int .i64 f.token) := by have := hc5 7 (by decide); rwa [← Nat.add_assoc] at this
          have x8 : wr.cell? ⟨b, o + k * 15 + 8, none⟩ = some (.int .i64 f.ba) := by have := hc5 8 (by decide); rwa [← Nat.add_assoc] at this
          have x9 : wr.cell? ⟨b, o + k * 15 + 9, none⟩ = some (.int .i64 f.bi) := by have := hc5 9 (by decide); rwa [← Nat.add_assoc] at this
          have x10 : wr.cell? ⟨b, o + k * 15 + 10, none⟩ = some (.slice f.ms.a f.ms.n f.ms.c) := by have := hc5 10 (by decide); rwa [← Nat.add_assoc] at this
          have x11 : wr.cell? ⟨b, o + k * 15 + 11, none⟩ = some (.slice f.fs.a f.fs.n f.fs.c) := by have := hc5 11 (by decide); rwa [← Nat.add_assoc] at this
          have x12 : wr.cell? ⟨b, o + k * 15 + 12, none⟩ = some (.slice f.rs.a f.rs.n f.rs.c) := by have := hc5 12 (by decide); rwa [← Nat.add_assoc] at this
          have x13 : wr.cell? ⟨b, o + k * 15 + 13, none⟩ = some (.slice f.cs.a f.cs.n f.cs.c) := by have := hc5 13 (by decide); rwa [← Nat.add_assoc] at this
          have x14 : wr.cell? ⟨b, o + k * 15 + 14, none⟩ = some (.slice f.ss.a f.ss.n f.ss.c) := by have := hc5 14 (by decide); rwa [← Nat.add_assoc] at this
          clear hc5
          go_upto_block 2 with fail
          go_cut [10, 11, 12, 13, 14, 15, 16, 17, 18, 19] (fun _ _ _ _ _ _ _ _ _ _ wx => ∃ (v : Value) (n : N) (xs : List X) (rv : Value) (rl : List Fr), Two P B v n xs R rv rl W wx ∧ n.max = most)
          case first =>
            by_cases h0 : kd = 0
            · as_aux_lemma =>
                subst h0
                go_wp2_with fail
                refine (copied_of d f wr (HDp.out wr HT.out.one.below) HT.out.one.size HT.out.one.size).mono ?_
                rintro e w5 ⟨fi, rfl, hDi, hb5⟩
                have H5 := Lib.hid (In0.of HT.out HM.out hDi hb5)
                clear hDi hb5 HT HM x0 x1 x2 x3 x4 x5 x6 x7 x8 x9 x10 x11 x12 x13 x14
                obtain ⟨jk, jfa, jfi, jta, jti, jn, jtk, jba, jbi, ⟨ja1, jn1, jc1⟩, ⟨ja2, jn2, jc2⟩, ⟨ja3, jn3, jc3⟩, ⟨ja4, jn4, jc4⟩, ⟨ja5, jn5, jc5⟩⟩ := fi
                simp only [Fr.val, Fr.cells] at H5 ⊢
                go_wp2_with fail
                refine (put_two H5.out).mono ?_
                rintro e w6 ⟨v2, n2, xs2, g, lo2, hi2, bf, rfl, HBF, H6, HO⟩
                clear H5
                obtain ⟨gk, gfa, gfi, gta, gti, gn, gtk, gba, gbi, ⟨ga1, gn1, gc1⟩, ⟨ga2, gn2, gc2⟩, ⟨ga3, gn3, gc3⟩, ⟨ga4, gn4, gc4⟩, ⟨ga5, gn5, gc5⟩⟩ := g
                simp only [Fr.val, Fr.cells] at H6 ⊢
                go_upto_region 16 with fail
                obtain ⟨w7, hw7⟩ : ∃ w7, w7 = w6.alloc (.cells #[.int .u8 gk, .int .i64 gfa, .int .i64 gfi, .int .i64 gta, .int .i64 gti, .int .i64 gn, .int .i64 gtk, .int .i64 gba, .int .i64 gbi, .slice ga1 gn1 gc1, .slice ga2 gn2 gc2, .slice ga3 gn3 gc3, .slice ga4 gn4 gc4, .slice ga5 gn5 gc5] 38) := ⟨_, rfl⟩
                rw [← hw7] at H6 ⊢
                clear hw7
                have hc7 := HI.out.at_ H6.out.one.below
                have x0 : w7.cell? ⟨b, o + k * 15, none⟩ = some (.int .u8 0) := hc7 0 (by decide)
                have x1 : w7.cell? ⟨b, o + k * 15 + 1, none⟩ = some (.int .u8 f.kind) := by have := hc7 1 (by decide); rwa [← Nat.add_assoc] at this
                have x2 : w7.cell? ⟨b, o + k * 15 + 2, none⟩ = some (.int .i64 f.fa) := by have := hc7 2 (by decide); rwa [← Nat.add_assoc] at this
                have x3 : w7.cell? ⟨b, o + k * 15 + 3, none⟩ = some (.int .i64 f.fi) := by have := hc7 3 (by decide); rwa [← Nat.add_assoc] at this
                have x4 : w7.cell? ⟨b, o + k * 15 + 4, none⟩ = some (.int .i64 f.ta) := by have := hc7 4 (by decide); rwa [← Nat.add_assoc] at this
                have x5 : w7.cell? ⟨b, o + k * 15 + 5, none⟩ = some (.int .i64 f.ti) := by have := hc7 5 (by decide); rwa [← Nat.add_assoc] at this
                have x6 : w7.cell? ⟨b, o + k * 15 + 6, none⟩ = some (.int .i64 f.n) := by have := hc7 6 (by decide); rwa [← Nat.add_assoc] at this
                have x7 : w7.cell? ⟨b, o + k * 15 + 7, none⟩ = some (.int .i64 f.token) := by have := hc7 7 (by decide); rwa [← Nat.add_assoc] at this
                have x8 : w7.cell? ⟨b, o + k * 15 + 8, none⟩ = some (.int .i64 f.ba) := by have := hc7 8 (by decide); rwa [← Nat.add_assoc] at this
                have x9 : w7.cell? ⟨b, o + k * 15 + 9, none⟩ = some (.int .i64 f.bi) := by have := hc7 9 (by decide); rwa [← Nat.add_assoc] at this
                have x10 : w7.cell? ⟨b, o + k * 15 + 10, none⟩ = some (.slice f.ms.a f.ms.n f.ms.c) := by have := hc7 10 (by decide); rwa [← Nat.add_assoc] at this
                have x11 : w7.cell? ⟨b, o + k * 15 + 11, none⟩ = some (.slice f.fs.a f.fs.n f.fs.c) := by have := hc7 11 (by decide); rwa [← Nat.add_assoc] at this
                have x12 : w7.cell? ⟨b, o + k * 15 + 12, none⟩ = some (.slice f.rs.a f.rs.n f.rs.c) := by have := hc7 12 (by decide); rwa [← Nat.add_assoc] at this
                have x13 : w7.cell? ⟨b, o + k * 15 + 13, none⟩ = some (.slice f.cs.a f.cs.n f.cs.c) := by have := hc7 13 (by decide); rwa [← Nat.add_assoc] at this
                have x14 : w7.cell? ⟨b, o + k * 15 + 14, none⟩ = some (.slice f.ss.a f.ss.n f.ss.c) := by have := hc7 14 (by decide); rwa [← Nat.add_assoc] at this
                clear hc7
                go_wp2_with fail
                refine (rput_two f d bf H6.out HO.out.1 HO.out.2.1 (HDp.out w7 H6.out.one.below) HBF.out).mono ?_
                rintro e w8 ⟨rv2, rl2, gw, rfl, H8, HDw⟩
                clear x0 x1 x2 x3 x4 x5 x6 x7 x8 x9 x10 x11 x12 x13 x14
                have hbA : Below w8.heap.size w8 (w8.alloc (.cells gw.cells 38)) := (Below.refl _ _).alloc (Nat.le_refl _) _
                have H9 := Lib.hid (And.intro (H8.out.kept hbA) (And.intro (heap_alloc_new w8 (.cells gw.cells 38)) (HDw.out.below hbA)))
                clear hbA H8 HDw H6
                obtain ⟨ek, efa, efi, eta, eti, en, etk, eba, ebi, ⟨ea1, en1, ec1⟩, ⟨ea2, en2, ec2⟩, ⟨ea3, en3, ec3⟩, ⟨ea4, en4, ec4⟩, ⟨ea5, en5, ec5⟩⟩ := gw
                simp only [Fr.val, Fr.cells] at H9 ⊢
                go_upto_region 17 with fail
                obtain ⟨w9, hw9⟩ : ∃ w9, w9 = w8.alloc (.cells #[.int .u8 ek, .int .i64 efa, .int .i64 efi, .int .i64 eta, .int .i64 eti, .int .i64 en, .int .i64 etk, .int .i64 eba, .int .i64 ebi, .slice ea1 en1 ec1, .slice ea2 en2 ec2, .slice ea3 en3 ec3, .slice ea4 en4 ec4, .slice ea5 en5 ec5] 38) := ⟨_, rfl⟩
                rw [← hw9] at H9 ⊢
                clear hw9
                have y0 : w9.cell? ⟨w6.heap.size, 0, none⟩ = some (.int .u8 gk) := (cell_of_row _ _ _ _ _ _ (H9.out.1.outr)).trans rfl
                have y1 : w9.cell? ⟨w6.heap.size, 1, none⟩ = some (.int .i64 gfa) := (cell_of_row _ _ _ _ _ _ (H9.out.1.outr)).trans rfl
                have y2 : w9.cell? ⟨w6.heap.size, 2, none⟩ = some (.int .i64 gfi) := (cell_of_row _ _ _ _ _ _ (H9.out.1.outr)).trans rfl
                have y3 : w9.cell? ⟨w6.heap.size, 3, none⟩ = some (.int .i64 gta) := (cell_of_row _ _ _ _ _ _ (H9.out.1.outr)).trans rfl
                have y4 : w9.cell? ⟨w6.heap.size, 4, none⟩ = some (.int .i64 gti) := (cell_of_row _ _ _ _ _ _ (H9.out.1.outr)).trans rfl
                have y5 : w9.cell? ⟨w6.heap.size, 5, none⟩ = some (.int .i64 gn) := (cell_of_row _ _ _ _ _ _ (H9.out.1.outr)).trans rfl
                have y6 : w9.cell? ⟨w6.heap.size, 6, none⟩ = some (.int .i64 gtk) := (cell_of_row _ _ _ _ _ _ (H9.out.1.outr)).trans rfl
                have y7 : w9.cell? ⟨w6.heap.size, 7, none⟩ = some (.int .i64 gba) := (cell_of_row _ _ _ _ _ _ (H9.out.1.outr)).trans rfl
                have y8 : w9.cell? ⟨w6.heap.size, 8, none⟩ = some (.int .i64 gbi) := (cell_of_row _ _ _ _ _ _ (H9.out.1.outr)).trans rfl
                have y9 : w9.cell? ⟨w6.heap.size, 9, none⟩ = some (.slice ga1 gn1 gc1) := (cell_of_row _ _ _ _ _ _ (H9.out.1.outr)).trans rfl
                have y10 : w9.cell? ⟨w6.heap.size, 10, none⟩ = some (.slice ga2 gn2 gc2) := (cell_of_row _ _ _ _ _ _ (H9.out.1.outr)).trans rfl
                have y11 : w9.cell? ⟨w6.heap.size, 11, none⟩ = some (.slice ga3 gn3 gc3) := (cell_of_row _ _ _ _ _ _ (H9.out.1.outr)).trans rfl
                have y12 : w9.cell? ⟨w6.heap.size, 12, none⟩ = some (.slice ga4 gn4 gc4) := (cell_of_row _ _ _ _ _ _ (H9.out.1.outr)).trans rfl
                have y13 : w9.cell? ⟨w6.heap.size, 13, none⟩ = some (.slice ga5 gn5 gc5) := (cell_of_row _ _ _ _ _ _ (H9.out.1.outr)).trans rfl
                have z0 : w9.cell? ⟨w8.heap.size, 0, none⟩ = some (.int .u8 ek) := (cell_of_row _ _ _ _ _ _ (H9.out.2.1)).trans rfl
                have z1 : w9.cell? ⟨w8.heap.size, 1, none⟩ = some (.int .i64 efa) := (cell_of_row _ _ _ _ _ _ (H9.out.2.1)).trans rfl
                have z2 : w9.cell? ⟨w8.heap.size, 2, none⟩ = some (.int .i64 efi) := (cell_of_row _ _ _ _ _ _ (H9.out.2.1)).trans rfl
                have z3 : w9.cell? ⟨w8.heap.size, 3, none⟩ = some (.int .i64 eta) := (cell_of_row _ _ _ _ _ _ (H9.out.2.1)).trans rfl
                have z4 : w9.cell? ⟨w8.heap.size, 4, none⟩ = some (.int .i64 eti) := (cell_of_row _ _ _ _ _ _ (H9.out.2.1)).trans rfl
                have z5 : w9.cell? ⟨w8.heap.size, 5, none⟩ = some (.int .i64 en) := (cell_of_row _ _ _ _ _ _ (H9.out.2.1)).trans rfl
                have z6 : w9.cell? ⟨w8.heap.size, 6, none⟩ = some (.int .i64 etk) := (cell_of_row _ _ _ _ _ _ (H9.out.2.1)).trans rfl
                have z7 : w9.cell? ⟨w8.heap.size, 7, none⟩ = some (.int .i64 eba) := (cell_of_row _ _ _ _ _ _ (H9.out.2.1)).trans rfl
                have z8 : w9.cell? ⟨w8.heap.size, 8, none⟩ = some (.int .i64 ebi) := (cell_of_row _ _ _ _ _ _ (H9.out.2.1)).trans rfl
                have z9 : w9.cell? ⟨w8.heap.size, 9, none⟩ = some (.slice ea1 en1 ec1) := (cell_of_row _ _ _ _ _ _ (H9.out.2.1)).trans rfl
                have z10 : w9.cell? ⟨w8.heap.size, 10, none⟩ = some (.slice ea2 en2 ec2) := (cell_of_row _ _ _ _ _ _ (H9.out.2.1)).trans rfl
                have z11 : w9.cell? ⟨w8.heap.size, 11, none⟩ = some (.slice ea3 en3 ec3) := (cell_of_row _ _ _ _ _ _ (H9.out.2.1)).trans rfl
                have z12 : w9.cell? ⟨w8.heap.size, 12, none⟩ = some (.slice ea4 en4 ec4) := (cell_of_row _ _ _ _ _ _ (H9.out.2.1)).trans rfl
                have z13 : w9.cell? ⟨w8.heap.size, 13, none⟩ = some (.slice ea5 en5 ec5) := (cell_of_row _ _ _ _ _ _ (H9.out.2.1)).trans rfl
                have hbb : (bf != bf) = false := by simp
                go_wp2_with fail
                refine (same_deep _ ⟨gk, gfa, gfi, gta, gti, gn, gtk, gba, gbi, ⟨ga1, gn1, gc1⟩, ⟨ga2, gn2, gc2⟩, ⟨ga3, gn3, gc3⟩, ⟨ga4, gn4, gc4⟩, ⟨ga5, gn5, gc5⟩⟩ ⟨ek, efa, efi, eta, eti, en, etk, eba, ebi, ⟨ea1, en1, ec1⟩, ⟨ea2, en2, ec2⟩, ⟨ea3, en3, ec3⟩, ⟨ea4, en4, ec4⟩, ⟨ea5, en5, ec5⟩⟩ w9 H9.out.1.outD H9.out.2.2).mono ?_
                rintro e w10 ⟨rfl, hb10⟩
                have H10 := Lib.hid (H9.out.1.kept hb10)
                clear y0 y1 y2 y3 y4 y5 y6 y7 y8 y9 y10 y11 y12 y13 z0 z1 z2 z3 z4 z5 z6 z7 z8 z9 z10 z11 z12 z13 hb10 H9 hbb
                have y0 : w10.cell? ⟨w5.heap.size, 0, none⟩ = some (.int .u8 jk) := (cell_of_row _ _ _ _ _ _ (H10.out.inr)).trans rfl
                have y1 : w10.cell? ⟨w5.heap.size, 1, none⟩ = some (.int .i64 jfa) := (cell_of_row _ _ _ _ _ _ (H10.out.inr)).trans rfl
                have y2 : w10.cell? ⟨w5.heap.size, 2, none⟩ = some (.int .i64 jfi) := (cell_of_row _ _ _ _ _ _ (H10.out.inr)).trans rfl
                have y3 : w10.cell? ⟨w5.heap.size, 3, none⟩ = some (.int .i64 jta) := (cell_of_row _ _ _ _ _ _ (H10.out.inr)).trans rfl
                have y4 : w10.cell? ⟨w5.heap.size, 4, none⟩ = some (.int .i64 jti) := (cell_of_row _ _ _ _ _ _ (H10.out.inr)).trans rfl
                have y5 : w10.cell? ⟨w5.heap.size, 5, none⟩ = some (.int .i64 jn) := (cell_of_row _ _ _ _ _ _ (H10.out.inr)).trans rfl
                have y6 : w10.cell? ⟨w5.heap.size, 6, none⟩ = some (.int .i64 jtk) := (cell_of_row _ _ _ _ _ _ (H10.out.inr)).trans rfl
                have y7 : w10.cell? ⟨w5.heap.size, 7, none⟩ = some (.int .i64 jba) := (cell_of_row _ _ _ _ _ _ (H10.out.inr)).trans rfl
                have y8 : w10.cell? ⟨w5.heap.size, 8, none⟩ = some (.int .i64 jbi) := (cell_of_row _ _ _ _ _ _ (H10.out.inr)).trans rfl
                have y9 : w10.cell? ⟨w5.heap.size, 9, none⟩ = some (.slice ja1 jn1 jc1) := (cell_of_row _ _ _ _ _ _ (H10.out.inr)).trans rfl
                have y10 : w10.cell? ⟨w5.heap.size, 10, none⟩ = some (.slice ja2 jn2 jc2) := (cell_of_row _ _ _ _ _ _ (H10.out.inr)).trans rfl
                have y11 : w10.cell? ⟨w5.heap.size, 11, none⟩ = some (.slice ja3 jn3 jc3) := (cell_of_row _ _ _ _ _ _ (H10.out.inr)).trans rfl
                have y12 : w10.cell? ⟨w5.heap.size, 12, none⟩ = some (.slice ja4 jn4 jc4) := (cell_of_row _ _ _ _ _ _ (H10.out.inr)).trans rfl
                have y13 : w10.cell? ⟨w5.heap.size, 13, none⟩ = some (.slice ja5 jn5 jc5) := (cell_of_row _ _ _ _ _ _ (H10.out.inr)).trans rfl
                go_wp2_with fail
                refine (spoil_deep d ⟨jk, jfa, jfi, jta, jti, jn, jtk, jba, jbi, ⟨ja1, jn1, jc1⟩, ⟨ja2, jn2, jc2⟩, ⟨ja3, jn3, jc3⟩, ⟨ja4, jn4, jc4⟩, ⟨ja5, jn5, jc5⟩⟩ w10 H10.out.inD HO.out.2.2.2.2.1 H10.out.hi).mono ?_
                rintro e w11 ⟨rfl, ho11⟩
                have H11 := Lib.hid (And.intro (H10.out.spoil ho11 HO.out.2.2.2.2.1 HO.out.2.2.1 HO.out.2.2.2.2.2.2) (Nat.le_trans H10.out.ho ho11.size))
                clear y0 y1 y2 y3 y4 y5 y6 y7 y8 y9 y10 y11 y12 y13 H10 ho11
                have y0 : w11.cell? ⟨w6.heap.size, 0, none⟩ = some (.int .u8 gk) := (cell_of_row _ _ _ _ _ _ (H11.out.1.2.1)).trans rfl
                have y1 : w11.cell? ⟨w6.heap.size, 1, none⟩ = some (.int .i64 gfa) := (cell_of_row _ _ _ _ _ _ (H11.out.1.2.1)).trans rfl
                have y2 : w11.cell? ⟨w6.heap.size, 2, none⟩ = some (.int .i64 gfi) := (cell_of_row _ _ _ _ _ _ (H11.out.1.2.1)).trans rfl
                have y3 : w11.cell? ⟨w6.heap.size, 3, none⟩ = some (.int .i64 gta) := (cell_of_row _ _ _ _ _ _ (H11.out.1.2.1)).trans rfl
                have y4 : w11.cell? ⟨w6.heap.size, 4, none⟩ = some (.int .i64 gti) := (cell_of_row _ _ _ _ _ _ (H11.out.1.2.1)).trans rfl
                have y5 : w11.cell? ⟨w6.heap.size, 5, none⟩ = some (.int .i64 gn) := (cell_of_row _ _ _ _ _ _ (H11.out.1.2.1)).trans rfl
                have y6 : w11.cell? ⟨w6.heap.size, 6, none⟩ = some (.int .i64 gtk) := (cell_of_row _ _ _ _ _ _ (H11.out.1.2.1)).trans rfl
                have y7 : w11.cell? ⟨w6.heap.size, 7, none⟩ = some (.int .i64 gba) := (cell_of_row _ _ _ _ _ _ (H11.out.1.2.1)).trans rfl
                have y8 : w11.cell? ⟨w6.heap.size, 8, none⟩ = some (.int .i64 gbi) := (cell_of_row _ _ _ _ _ _ (H11.out.1.2.1)).trans rfl
                have y9 : w11.cell? ⟨w6.heap.size, 9, none⟩ = some (.slice ga1 gn1 gc1) := (cell_of_row _ _ _ _ _ _ (H11.out.1.2.1)).trans rfl
                have y10 : w11.cell? ⟨w6.heap.size, 10, none⟩ = some (.slice ga2 gn2 gc2) := (cell_of_row _ _ _ _ _ _ (H11.out.1.2.1)).trans rfl
                have y11 : w11.cell? ⟨w6.heap.size, 11, none⟩ = some (.slice ga3 gn3 gc3) := (cell_of_row _ _ _ _ _ _ (H11.out.1.2.1)).trans rfl
                have y12 : w11.cell? ⟨w6.heap.size, 12, none⟩ = some (.slice ga4 gn4 gc4) := (cell_of_row _ _ _ _ _ _ (H11.out.1.2.1)).trans rfl
                have y13 : w11.cell? ⟨w6.heap.size, 13, none⟩ = some (.slice ga5 gn5 gc5) := (cell_of_row _ _ _ _ _ _ (H11.out.1.2.1)).trans rfl
                go_wp2_with fail
                refine (spoil_deep _ ⟨gk, gfa, gfi, gta, gti, gn, gtk, gba, gbi, ⟨ga1, gn1, gc1⟩, ⟨ga2, gn2, gc2⟩, ⟨ga3, gn3, gc3⟩, ⟨ga4, gn4, gc4⟩, ⟨ga5, gn5, gc5⟩⟩ w11 H11.out.1.2.2 HO.out.2.2.2.2.2.1 H11.out.2).mono ?_
                rintro e w12 ⟨rfl, ho12⟩
                have H12 := H11.out.1.1.over ho12 HO.out.2.2.2.2.2.1 HO.out.2.2.2.1
                clear y0 y1 y2 y3 y4 y5 y6 y7 y8 y9 y10 y11 y12 y13 H11 ho12
                go_wp2_with fail
                go_meet
                case rel => exact ⟨v2, n2, xs2, rv2, rl2, H12, HO.out.1⟩
            · have h0b : (kd == 0) = false := by simpa using h0
              by_cases hk1 : kd = 1
              · as_aux_lemma =>
                  subst hk1
                  go_wp2_with fail
                  refine (take_two HT.out HM.out).mono ?_
                  rintro e w5 ⟨v2, n2, g, lo2, hi2, ba, rfl, HBA, H5⟩
                  clear HT HM x0 x1 x2 x3 x4 x5 x6 x7 x8 x9 x10 x11 x12 x13 x14
                  obtain ⟨gk, gfa, gfi, gta, gti, gn, gtk, gba, gbi, ⟨ga1, gn1, gc1⟩, ⟨ga2, gn2, gc2⟩, ⟨ga3, gn3, gc3⟩, ⟨ga4, gn4, gc4⟩, ⟨ga5, gn5, gc5⟩⟩ := g
                  simp only [Fr.val, Fr.cells] at H5 ⊢
                  go_wp2_with fail
                  refine (rtake_two ba H5.out HBA.out).mono ?_
                  rintro e w6 ⟨rv2, rl2, gw, rfl, H6, HR6, HD6, HW6⟩
                  have HMX := Lib.hid H5.out.max
                  have hbA : Below w6.heap.size w6 (w6.alloc (.cells gw.cells 38)) := (Below.refl _ _).alloc (Nat.le_refl _) _
                  have H7 := Lib.hid (And.intro (H6.out.kept hbA) (And.intro ((hbA.block _ (Array.getElem?_eq_some_iff.1 HR6.out).1).trans HR6.out) (And.intro (HD6.out.below hbA) (And.intro (heap_alloc_new w6 (.cells gw.cells 38)) (HW6.out.below hbA)))))
                  clear hbA H5 H6 HR6 HD6 HW6 HBA
                  obtain ⟨ek, efa, efi, eta, eti, en, etk, eba, ebi, ⟨ea1, en1, ec1⟩, ⟨ea2, en2, ec2⟩, ⟨ea3, en3, ec3⟩, ⟨ea4, en4, ec4⟩, ⟨ea5, en5, ec5⟩⟩ := gw
                  simp only [Fr.val, Fr.cells] at H7 ⊢
                  go_upto_region 24 with fail
                  obtain ⟨w7, hw7⟩ : ∃ w7, w7 = w6.alloc (.cells #[.int .u8 ek, .int .i64 efa, .int .i64 efi, .int .i64 eta, .int .i64 eti, .int .i64 en, .int .i64 etk, .int .i64 eba, .int .i64 ebi, .slice ea1 en1 ec1, .slice ea2 en2 ec2, .slice ea3 en3 ec3, .slice ea4 en4 ec4, .slice ea5 en5 ec5] 38) := ⟨_, rfl⟩
                  rw [← hw7] at H7 ⊢
                  clear hw7
                  have y0 : w7.cell? ⟨w5.heap.size, 0, none⟩ = some (.int .u8 gk) := (cell_of_row _ _ _ _ _ _ (H7.out.2.1)).trans rfl
                  have y1 : w7.cell? ⟨w5.heap.size, 1, none⟩ = some (.int .i64 gfa) := (cell_of_row _ _ _ _ _ _ (H7.out.2.1)).trans rfl
                  have y2 : w7.cell? ⟨w5.heap.size, 2, none⟩ = some (.int .i64 gfi) := (cell_of_row _ _ _ _ _ _ (H7.out.2.1)).trans rfl
                  have y3 : w7.cell? ⟨w5.heap.size, 3, none⟩ = some (.int .i64 gta) := (cell_of_row _ _ _ _ _ _ (H7.out.2.1)).trans rfl
                  have y4 : w7.cell? ⟨w5.heap.size, 4, none⟩ = some (.int .i64 gti) := (cell_of_row _ _ _ _ _ _ (H7.out.2.1)).trans rfl
                  have y5 : w7.cell? ⟨w5.heap.size, 5, none⟩ = some (.int .i64 gn) := (cell_of_row _ _ _ _ _ _ (H7.out.2.1)).trans rfl
                  have y6 : w7.cell? ⟨w5.heap.size, 6, none⟩ = some (.int .i64 gtk) := (cell_of_row _ _ _ _ _ _ (H7.out.2.1)).trans rfl
                  have y7 : w7.cell? ⟨w5.heap.size, 7, none⟩ = some (.int .i64 gba) := (cell_of_row _ _ _ _ _ _ (H7.out.2.1)).trans rfl
                  have y8 : w7.cell? ⟨w5.heap.size, 8, none⟩ = some (.int .i64 gbi) := (cell_of_row _ _ _ _ _ _ (H7.out.2.1)).trans rfl
                  have y9 : w7.cell? ⟨w5.heap.size, 9, none⟩ = some (.slice ga1 gn1 gc1) := (cell_of_row _ _ _ _ _ _ (H7.out.2.1)).trans rfl
                  have y10 : w7.cell? ⟨w5.heap.size, 10, none⟩ = some (.slice ga2 gn2 gc2) := (cell_of_row _ _ _ _ _ _ (H7.out.2.1)).trans rfl
                  have y11 : w7.cell? ⟨w5.heap.size, 11, none⟩ = some (.slice ga3 gn3 gc3) := (cell_of_row _ _ _ _ _ _ (H7.out.2.1)).trans rfl
                  have y12 : w7.cell? ⟨w5.heap.size, 12, none⟩ = some (.slice ga4 gn4 gc4) := (cell_of_row _ _ _ _ _ _ (H7.out.2.1)).trans rfl
                  have y13 : w7.cell? ⟨w5.heap.size, 13, none⟩ = some (.slice ga5 gn5 gc5) := (cell_of_row _ _ _ _ _ _ (H7.out.2.1)).trans rfl
                  have z0 : w7.cell? ⟨w6.heap.size, 0, none⟩ = some (.int .u8 ek) := (cell_of_row _ _ _ _ _ _ (H7.out.2.2.2.1)).trans rfl
                  have z1 : w7.cell? ⟨w6.heap.size, 1, none⟩ = some (.int .i64 efa) := (cell_of_row _ _ _ _ _ _ (H7.out.2.2.2.1)).trans rfl
                  have z2 : w7.cell? ⟨w6.heap.size, 2, none⟩ = some (.int .i64 efi) := (cell_of_row _ _ _ _ _ _ (H7.out.2.2.2.1)).trans rfl
                  have z3 : w7.cell? ⟨w6.heap.size, 3, none⟩ = some (.int .i64 eta) := (cell_of_row _ _ _ _ _ _ (H7.out.2.2.2.1)).trans rfl
                  have z4 : w7.cell? ⟨w6.heap.size, 4, none⟩ = some (.int .i64 eti) := (cell_of_row _ _ _ _ _ _ (H7.out.2.2.2.1)).trans rfl
                  have z5 : w7.cell? ⟨w6.heap.size, 5, none⟩ = some (.int .i64 en) := (cell_of_row _ _ _ _ _ _ (H7.out.2.2.2.1)).trans rfl
                  have z6 : w7.cell? ⟨w6.heap.size, 6, none⟩ = some (.int .i64 etk) := (cell_of_row _ _ _ _ _ _ (H7.out.2.2.2.1)).trans rfl
                  have z7 : w7.cell? ⟨w6.heap.size, 7, none⟩ = some (.int .i64 eba) := (cell_of_row _ _ _ _ _ _ (H7.out.2.2.2.1)).trans rfl
                  have z8 : w7.cell? ⟨w6.heap.size, 8, none⟩ = some (.int .i64 ebi) := (cell_of_row _ _ _ _ _ _ (H7.out.2.2.2.1)).trans rfl
                  have z9 : w7.cell? ⟨w6.heap.size, 9, none⟩ = some (.slice ea1 en1 ec1) := (cell_of_row _ _ _ _ _ _ (H7.out.2.2.2.1)).trans rfl
                  have z10 : w7.cell? ⟨w6.heap.size, 10, none⟩ = some (.slice ea2 en2 ec2) := (cell_of_row _ _ _ _ _ _ (H7.out.2.2.2.1)).trans rfl
                  have z11 : w7.cell? ⟨w6.heap.size, 11, none⟩ = some (.slice ea3 en3 ec3) := (cell_of_row _ _ _ _ _ _ (H7.out.2.2.2.1)).trans rfl
                  have z12 : w7.cell? ⟨w6.heap.size, 12, none⟩ = some (.slice ea4 en4 ec4) := (cell_of_row _ _ _ _ _ _ (H7.out.2.2.2.1)).trans rfl
                  have z13 : w7.cell? ⟨w6.heap.size, 13, none⟩ = some (.slice ea5 en5 ec5) := (cell_of_row _ _ _ _ _ _ (H7.out.2.2.2.1)).trans rfl
                  have hbb : (ba != ba) = false := by simp
                  go_wp2_with fail
                  refine (same_deep _ ⟨gk, gfa, gfi, gta, gti, gn, gtk, gba, gbi, ⟨ga1, gn1, gc1⟩, ⟨ga2, gn2, gc2⟩, ⟨ga3, gn3, gc3⟩, ⟨ga4, gn4, gc4⟩, ⟨ga5, gn5, gc5⟩⟩ ⟨ek, efa, efi, eta, eti, en, etk, eba, ebi, ⟨ea1, en1, ec1⟩, ⟨ea2, en2, ec2⟩, ⟨ea3, en3, ec3⟩, ⟨ea4, en4, ec4⟩, ⟨ea5, en5, ec5⟩⟩ w7 H7.out.2.2.1 H7.out.2.2.2.2).mono ?_
                  rintro e w8 ⟨rfl, hb8⟩
                  have H8 := H7.out.1.kept hb8
                  clear y0 y1 y2 y3 y4 y5 y6 y7 y8 y9 y10 y11 y12 y13 z0 z1 z2 z3 z4 z5 z6 z7 z8 z9 z10 z11 z12 z13 hb8 H7 hbb
                  go_wp2_with fail
                  go_meet
                  case rel => exact ⟨v2, n2, xs.tail, rv2, rl2, H8, HMX.out⟩
              · as_aux_lemma =>
                  have h1b : (kd == 1) = false := by simpa using hk1
                  go_wp2_with fail
                  refine (clear_two HT.out HM.out).mono ?_
                  rintro e w5 ⟨rfl, H5, cR, fR⟩
                  clear HT HM x0 x1 x2 x3 x4 x5 x6 x7 x8 x9 x10 x11 x12 x13 x14
                  go_wp2_with fail
                  go_meet
                  case rel => exact ⟨_, ⟨most, []⟩, [], _, [], H5.out, rfl⟩
          case rest => as_aux_lemma =>
            clear x0 x1 x2 x3 x4 x5 x6 x7 x8 x9 x10 x11 x12 x13 x14 HT HM
            obtain ⟨v, n, xs, rv, rl, hT, hm⟩ := hcut
            have hlenr := hT.len
            obtain ⟨a, c, erv⟩ : ∃ a c, rv = .slice a n.l.length c := by
              obtain ⟨a, nn, c, e, hR⟩ := hT.rb.rd
              have hn := hR.n
              simp only at hn
              exact ⟨a, c, by rw [e, hn, hlenr]⟩
            subst erv
            clear hlenr
            have HT := Lib.hid hT
            have HM := Lib.hid hm
            have cR := hT.rb.reads.2
            have HN : Hid (Nt P B v n wc.drew) := Lib.hid hT.one.nt.drew
            have HTd : Hid (Two P B v n xs R (.slice a n.l.length c) rl W wc.drew) := Lib.hid ⟨⟨hT.one.nt.drew, hT.one.bx.same (w' := wc.drew) (Nat.le_refl _) fun _ _ _ _ => rfl, ⟨hT.one.below.os, hT.one.below.tape, hT.one.below.output, hT.one.below.size, hT.one.below.block⟩, hT.one.pw⟩, hT.rb.same (w' := wc.drew) (Nat.le_refl _) fun _ _ _ => rfl, hT.away⟩
            clear hT hm HDp HI
            go_upto_region 26 with fail
            go_cut [137] (fun t wx => t = .bool false ∧ Hid (Two P B v n xs R (.slice a n.l.length c) rl W wx))
            case first =>
              have cRd : wc.drew.cell? ⟨R, 1, none⟩ = some (.slice a n.l.length c) := cR
              go_region_held3 (fun x => x.cell? ⟨R, 1, none⟩ = some (.slice a n.l.length c)) (go_keep)
                ((go_at_call 13; (with_reducible refine (len_any P B v n _ HN.out).mono ?_); rintro e w5 ⟨rfl, hw5⟩; have cRd := (show w5.cell? ⟨R, 1, none⟩ = some (.slice a n.l.length c) by rw [hw5]; exact cRd)))
              all_goals
                go_wp2_with fail
                go_meet
                case rel => exact ⟨rfl, HTd⟩
            case rest =>
              clear cR HN HT HTd
              obtain ⟨rfl, HT⟩ := hcut
              by_cases h5 : k % 5 = 4
              · have h5i : ((k : Int).tmod 5 == 4) = true := by rw [Int.tmod_eq_emod_of_nonneg (by omega)]; simp; omega
                go_wp2_with fail
                refine (copy_deep P B v n xs wc HT.out.one.nt HT.out.one.bx HT.out.one.size).mono ?_
                rintro e w5 ⟨C, u, m, ys, rfl, hb5, hN5, hX5, -, -, hC, hu⟩
                have H5 := Lib.hid (And.intro hb5 (And.intro hN5 (And.intro hX5 (And.intro hC hu))))
                have HT5 := Lib.hid (HT.out.kept hb5)
                clear hb5 hN5 hX5 hC hu
                go_wp2_with fail
                refine (all_hl P B v n xs w5 HT5.out.one.nt HT5.out.one.bx HT5.out.one.size).mono ?_
                rintro e w6 ⟨oa, cap, len, out, yo, rfl, hlen, hout, hl6, hb6, hd6⟩
                have HT6 := Lib.hid (HT5.out.kept hb6)
                have H6 := Lib.hid (And.intro hl6 (And.intro hb6 hd6))
                have cR6 := HT6.out.rb.reads.2
                have hlenb : len ≤ 4096 := by have h1 := hlen.out; have h2 := HT6.out.one.len; omega
                clear hl6 hb6 hd6
                go_wp2_with fail
                refine (lists_doc H6.out.1 HT6.out.rb H6.out.2.2 (by have := HT6.out.one.len; simp only [List.length_map]; omega)).mono ?_
                rintro e w7 ⟨rfl, hb7⟩
                have HL7 := Lib.hid (H6.out.1.below hb7)
                have HB7 := Lib.hid (H6.out.2.1.trans (hb7.mono H6.out.2.1.size))
                have HP5 := Lib.hid HT5.out.one.size
                clear cR6 hb7 H6 HT6
                go_wp2_with fail
                go_loopw [22] (fun i wx => ∃ (kk : Nat), kk ≤ len ∧ i = .int .i64 kk ∧ Hid (Over w5.heap.size w7.heap.size w7 wx) ∧ Hid (Rest P kk out yo wx)) (fun i _ => len - (intOf i).toNat)
                case atStart => exact ⟨0, by omega, rfl, Lib.hid (Over.refl _ _ _), Lib.hid (fun j _ g1 g2 => HL7.out.bx.at_ j g1 g2)⟩
                case round =>
                  obtain ⟨kk, hkk, rfl, HOv, HRs⟩ := hrel
                  by_cases hlk : kk < len
                  · have hko : kk < out.length := by have := hout.out; omega
                    have hky : kk < yo.length := by rw [← HL7.out.bx.len]; exact hko
                    obtain ⟨b1, o1, e1, -, -, -, -, hc⟩ := (HL7.out.rd.over HOv.out HP5.out).cell hko
                    simp only at e1
                    subst e1
                    have hB1 : w5.heap.size ≤ yo[kk].lo := HL7.out.bx.lo _ (List.getElem_mem hky)
                    have hB2 : yo[kk].hi ≤ w7.heap.size := HL7.out.bx.hi _ (List.getElem_mem hky)
                    have HD := Lib.hid (HRs.out kk (Nat.le_refl _) hko hky)
                    have HN := Lib.hid (fun (w' : World) (ho : Over yo[kk].lo yo[kk].hi wr w') => And.intro (HOv.out.trans ho hB1 hB2) (HRs.out.next HL7.out.bx hky ho))
                    have HB1 := Lib.hid (And.intro (Nat.le_trans HP5.out hB1) (Nat.le_trans hB2 HOv.out.size))
                    clear hB1 hB2
                    generalize out[kk] = fo at hc HD
                    generalize yo[kk] = yk at HD HN HB1
                    have y0 : wr.cell? ⟨b1, o1 + kk * 14, none⟩ = some (.int .u8 fo.kind) := hc 0 (by decide)
                    have y1 : wr.cell? ⟨b1, o1 + kk * 14 + 1, none⟩ = some (.int .i64 fo.fa) := by have := hc 1 (by decide); rwa [← Nat.add_assoc] at this
                    have y2 : wr.cell? ⟨b1, o1 + kk * 14 + 2, none⟩ = some (.int .i64 fo.fi) := by have := hc 2 (by decide); rwa [← Nat.add_assoc] at this
                    have y3 : wr.cell? ⟨b1, o1 + kk * 14 + 3, none⟩ = some (.int .i64 fo.ta) := by have := hc 3 (by decide); rwa [← Nat.add_assoc] at this
                    have y4 : wr.cell? ⟨b1, o1 + kk * 14 + 4, none⟩ = some (.int .i64 fo.ti) := by have := hc 4 (by decide); rwa [← Nat.add_assoc] at this
                    have y5 : wr.cell? ⟨b1, o1 + kk * 14 + 5, none⟩ = some (.int .i64 fo.n) := by have := hc 5 (by decide); rwa [← Nat.add_assoc] at this
                    have y6 : wr.cell? ⟨b1, o1 + kk * 14 + 6, none⟩ = some (.int .i64 fo.token) := by have := hc 6 (by decide); rwa [← Nat.add_assoc] at this
                    have y7 : wr.cell? ⟨b1, o1 + kk * 14 + 7, none⟩ = some (.int .i64 fo.ba) := by have := hc 7 (by decide); rwa [← Nat.add_assoc] at this
                    have y8 : wr.cell? ⟨b1, o1 + kk * 14 + 8, none⟩ = some (.int .i64 fo.bi) := by have := hc 8 (by decide); rwa [← Nat.add_assoc] at this
                    have y9 : wr.cell? ⟨b1, o1 + kk * 14 + 9, none⟩ = some (.slice fo.ms.a fo.ms.n fo.ms.c) := by have := hc 9 (by decide); rwa [← Nat.add_assoc] at this
                    have y10 : wr.cell? ⟨b1, o1 + kk * 14 + 10, none⟩ = some (.slice fo.fs.a fo.fs.n fo.fs.c) := by have := hc 10 (by decide); rwa [← Nat.add_assoc] at this
                    have y11 : wr.cell? ⟨b1, o1 + kk * 14 + 11, none⟩ = some (.slice fo.rs.a fo.rs.n fo.rs.c) := by have := hc 11 (by decide); rwa [← Nat.add_assoc] at this
                    have y12 : wr.cell? ⟨b1, o1 + kk * 14 + 12, none⟩ = some (.slice fo.cs.a fo.cs.n fo.cs.c) := by have := hc 12 (by decide); rwa [← Nat.add_assoc] at this
                    have y13 : wr.cell? ⟨b1, o1 + kk * 14 + 13, none⟩ = some (.slice fo.ss.a fo.ss.n fo.ss.c) := by have := hc 13 (by decide); rwa [← Nat.add_assoc] at this
                    clear hc
                    go_wp2_with fail
                    refine (spoil_deep yk.d fo wr HD.out HB1.out.1 HB1.out.2).mono ?_
                    rintro e w8 ⟨rfl, ho8⟩
                    have hn := HN.out w8 ho8
                    clear y0 y1 y2 y3 y4 y5 y6 y7 y8 y9 y10 y11 y12 y13 ho8 HN HD HB1
                    go_wp2_with fail
                    go_roundw
                    case rel => exact ⟨kk + 1, by omega, by go_num, Lib.hid hn.1, Lib.hid hn.2⟩
                    case measure => simp only [intOf]; omega
                  · obtain rfl : kk = len := by omega
                    have HB0 : Hid (Below wc.heap.size wc wr ∧ wc.heap.size ≤ wr.heap.size) := by
                      have h1 := H5.out.1.trans (HB7.out.mono H5.out.1.size)
                      have h2 := h1.trans (HOv.out.belowQ (q := wc.heap.size) H5.out.1.size h1.size)
                      exact Lib.hid ⟨h2, h2.size⟩
                    have HC : Hid (Nt P C u m wr ∧ Bx P P ys m.l wr) := by
                      have h1 := H5.out.2.1.kept HB7.out
                      have h2 := H5.out.2.2.1.below HB7.out
                      exact Lib.hid ⟨h1.over HOv.out, (h2.over HOv.out (fun x hx => .inl (H5.out.2.2.1.hi x hx))).base HT.out.one.size⟩
                    go_wp2_with fail
                    refine (take_deep2 P C u m ys wr HC.out.1 HC.out.2).mono ?_
                    rintro e w8 ⟨u2, lo2, hi2, rfl, hT8, -, -, hD8, -, hPl, hhi, hq⟩
                    have hq := hq wc.heap.size HB0.out.2 H5.out.2.2.1.lo
                    have hb8 := HB0.out.1.trans (hT8.below (P := wc.heap.size) H5.out.2.2.2.1 H5.out.2.2.2.2 HB0.out.2)
                    have hmh : (m.head = m.head) := rfl
                    clear hmh HC HB0
                    generalize m.head = g at hD8 ⊢
                    generalize m.any = ba
                    generalize headX ys = dg at hD8
                    clear hT8
                    have hbA : Below w8.heap.size w8 (w8.alloc (.cells g.cells 38)) := (Below.refl _ _).alloc (Nat.le_refl _) _
                    have H8 := Lib.hid (And.intro (hb8.trans (hbA.mono hb8.size)) (And.intro (heap_alloc_new w8 (.cells g.cells 38)) (And.intro (hD8.below hbA) (And.intro hPl (And.intro hq (Nat.le_trans hhi hbA.size))))))
                    clear hb8 hbA hD8 hPl hq hhi
                    obtain ⟨gk, gfa, gfi, gta, gti, gn, gtk, gba, gbi, ⟨ga1, gn1, gc1⟩, ⟨ga2, gn2, gc2⟩, ⟨ga3, gn3, gc3⟩, ⟨ga4, gn4, gc4⟩, ⟨ga5, gn5, gc5⟩⟩ := g
                    simp only [Fr.val, Fr.cells] at H8 ⊢
                    go_upto_region 38 with fail
                    obtain ⟨w9, hw9⟩ : ∃ w9, w9 = w8.alloc (.cells #[.int .u8 gk, .int .i64 gfa, .int .i64 gfi, .int .i64 gta, .int .i64 gti, .int .i64 gn, .int .i64 gtk, .int .i64 gba, .int .i64 gbi, .slice ga1 gn1 gc1, .slice ga2 gn2 gc2, .slice ga3 gn3 gc3, .slice ga4 gn4 gc4, .slice ga5 gn5 gc5] 38) := ⟨_, rfl⟩
                    rw [← hw9] at H8 ⊢
                    clear hw9
                    cases ba
                    · go_wp2_with fail
                      go_roundw
                      case rel => exact ⟨k + 1, v, n, xs, _, rl, by omega, by go_num, HT.out.kept H8.out.1, HM.out⟩
                      case measure => simp only [intOf]; omega
                    · skip
                      have y0 : w9.cell? ⟨w8.heap.size, 0, none⟩ = some (.int .u8 gk) := (cell_of_row _ _ _ _ _ _ (H8.out.2.1)).trans rfl
                      have y1 : w9.cell? ⟨w8.heap.size, 1, none⟩ = some (.int .i64 gfa) := (cell_of_row _ _ _ _ _ _ (H8.out.2.1)).trans rfl
                      have y2 : w9.cell? ⟨w8.heap.size, 2, none⟩ = some (.int .i64 gfi) := (cell_of_row _ _ _ _ _ _ (H8.out.2.1)).trans rfl
                      have y3 : w9.cell? ⟨w8.heap.size, 3, none⟩ = some (.int .i64 gta) := (cell_of_row _ _ _ _ _ _ (H8.out.2.1)).trans rfl
                      have y4 : w9.cell? ⟨w8.heap.size, 4, none⟩ = some (.int .i64 gti) := (cell_of_row _ _ _ _ _ _ (H8.out.2.1)).trans rfl
                      have y5 : w9.cell? ⟨w8.heap.size, 5, none⟩ = some (.int .i64 gn) := (cell_of_row _ _ _ _ _ _ (H8.out.2.1)).trans rfl
                      have y6 : w9.cell? ⟨w8.heap.size, 6, none⟩ = some (.int .i64 gtk) := (cell_of_row _ _ _ _ _ _ (H8.out.2.1)).trans rfl
                      have y7 : w9.cell? ⟨w8.heap.size, 7, none⟩ = some (.int .i64 gba) := (cell_of_row _ _ _ _ _ _ (H8.out.2.1)).trans rfl
                      have y8 : w9.cell? ⟨w8.heap.size, 8, none⟩ = some (.int .i64 gbi) := (cell_of_row _ _ _ _ _ _ (H8.out.2.1)).trans rfl
                      have y9 : w9.cell? ⟨w8.heap.size, 9, none⟩ = some (.slice ga1 gn1 gc1) := (cell_of_row _ _ _ _ _ _ (H8.out.2.1)).trans rfl
                      have y10 : w9.cell? ⟨w8.heap.size, 10, none⟩ = some (.slice ga2 gn2 gc2) := (cell_of_row _ _ _ _ _ _ (H8.out.2.1)).trans rfl
                      have y11 : w9.cell? ⟨w8.heap.size, 11, none⟩ = some (.slice ga3 gn3 gc3) := (cell_of_row _ _ _ _ _ _ (H8.out.2.1)).trans rfl
                      have y12 : w9.cell? ⟨w8.heap.size, 12, none⟩ = some (.slice ga4 gn4 gc4) := (cell_of_row _ _ _ _ _ _ (H8.out.2.1)).trans rfl
                      have y13 : w9.cell? ⟨w8.heap.size, 13, none⟩ = some (.slice ga5 gn5 gc5) := (cell_of_row _ _ _ _ _ _ (H8.out.2.1)).trans rfl
                      go_wp2_with fail
                      refine (spoil_deep dg ⟨gk, gfa, gfi, gta, gti, gn, gtk, gba, gbi, ⟨ga1, gn1, gc1⟩, ⟨ga2, gn2, gc2⟩, ⟨ga3, gn3, gc3⟩, ⟨ga4, gn4, gc4⟩, ⟨ga5, gn5, gc5⟩⟩ w9 H8.out.2.2.1 H8.out.2.2.2.1 H8.out.2.2.2.2.2).mono ?_
                      rintro e w10 ⟨rfl, ho10⟩
                      have hT10 := HT.out.kept (H8.out.1.trans (ho10.belowQ (q := wc.heap.size) H8.out.2.2.2.2.1 H8.out.1.size))
                      clear y0 y1 y2 y3 y4 y5 y6 y7 y8 y9 y10 y11 y12 y13 ho10 H8
                      go_wp2_with fail
                      go_roundw
                      case rel => exact ⟨k + 1, v, n, xs, _, rl, by omega, by go_num, hT10, HM.out⟩
                      case measure => simp only [intOf]; omega
              · have h5i : ((k : Int).tmod 5 == 4) = false := by rw [Int.tmod_eq_emod_of_nonneg (by omega)]; simp; omega
                go_wp2_with fail
                go_roundw
                case rel => exact ⟨k + 1, v, n, xs, _, rl, by omega, by go_num, HT.out, HM.out⟩
                case measure => simp only [intOf]; omega
        · obtain rfl : k = l1.length := by omega
          have hlenr := hT.len
          obtain ⟨a, c, erv⟩ : ∃ a c, rv = .slice a n.l.length c := by
            obtain ⟨a, nn, c, e, hR⟩ := hT.rb.rd
            have hn := hR.n
            simp only at hn
            exact ⟨a, c, by rw [e, hn, hlenr]⟩
          subst erv
          clear hlenr
          have cR : wr.drew.cell? ⟨R, 1, none⟩ = some (.slice a n.l.length c) := hT.rb.reads.2
          have HTd : Hid (Two P B v n xs R (.slice a n.l.length c) rl W wr.drew) := Lib.hid ⟨⟨hT.one.nt.drew, hT.one.bx.same (w' := wr.drew) (Nat.le_refl _) fun _ _ _ _ => rfl, ⟨hT.one.below.os, hT.one.below.tape, hT.one.below.output, hT.one.below.size, hT.one.below.block⟩, hT.one.pw⟩, hT.rb.same (w' := wr.drew) (Nat.le_refl _) fun _ _ _ => rfl, hT.away⟩
          clear hT hm
          go_upto_region 40 with fail
          refine wp_region_any (by as_aux_lemma => kernel_rfl) ?_
          try (change wpAny _ _ _ _ _ _ _ (World.drew _))
          refine wpAny_take (i := 0) (v := ?_) rfl (by as_aux_lemma => kernel_rfl) (by as_aux_lemma => kernel_rfl) (by as_aux_lemma => kernel_rfl) (fun _ _ _ h => h) (Or.inl ⟨by as_aux_lemma => kernel_rfl, ?_⟩) ?_
          rotate_left
          · (intro w; go_simp) <;> with_reducible rfl
          refine wpAny_take (i := 2) (v := ?_) rfl (by as_aux_lemma => kernel_rfl) (by as_aux_lemma => kernel_rfl) (by as_aux_lemma => kernel_rfl) (fun _ _ _ h => h) (Or.inl ⟨by as_aux_lemma => kernel_rfl, ?_⟩) ?_
          rotate_left
          · (intro w; go_simp) <;> with_reducible rfl
          refine wpAny_take (i := 3) (v := ?_) rfl (by as_aux_lemma => kernel_rfl) (by as_aux_lemma => kernel_rfl) (by as_aux_lemma => kernel_rfl) (fun _ _ _ h => h) (Or.inl ⟨by as_aux_lemma => kernel_rfl, ?_⟩) ?_
          rotate_left
          · (intro w; go_simp) <;> with_reducible rfl
          refine wpAny_take (i := 4) (v := ?_) rfl (by as_aux_lemma => kernel_rfl) (by as_aux_lemma => kernel_rfl) (by as_aux_lemma => kernel_rfl) (fun _ _ _ h => h) (Or.inl ⟨by as_aux_lemma => kernel_rfl, ?_⟩) ?_
          rotate_left
          · (intro w; go_simp) <;> with_reducible rfl
          refine wpAny_of_till (S := fun x => x.cell? ⟨R, 1, none⟩ = some (.slice a n.l.length c)) (k := 6) _ _ _ _ ?_
          have hS : (fun x : World => x.cell? ⟨R, 1, none⟩ = some (.slice a n.l.length c)) _ := cR
          refine wpTill_take (i := 5) (v := (.slice a n.l.length c)) rfl (by as_aux_lemma => kernel_rfl) (by as_aux_lemma => kernel_rfl) (by as_aux_lemma => kernel_rfl) (by as_aux_lemma => kernel_rfl) (fun _ _ _ h => h) (Or.inl ⟨by as_aux_lemma => kernel_rfl, ?_⟩) hS ?_
          · intro w hSw; (try dsimp only at hSw); (try obtain ⟨x0⟩ := hSw); go_simp
          try simp only [Act.put, List.setIfInBounds_toArray, List.set_cons_zero, List.set_cons_succ]
          refine wpTill_one (i := 1) (by as_aux_lemma => kernel_rfl) rfl (by as_aux_lemma => kernel_rfl) (fun K hK => ?_)
          go_simp
          refine (all_hl P B v n xs wr.drew HTd.out.one.nt HTd.out.one.bx HTd.out.one.size).mono ?_
          rintro e w5 ⟨oa, cap, len, out, yo, rfl, hlen, hout, hl5, hb5, hd5⟩
          go_wp2_with fail
          have hT5 := HTd.out.kept hb5
          have hS : (fun x : World => x.cell? ⟨R, 1, none⟩ = some (.slice a n.l.length c)) w5 := hT5.rb.reads.2
          have H5 := Lib.hid (And.intro hT5 (And.intro hl5 hd5))
          clear hT5 hl5 hb5 hd5
          refine hK.out _ _ hS ?_; clear hK K
          try simp only [Act.put, List.setIfInBounds_toArray, List.set_cons_zero, List.set_cons_succ]
          refine wpTill_end (by as_aux_lemma => kernel_rfl) rfl (fun K hK => ?_)
          go_simp
          refine (lists_doc H5.out.2.1 H5.out.1.rb H5.out.2.2 (by have := H5.out.1.one.len; simp only [List.length_map]; omega)).mono ?_
          rintro e w6 ⟨rfl, hb6⟩
          go_wp2_with fail
          have hT6 := H5.out.1.kept hb6
          have cR := hT6.rb.reads.2
          have HT6 := Lib.hid hT6
          clear hb6 H5 hT6 hS
          refine hK.out _ _ ?_; clear hK K
          refine wpAny_take (i := 7) (v := ?_) rfl (by as_aux_lemma => kernel_rfl) (by as_aux_lemma => kernel_rfl) (by as_aux_lemma => kernel_rfl) (fun _ _ _ h => h) (Or.inl ⟨by as_aux_lemma => kernel_rfl, ?_⟩) ?_
          rotate_left
          · (intro w; go_simp) <;> with_reducible rfl
          refine wpAny_take (i := 8) (v := ?_) rfl (by as_aux_lemma => kernel_rfl) (by as_aux_lemma => kernel_rfl) (by as_aux_lemma => kernel_rfl) (fun _ _ _ h => h) (Or.inl ⟨by as_aux_lemma => kernel_rfl, ?_⟩) ?_
          rotate_left
          · (intro w; go_simp) <;> with_reducible rfl
          refine wpAny_take (i := 11) (v := ?_) rfl (by as_aux_lemma => kernel_rfl) (by as_aux_lemma => kernel_rfl) (by as_aux_lemma => kernel_rfl) (fun _ _ _ h => h) (Or.inl ⟨by as_aux_lemma => kernel_rfl, ?_⟩) ?_
          rotate_left
          · (intro w; go_simp) <;> with_reducible rfl
          refine wpAny_take (i := 12) (v := ?_) rfl (by as_aux_lemma => kernel_rfl) (by as_aux_lemma => kernel_rfl) (by as_aux_lemma => kernel_rfl) (fun _ _ _ h => h) (Or.inl ⟨by as_aux_lemma => kernel_rfl, ?_⟩) ?_
          rotate_left
          · (intro w; go_simp) <;> with_reducible rfl
          refine wpAny_take (i := 13) (v := ?_) rfl (by as_aux_lemma => kernel_rfl) (by as_aux_lemma => kernel_rfl) (by as_aux_lemma => kernel_rfl) (fun _ _ _ h => h) (Or.inl ⟨by as_aux_lemma => kernel_rfl, ?_⟩) ?_
          rotate_left
          · (intro w; go_simp) <;> with_reducible rfl
          refine wpAny_of_till (S := fun x => x.cell? ⟨R, 1, none⟩ = some (.slice a n.l.length c)) (k := 15) _ _ _ _ ?_
          have hS : (fun x : World => x.cell? ⟨R, 1, none⟩ = some (.slice a n.l.length c)) _ := cR
          refine wpTill_take (i := 14) (v := (.slice a n.l.length c)) rfl (by as_aux_lemma => kernel_rfl) (by as_aux_lemma => kernel_rfl) (by as_aux_lemma => kernel_rfl) (by as_aux_lemma => kernel_rfl) (fun _ _ _ h => h) (Or.inl ⟨by as_aux_lemma => kernel_rfl, ?_⟩) hS ?_
          · intro w hSw; (try dsimp only at hSw); (try obtain ⟨x0⟩ := hSw); go_simp
          try simp only [Act.put, List.setIfInBounds_toArray, List.set_cons_zero, List.set_cons_succ]
          refine wpTill_one (i := 9) (by as_aux_lemma => kernel_rfl) rfl (by as_aux_lemma => kernel_rfl) (fun K hK => ?_)
          go_simp
          refine (copy_deep P B v n xs w6 HT6.out.one.nt HT6.out.one.bx HT6.out.one.size).mono ?_
          rintro e w7 ⟨C, u, m, ys, rfl, hb7, hN7, hX7, -, hd7, hC, hu⟩
          go_wp2_with fail
          have hT7 := HT6.out.kept hb7
          have hS : (fun x : World => x.cell? ⟨R, 1, none⟩ = some (.slice a n.l.length c)) w7 := hT7.rb.reads.2
          have H7 := Lib.hid (And.intro hT7 (And.intro hN7 (And.intro (hX7.base HT6.out.one.size) hd7)))
          clear hT7 hb7 hN7 hX7 hd7 hC hu
          refine hK.out _ _ hS ?_; clear hK K
          try simp only [Act.put, List.setIfInBounds_toArray, List.set_cons_zero, List.set_cons_succ]
          refine wpTill_one (i := 10) (by as_aux_lemma => kernel_rfl) rfl (by as_aux_lemma => kernel_rfl) (fun K hK => ?_)
          go_simp
          refine (all_hl P C u m ys w7 H7.out.2.1 H7.out.2.2.1 H7.out.1.one.size).mono ?_
          rintro e w8 ⟨ob, capb, lenb, outb, yb, rfl, hlenb, houtb, hl8, hb8, hd8⟩
          go_wp2_with fail
          have hT8 := H7.out.1.kept hb8
          have hS : (fun x : World => x.cell? ⟨R, 1, none⟩ = some (.slice a n.l.length c)) w8 := hT8.rb.reads.2
          have H8 := Lib.hid (And.intro hT8 (And.intro hl8 (hd8.trans H7.out.2.2.2)))
          clear hT8 hl8 hb8 hd8 H7
          refine hK.out _ _ hS ?_; clear hK K
          try simp only [Act.put, List.setIfInBounds_toArray, List.set_cons_zero, List.set_cons_succ]
          refine wpTill_end (by as_aux_lemma => kernel_rfl) rfl (fun K hK => ?_)
          go_simp
          refine (lists_doc H8.out.2.1 H8.out.1.rb H8.out.2.2 (by have := H8.out.1.one.len; simp only [List.length_map]; omega)).mono ?_
          rintro e w9 ⟨rfl, hb9⟩
          go_wp2_with fail
          have hT9 := H8.out.1.kept hb9
          have HT9 := Lib.hid hT9
          clear hb9 H8 hT9 hS
          refine hK.out _ _ ?_; clear hK K
          refine wpAny_one (i := 16) (by as_aux_lemma => kernel_rfl) rfl (fun K hK => ?_)
          go_simp
          refine hK.out _ _ ?_; clear hK K
          refine wpAny_one (i := 17) (by as_aux_lemma => kernel_rfl) rfl (fun K hK => ?_)
          go_simp
          refine hK.out _ _ ?_; clear hK K
          refine wpAny_done (by as_aux_lemma => kernel_rfl) ?_ _
          go_simp
          have hfin := HT9.out.one.below
          rw [HP.out] at hfin
          go_wp2_with fail
          go_ret
          exact ⟨rfl, hfin⟩
  · clear hg1 hb1
    go_wp2_with fail
    go_ret
    exact ⟨rfl, hba⟩
end Go.Proofs.Ytjdhdmljchnidaa
