/-
  The walk of the law OutboxCopies.
-/
import Derived.Test.YtjdhdmljchnidaaDo
import Derived.Test.YtjdhdmljchnidaaLarge
import Derived.Test.YtjdhdmljchnidaaWorks
namespace Go.Proofs.Ytjdhdmljchnidaa
open Go.RowKit
set_option linter.unusedVariables false
set_option linter.unusedSimpArgs false
attribute [local go_sem ↓] Go.wp_at_zero Go.wp_at_succ
/-- A box of the call's own, and what its frames read. -/
structure One (P B : Nat) (v : Value) (n : N) (xs : List X) (W w : World) : Prop where
  nt : Nt P B v n w
  bx : Bx P P xs n.l w
  below : Below P W w
  pw : P ≤ W.heap.size
section
variable {P B C : Nat} {v v' u u' : Value} {n n' m m' : N} {xs xs' ys ys' : List X} {W w w' : World}
theorem One.size (h : One P B v n xs W w) : P ≤ w.heap.size := Nat.le_trans h.pw h.below.size
theorem One.turn (h : One P B v n xs W w) (hT : Turn B v v' w w') (hN : Nt P B v' n' w') (hX : Bx P P xs' n'.l w') : One P B v' n' xs' W w' :=
  ⟨hN, hX, h.below.trans (hT.below h.nt.pB (fun k hk => (h.nt.vlt k hk).1) h.size), h.pw⟩
theorem One.kept (h : One P B v n xs W w) (hb : Below w.heap.size w w') : One P B v n xs W w' := ⟨h.nt.kept hb, h.bx.below hb, h.below.trans (hb.mono h.size), h.pw⟩
theorem One.len (h : One P B v n xs W w) : xs.length ≤ 4096 := by
  have h1 := h.nt.ok.le
  have h2 := h.nt.ok.m2
  have h3 := h.bx.len
  omega
theorem One.many (h : One P B v n xs W w) (hd : ys.map (·.d) = xs.map (·.d)) : ys.length ≤ 100000 := by
  have h1 := h.len
  have h2 := congrArg List.length hd
  simp only [List.length_map] at h2
  omega
theorem Bx.base {P b1 b2 : Nat} {xs : List X} {l : List Fr} {w : World} (h : Bx P b1 xs l w) (hb : b2 ≤ b1) : Bx P b2 xs l w := ⟨h.len, h.at_, h.ord, fun x hx => Nat.le_trans hb (h.lo x hx), h.hi⟩
/-- Two boxes. -/
structure Cp (P B : Nat) (v : Value) (n : N) (xs : List X) (C : Nat) (u : Value) (m : N) (ys : List X) (W w : World) : Prop where
  b : One P B v n xs W w
  c : One P C u m ys W w
  apart : Apart B v C u
theorem Cp.kept (h : Cp P B v n xs C u m ys W w) (hb : Below w.heap.size w w') : Cp P B v n xs C u m ys W w' := ⟨h.b.kept hb, h.c.kept hb, h.apart⟩
theorem Cp.symm (h : Cp P B v n xs C u m ys W w) : Cp P C u m ys B v n xs W w := ⟨h.c, h.b, h.apart.symm⟩
theorem Cp.left (h : Cp P B v n xs C u m ys W w) (hT : Turn B v v' w w') (hN : Nt P B v' n' w') (hX : Bx P P xs' n'.l w') : Cp P B v' n' xs' C u m ys W w' :=
  ⟨h.b.turn hT hN hX, ⟨h.c.nt.beside hT h.apart, h.c.bx.turn hT h.b.nt, (h.b.turn hT hN hX).below, h.c.pw⟩, h.apart.turn hT h.c.nt.lt (fun k hk => (h.c.nt.vlt k hk).2)⟩
theorem Cp.right (h : Cp P B v n xs C u m ys W w) (hT : Turn C u u' w w') (hN : Nt P C u' m' w') (hX : Bx P P ys' m'.l w') : Cp P B v n xs C u' m' ys' W w' := (h.symm.left hT hN hX).symm
/-- A kept list, away from a box's slice. -/
def Away (u v : Value) : Prop := ∀ g, u.ownBlock = some g → v.ownBlock ≠ some g
theorem Away.new (h : Nt P B v n w) (hu : ∀ g, u.ownBlock = some g → w.heap.size ≤ g) : Away u v := fun g hg e => by
  have := hu g hg
  have := (h.vlt g e).2
  omega
end
set_option maxRecDepth 100000 in
set_option maxHeartbeats 8000000 in
theorem copies_walk (most : Int) (s1 s2 : SL) (l1 l2 : List St) (W : World) (h1 : Ss W.heap.size s1 l1 W) (h2 : Ss W.heap.size s2 l2 W) :
    Calls Try.prog 8 #[.int .i64 most, s1.val, s2.val] W fun e w' => e = .returned (.bool true) ∧ Below W.heap.size W w' := by
  obtain ⟨a1, n1, c1⟩ := s1
  obtain ⟨a2, n2, c2⟩ := s2
  obtain rfl : n1 = l1.length := h1.rd.n
  obtain rfl : n2 = l2.length := h2.rd.n
  simp only [SL.val]
  go_enter Try.func8, Try.ntmps8
  go_wp2_with fail
  refine (works_any _).mono ?_
  rintro e w0 ⟨rfl, hb0⟩
  go_wp2_with fail
  refine (large_any W.heap.size ⟨a1, l1.length, c1⟩ l1 w0 (h1.below hb0) hb0.size).mono ?_
  rintro e w1 ⟨g1, rfl, hb1, hg1⟩
  have hba := then_below hb0 hb1
  cases g1
  · go_wp2_with fail
    refine (large_any W.heap.size ⟨a2, l2.length, c2⟩ l2 w1 (h2.below hba) hba.size).mono ?_
    rintro e w2 ⟨g2, rfl, hb2, hg2⟩
    have hbb := then_below hba hb2
    cases g2
    · obtain ⟨hl1, hs1⟩ := hg1 (by trivial)
      obtain ⟨hl2, hs2⟩ := hg2 (by trivial)
      have HSl1 := Lib.hid hs1
      have HSl2 := Lib.hid hs2
      clear hg1 hg2 hs1 hs2 hb0 hb1 hb2 hba
      go_wp2_with fail
      by_cases hq : most < 1 ∨ 4096 < most
      · refine (new_no most _ hq).mono ?_
        rintro e w3 ⟨rfl, rfl⟩
        go_wp2_with fail
        go_ret
        exact ⟨rfl, hbb⟩
      · obtain ⟨w3, hw3⟩ : ∃ w3, w3 = w2 := ⟨_, rfl⟩
        rw [← hw3] at hbb ⊢
        clear hw3
        have hbc := hbb
        refine (new_yes W.heap.size most w3 (by omega) (by omega) hbc.size).mono ?_
        rintro e w4 ⟨rfl, hN0, hb4⟩
        clear hq hbb
        obtain ⟨P, hPW⟩ : ∃ P, P = W.heap.size := ⟨_, rfl⟩
        have hO : One P w3.heap.size (.slice none 0 0) ⟨most, []⟩ [] W w4 := ⟨by rw [hPW]; exact hN0, Bx.nil _ _ _, by rw [hPW]; exact then_below hbc hb4, by rw [hPW]; exact Nat.le_refl _⟩
        have H1 : Hid (Ss P ⟨a1, l1.length, c1⟩ l1 W) := Lib.hid (by rw [hPW]; exact h1)
        have H2 : Hid (Ss P ⟨a2, l2.length, c2⟩ l2 W) := Lib.hid (by rw [hPW]; exact h2)
        have HP := Lib.hid hPW
        generalize w3.heap.size = B at hO ⊢
        clear hN0 hb4 hbc h1 h2 hPW
        go_wp2_with fail
        go_loopw [10] (fun i wr => ∃ (k : Nat) (v : Value) (n : N) (xs : List X), k ≤ l1.length ∧ i = .int .i64 k ∧ One P B v n xs W wr ∧ n.max = most ∧ Hid (xs.map (·.d) = runT most [] (l1.take k))) (fun i _ => l1.length - (intOf i).toNat)
        case atStart => exact ⟨0, _, _, [], by omega, rfl, hO, rfl, Lib.hid rfl⟩
        case round =>
          clear hO
          obtain ⟨k, v, n, xs, hk, rfl, hO, hm, HD⟩ := hrel
          by_cases hlt : k < l1.length
          · have HOne := Lib.hid hO
            clear hO
            have hin := H1.out.below HOne.out.below
            obtain ⟨b, o, e, -, -, -, -, hc⟩ := hin.rd.cell hlt
            have hok := (hin.ok _ (List.getElem_mem hlt)).x
            have hsm := HSl1.out _ (List.getElem_mem hlt)
            have hrun := fun ds => runT_succ most ds l1 k hlt
            simp only at e
            subst e
            generalize l1[k] = s at hc hok hsm hrun
            have x0 : wr.cell? ⟨b, o + k * 15, none⟩ = some (.int .u8 s.kind) := hc 0 (by decide)
            have x1 : wr.cell? ⟨b, o + k * 15 + 1, none⟩ = some (.int .u8 s.x.f.kind) := by have := hc 1 (by decide); rwa [← Nat.add_assoc] at this
            have x2 : wr.cell? ⟨b, o + k * 15 + 2, none⟩ = some (.int .i64 s.x.f.fa) := by have := hc 2 (by decide); rwa [← Nat.add_assoc] at this
            have x3 : wr.cell? ⟨b, o + k * 15 + 3, none⟩ = some (.int .i64 s.x.f.fi) := by have := hc 3 (by decide); rwa [← Nat.add_assoc] at this
            have x4 : wr.cell? ⟨b, o + k * 15 + 4, none⟩ = some (.int .i64 s.x.f.ta) := by have := hc 4 (by decide); rwa [← Nat.add_assoc] at this
            have x5 : wr.cell? ⟨b, o + k * 15 + 5, none⟩ = some (.int .i64 s.x.f.ti) := by have := hc 5 (by decide); rwa [← Nat.add_assoc] at this
            have x6 : wr.cell? ⟨b, o + k * 15 + 6, none⟩ = some (.int .i64 s.x.f.n) := by have := hc 6 (by decide); rwa [← Nat.add_assoc] at this
            have x7 : wr.cell? ⟨b, o + k * 15 + 7, none⟩ = some (.int .i64 s.x.f.token) := by have := hc 7 (by decide); rwa [← Nat.add_assoc] at this
            have x8 : wr.cell? ⟨b, o + k * 15 + 8, none⟩ = some (.int .i64 s.x.f.ba) := by have := hc 8 (by decide); rwa [← Nat.add_assoc] at this
            have x9 : wr.cell? ⟨b, o + k * 15 + 9, none⟩ = some (.int .i64 s.x.f.bi) := by have := hc 9 (by decide); rwa [← Nat.add_assoc] at this
            have x10 : wr.cell? ⟨b, o + k * 15 + 10, none⟩ = some (.slice s.x.f.ms.a s.x.f.ms.n s.x.f.ms.c) := by have := hc 10 (by decide); rwa [← Nat.add_assoc] at this
            have x11 : wr.cell? ⟨b, o + k * 15 + 11, none⟩ = some (.slice s.x.f.fs.a s.x.f.fs.n s.x.f.fs.c) := by have := hc 11 (by decide); rwa [← Nat.add_assoc] at this
            have x12 : wr.cell? ⟨b, o + k * 15 + 12, none⟩ = some (.slice s.x.f.rs.a s.x.f.rs.n s.x.f.rs.c) := by have := hc 12 (by decide); rwa [← Nat.add_assoc] at this
            have x13 : wr.cell? ⟨b, o + k * 15 + 13, none⟩ = some (.slice s.x.f.cs.a s.x.f.cs.n s.x.f.cs.c) := by have := hc 13 (by decide); rwa [← Nat.add_assoc] at this
            have x14 : wr.cell? ⟨b, o + k * 15 + 14, none⟩ = some (.slice s.x.f.ss.a s.x.f.ss.n s.x.f.ss.c) := by have := hc 14 (by decide); rwa [← Nat.add_assoc] at this
            have HO := Lib.hid (And.intro hok (And.intro hsm hrun))
            clear hc hok hsm hrun hin
            go_wp2_with fail
            refine (do_any P B v n xs s wr HOne.out.nt HOne.out.bx HO.out.1 HO.out.2.1 HOne.out.size).mono ?_
            rintro e w5 ⟨v2, n2, xs2, rfl, hT, hN, hX, hmx, hd⟩
            have hO := HOne.out.turn hT hN hX
            clear hT hN hX
            clear x0 x1 x2 x3 x4 x5 x6 x7 x8 x9 x10 x11 x12 x13 x14
            go_wp2_with fail
            go_roundw
            case rel => exact ⟨k + 1, v2, n2, xs2, by omega, by go_num, hO, by rw [hmx, hm], Lib.hid (by rw [hd, hm, HD.out, HO.out.2.2])⟩
            case measure => simp only [intOf]; omega
          · obtain rfl : k = l1.length := by omega
            have HM := Lib.hid hm
            clear hm hlt
            go_wp2_with fail
            refine (copy_deep P B v n xs _ hO.nt hO.bx hO.size).mono ?_
            rintro e w5 ⟨C, u, m, ys, rfl, hb5, hN5, hX5, hmx, hd5, hC, hu⟩
            have hlt := hO.nt.lt
            have hvl := hO.nt.vlt
            have hC2 := Lib.hid (show Cp P B v n xs C u m ys W w5 from ⟨hO.kept hb5, ⟨hN5, hX5.base hO.size, hO.below.trans (hb5.mono hO.size), hO.pw⟩, ⟨by omega, (fun e => by have := hu _ e; omega), (fun e => by have := (hvl _ e).2; omega), (fun k hk e => by have := hu _ e; have := (hvl k hk).2; omega)⟩⟩)
            have HMC : Hid (m.max = most) := Lib.hid (by rw [hmx, HM.out])
            have HDC : Hid (ys.map (·.d) = runT most [] (l1.take l1.length)) := Lib.hid (by rw [hd5, HD.out])
            clear hO hb5 hN5 hX5 hmx hd5 hC hu hlt hvl
            go_wp2_with fail
            refine (all_hl P B v n xs _ hC2.out.b.nt hC2.out.b.bx hC2.out.b.size).mono ?_
            rintro e w6 ⟨ow, cw, lw, outw, yw, rfl, hlw, how, hlW, hb6, hdw⟩
            have hAw : Away (.slice ow lw cw) u := Away.new hC2.out.c.nt (fun g hg => (World.ownsRow.lt hlW.row g hg).1)
            have hAv : Away (.slice ow lw cw) v := Away.new hC2.out.b.nt (fun g hg => (World.ownsRow.lt hlW.row g hg).1)
            have hC6 := hC2.out.kept hb6
            have HW := Lib.hid (And.intro hlW hdw)
            clear hlW hdw hb6 hC2
            go_wp2_with fail
            go_loopw [13] (fun i wr => ∃ (k : Nat) (u : Value) (m : N) (ys : List X), k ≤ l2.length ∧ i = .int .i64 k ∧ Cp P B v n xs C u m ys W wr ∧ m.max = most ∧ Hid (ys.map (·.d) = runT most (runT most [] (l1.take l1.length)) (l2.take k)) ∧ Hid (Hl P w5.heap.size (.slice ow lw cw) outw yw wr) ∧ Away (.slice ow lw cw) u) (fun i _ => l2.length - (intOf i).toNat)
            case atStart => exact ⟨0, u, m, ys, by omega, rfl, hC6, HMC.out, Lib.hid (by rw [HDC.out]; rfl), Lib.hid HW.out.1, hAw⟩
            case round =>
              clear hC6 hAw
              obtain ⟨k, u, m, ys, hk, rfl, hO, hm, HDY, HL, hAw⟩ := hrel
              by_cases hlt : k < l2.length
              · have HOne := Lib.hid hO
                clear hO
                have hin := H2.out.below HOne.out.c.below
                obtain ⟨b, o, e, -, -, -, -, hc⟩ := hin.rd.cell hlt
                have hok := (hin.ok _ (List.getElem_mem hlt)).x
                have hsm := HSl2.out _ (List.getElem_mem hlt)
                have hrun := fun ds => runT_succ most ds l2 k hlt
                simp only at e
                subst e
                generalize l2[k] = s at hc hok hsm hrun
                have x0 : wr.cell? ⟨b, o + k * 15, none⟩ = some (.int .u8 s.kind) := hc 0 (by decide)
                have x1 : wr.cell? ⟨b, o + k * 15 + 1, none⟩ = some (.int .u8 s.x.f.kind) := by have := hc 1 (by decide); rwa [← Nat.add_assoc] at this
                have x2 : wr.cell? ⟨b, o + k * 15 + 2, none⟩ = some (.int .i64 s.x.f.fa) := by have := hc 2 (by decide); rwa [← Nat.add_assoc] at this
                have x3 : wr.cell? ⟨b, o + k * 15 + 3, none⟩ = some (.int .i64 s.x.f.fi) := by have := hc 3 (by decide); rwa [← Nat.add_assoc] at this
                have x4 : wr.cell? ⟨b, o + k * 15 + 4, none⟩ = some (.int .i64 s.x.f.ta) := by have := hc 4 (by decide); rwa [← Nat.add_assoc] at this
                have x5 : wr.cell? ⟨b, o + k * 15 + 5, none⟩ = some (.int .i64 s.x.f.ti) := by have := hc 5 (by decide); rwa [← Nat.add_assoc] at this
                have x6 : wr.cell? ⟨b, o + k * 15 + 6, none⟩ = some (.int .i64 s.x.f.n) := by have := hc 6 (by decide); rwa [← Nat.add_assoc] at this
                have x7 : wr.cell? ⟨b, o + k * 15 + 7, none⟩ = some (.int .i64 s.x.f.token) := by have := hc 7 (by decide); rwa [← Nat.add_assoc] at this
                have x8 : wr.cell? ⟨b, o + k * 15 + 8, none⟩ = some (.int .i64 s.x.f.ba) := by have := hc 8 (by decide); rwa [← Nat.add_assoc] at this
                have x9 : wr.cell? ⟨b, o + k * 15 + 9, none⟩ = some (.int .i64 s.x.f.bi) := by have := hc 9 (by decide); rwa [← Nat.add_assoc] at this
                have x10 : wr.cell? ⟨b, o + k * 15 + 10, none⟩ = some (.slice s.x.f.ms.a s.x.f.ms.n s.x.f.ms.c) := by have := hc 10 (by decide); rwa [← Nat.add_assoc] at this
                have x11 : wr.cell? ⟨b, o + k * 15 + 11, none⟩ = some (.slice s.x.f.fs.a s.x.f.fs.n s.x.f.fs.c) := by have := hc 11 (by decide); rwa [← Nat.add_assoc] at this
                have x12 : wr.cell? ⟨b, o + k * 15 + 12, none⟩ = some (.slice s.x.f.rs.a s.x.f.rs.n s.x.f.rs.c) := by have := hc 12 (by decide); rwa [← Nat.add_assoc] at this
                have x13 : wr.cell? ⟨b, o + k * 15 + 13, none⟩ = some (.slice s.x.f.cs.a s.x.f.cs.n s.x.f.cs.c) := by have := hc 13 (by decide); rwa [← Nat.add_assoc] at this
                have x14 : wr.cell? ⟨b, o + k * 15 + 14, none⟩ = some (.slice s.x.f.ss.a s.x.f.ss.n s.x.f.ss.c) := by have := hc 14 (by decide); rwa [← Nat.add_assoc] at this
                have HO := Lib.hid (And.intro hok (And.intro hsm hrun))
                clear hc hok hsm hrun hin
                go_wp2_with fail
                refine (do_any P C u m ys s wr HOne.out.c.nt HOne.out.c.bx HO.out.1 HO.out.2.1 HOne.out.c.size).mono ?_
                rintro e w7 ⟨u2, m2, ys2, rfl, hT, hN, hX, hmx, hd⟩
                have hO := HOne.out.right hT hN hX
                have HL2 := Lib.hid (HL.out.turn hT HOne.out.c.nt hAw)
                have hA2 : Away (.slice ow lw cw) u2 := HL.out.away hT hAw
                clear hT hN hX hAw
                clear x0 x1 x2 x3 x4 x5 x6 x7 x8 x9 x10 x11 x12 x13 x14
                go_wp2_with fail
                go_roundw
                case rel => exact ⟨k + 1, u2, m2, ys2, by omega, by go_num, hO, by rw [hmx, hm], Lib.hid (by rw [hd, hm, HDY.out, HO.out.2.2]), HL2, hA2⟩
                case measure => simp only [intOf]; omega
              · obtain rfl : k = l2.length := by omega
                have HM2 := Lib.hid hm
                clear hm hlt
                have HC := Lib.hid hO
                clear hO
                go_wp2_with fail
                refine (all_hl P C u m ys _ HC.out.c.nt HC.out.c.bx HC.out.c.size).mono ?_
                rintro e w7 ⟨on, cn, ln, outn, yn, rfl, hln, hon, hlN, hb7, hdn⟩
                have hNu : Away (.slice on ln cn) u := Away.new HC.out.c.nt (fun g hg => (World.ownsRow.lt hlN.row g hg).1)
                have hNv : Away (.slice on ln cn) v := Away.new HC.out.b.nt (fun g hg => (World.ownsRow.lt hlN.row g hg).1)
                have hC7 := HC.out.kept hb7
                have hL7 := HL.out.below hb7
                have HN := Lib.hid (And.intro hlN hdn)
                have hsW : wr.heap.size ≤ w7.heap.size := hb7.size
                clear hlN hdn hb7 HL HC
                go_wp2_with fail
                refine (all_hl P B v n xs _ hC7.b.nt hC7.b.bx hC7.b.size).mono ?_
                rintro e w8 ⟨ot, ct, lt, outt, yt, rfl, hlt, hot, hlT, hb8, hdt⟩
                go_wp2_with fail
                have hdd := hdt.trans HW.out.2.symm
                have hsm := hC7.b.many hdt
                have hl8 := hL7.below hb8
                have hcall := lists_same hlT hl8 hdd hsm
                refine hcall.mono ?_
                rintro e w9 ⟨rfl, hb9⟩
                have hb79 := hb8.trans (hb9.mono hb8.size)
                have hC9 := hC7.kept hb79
                have HN9 := Lib.hid (HN.out.1.below hb79)
                clear hb8 hb9 hb79 hlT hdt hC7 hL7 hlt hot
                go_wp2_with fail
                go_loopw [15] (fun i wx => ∃ (k : Nat) (v : Value) (n : N) (xs : List X), k ≤ l2.length ∧ i = .int .i64 k ∧ Cp P B v n xs C u m ys W wx ∧ n.max = most ∧ Hid (xs.map (·.d) = runT most (runT most [] (l1.take l1.length)) (l2.take k)) ∧ Hid (Hl P wr.heap.size (.slice on ln cn) outn yn wx) ∧ Away (.slice on ln cn) v) (fun i _ => l2.length - (intOf i).toNat)
                case atStart => exact ⟨0, v, n, xs, by omega, rfl, hC9, HM.out, Lib.hid (by rw [HD.out]; rfl), HN9, hNv⟩
                case round =>
                  clear hC9 hNv
                  obtain ⟨k, v, n, xs, hk, rfl, hO, hm, HDX, HL, hAv⟩ := hrel
                  by_cases hlt : k < l2.length
                  · have HOne := Lib.hid hO
                    clear hO
                    have hin := H2.out.below HOne.out.b.below
                    obtain ⟨b, o, e, -, -, -, -, hc⟩ := hin.rd.cell hlt
                    have hok := (hin.ok _ (List.getElem_mem hlt)).x
                    have hsm := HSl2.out _ (List.getElem_mem hlt)
                    have hrun := fun ds => runT_succ most ds l2 k hlt
                    simp only at e
                    subst e
                    generalize l2[k] = s at hc hok hsm hrun
                    have x0 : wr.cell? ⟨b, o + k * 15, none⟩ = some (.int .u8 s.kind) := hc 0 (by decide)
                    have x1 : wr.cell? ⟨b, o + k * 15 + 1, none⟩ = some (.int .u8 s.x.f.kind) := by have := hc 1 (by decide); rwa [← Nat.add_assoc] at this
                    have x2 : wr.cell? ⟨b, o + k * 15 + 2, none⟩ = some (.int .i64 s.x.f.fa) := by have := hc 2 (by decide); rwa [← Nat.add_assoc] at this
                    have x3 : wr.cell? ⟨b, o + k * 15 + 3, none⟩ = some (.int .i64 s.x.f.fi) := by have := hc 3 (by decide); rwa [← Nat.add_assoc] at this
                    have x4 : wr.cell? ⟨b, o + k * 15 + 4, none⟩ = some (.int .i64 s.x.f.ta) := by have := hc 4 (by decide); rwa [← Nat.add_assoc] at this
                    have x5 : wr.cell? ⟨b, o + k * 15 + 5, none⟩ = some (.int .i64 s.x.f.ti) := by have := hc 5 (by decide); rwa [← Nat.add_assoc] at this
                    have x6 : wr.cell? ⟨b, o + k * 15 + 6, none⟩ = some (.int .i64 s.x.f.n) := by have := hc 6 (by decide); rwa [← Nat.add_assoc] at this
                    have x7 : wr.cell? ⟨b, o + k * 15 + 7, none⟩ = some (.int .i64 s.x.f.token) := by have := hc 7 (by decide); rwa [← Nat.add_assoc] at this
                    have x8 : wr.cell? ⟨b, o + k * 15 + 8, none⟩ = some (.int .i64 s.x.f.ba) := by have := hc 8 (by decide); rwa [← Nat.add_assoc] at this
                    have x9 : wr.cell? ⟨b, o + k * 15 + 9, none⟩ = some (.int .i64 s.x.f.bi) := by have := hc 9 (by decide); rwa [← Nat.add_assoc] at this
                    have x10 : wr.cell? ⟨b, o + k * 15 + 10, none⟩ = some (.slice s.x.f.ms.a s.x.f.ms.n s.x.f.ms.c) := by have := hc 10 (by decide); rwa [← Nat.add_assoc] at this
                    have x11 : wr.cell? ⟨b, o + k * 15 + 11, none⟩ = some (.slice s.x.f.fs.a s.x.f.fs.n s.x.f.fs.c) := by have := hc 11 (by decide); rwa [← Nat.add_assoc] at this
                    have x12 : wr.cell? ⟨b, o + k * 15 + 12, none⟩ = some (.slice s.x.f.rs.a s.x.f.rs.n s.x.f.rs.c) := by have := hc 12 (by decide); rwa [← Nat.add_assoc] at this
                    have x13 : wr.cell? ⟨b, o + k * 15 + 13, none⟩ = some (.slice s.x.f.cs.a s.x.f.cs.n s.x.f.cs.c) := by have := hc 13 (by decide); rwa [← Nat.add_assoc] at this
                    have x14 : wr.cell? ⟨b, o + k * 15 + 14, none⟩ = some (.slice s.x.f.ss.a s.x.f.ss.n s.x.f.ss.c) := by have := hc 14 (by decide); rwa [← Nat.add_assoc] at this
                    have HO := Lib.hid (And.intro hok (And.intro hsm hrun))
                    clear hc hok hsm hrun hin
                    go_wp2_with fail
                    refine (do_any P B v n xs s wr HOne.out.b.nt HOne.out.b.bx HO.out.1 HO.out.2.1 HOne.out.b.size).mono ?_
                    rintro e w9 ⟨v2, n2, xs2, rfl, hT, hN, hX, hmx, hd⟩
                    have hO := HOne.out.left hT hN hX
                    have HL2 := Lib.hid (HL.out.turn hT HOne.out.b.nt hAv)
                    have hA2 : Away (.slice on ln cn) v2 := HL.out.away hT hAv
                    clear hT hN hX hAv
                    clear x0 x1 x2 x3 x4 x5 x6 x7 x8 x9 x10 x11 x12 x13 x14
                    go_wp2_with fail
                    go_roundw
                    case rel => exact ⟨k + 1, v2, n2, xs2, by omega, by go_num, hO, by rw [hmx, hm], Lib.hid (by rw [hd, hm, HDX.out, HO.out.2.2]), HL2, hA2⟩
                    case measure => simp only [intOf]; omega
                  · obtain rfl : k = l2.length := by omega
                    have hEx : yn.map (·.d) = xs.map (·.d) := by rw [HN.out.2, HDY.out, HDX.out]
                    have HE := Lib.hid hEx
                    have HC := Lib.hid hO
                    clear hO hm hlt hEx
                    go_wp2_with fail
                    refine (all_hl P B v n xs _ HC.out.b.nt HC.out.b.bx HC.out.b.size).mono ?_
                    rintro e w8 ⟨ot, ct, lt, outt, yt, rfl, hlt, hot, hlT, hb8, hdt⟩
                    go_wp2_with fail
                    refine (lists_same hlT (HL.out.below hb8) (hdt.trans HE.out.symm) (HC.out.b.many hdt)).mono ?_
                    rintro e w9 ⟨rfl, hb9⟩
                    have hb89 := hb8.trans (hb9.mono hb8.size)
                    have hC9 := HC.out.kept hb89
                    have hL9 := HL.out.below hb89
                    clear hb8 hb9 hlT hdt hlt hot
                    go_wp2_with fail
                    refine (all_hl P C u m ys _ hC9.c.nt hC9.c.bx hC9.c.size).mono ?_
                    rintro e w10 ⟨op, cp, lp, outp, yp, rfl, hlp, hop, hlP, hb10, hdp⟩
                    go_wp2_with fail
                    refine (lists_same hlP (hL9.below hb10) (hdp.trans HN.out.2.symm) (hC9.c.many hdp)).mono ?_
                    rintro e w11 ⟨rfl, hb11⟩
                    have hfin := (hC9.b.kept (hb10.trans (hb11.mono hb10.size))).below
                    rw [HP.out] at hfin
                    go_wp2_with fail
                    go_ret
                    exact ⟨rfl, hfin⟩
    · clear hg1 hg2 hb0 hb1 hb2 hba
      go_wp2_with fail
      refine (works_any _).mono ?_
      rintro e w3 ⟨rfl, hb3⟩
      go_wp2_with fail
      go_ret
      exact ⟨rfl, then_below hbb hb3⟩
  · clear hg1 hb0 hb1
    go_wp2_with fail
    refine (works_any _).mono ?_
    rintro e w3 ⟨rfl, hb3⟩
    go_wp2_with fail
    go_ret
    exact ⟨rfl, then_below hba hb3⟩
end Go.Proofs.Ytjdhdmljchnidaa
