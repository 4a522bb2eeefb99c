/-
  The walk of the law NetPlays.
-/
import Derived.Test.YtialfpmfiapepaaBoth
namespace Go.Proofs.Ytialfpmfiapepaa
open Go.RowKit
set_option linter.unusedVariables false
set_option linter.unusedSimpArgs false
attribute [local go_sem ↓] Go.wp_at_zero Go.wp_at_succ
theorem u_of9 (n : Int) (h0 : 0 ≤ n) (h1 : n ≤ 4294967295) : ∃ x, n = u x :=
  ⟨BitVec.ofNat 32 n.toNat, by unfold u; rw [BitVec.toNat_ofNat]; omega⟩
set_option maxRecDepth 100000 in
set_option maxHeartbeats 16000000 in
theorem plays_walk (m : Int) (oa : Option Addr) (cap : Nat) (l : List Step) (W : World) (hl : Step.Holds W (.slice oa l.length cap) l) (ht : ∀ s ∈ l, s.txt.size ≤ 140737488351232) :
    Calls Try.prog 6 #[.int .i64 m, .slice oa l.length cap] W fun e w' => e = .returned (.bool true) ∧ Below W.heap.size W w' := by
  go_enter Try.func6, Try.ntmps6
  go_wp2_with fail
  refine (large_any oa cap l _ hl ht).mono ?_
  rintro e w1 ⟨bg, rfl, rfl, HT⟩
  cases bg
  · obtain ⟨hlen, HT3⟩ := HT rfl
    have HT2 := Lib.hid HT3
    clear HT3 ht HT
    have HT := HT2
    clear HT2
    by_cases hm : 1 ≤ m ∧ m ≤ 65536
    · obtain ⟨m1, m2⟩ := hm
      go_wp2_with fail
      refine (new_of m (Below.refl _ w1) m1 m2).mono ?_
      rintro e w2 ⟨rfl, hn, -⟩
      generalize w1.heap.size = B at hn ⊢
      go_wp2_with fail
      refine (rnew_yes w1.heap.size m _ m1 m2 hn.below.size).mono ?_
      rintro e w3 ⟨rfl, hd0, hb3⟩
      have hs0 := hn.kept hb3
      clear hn hb3
      generalize w2.heap.size = R at hd0 ⊢
      go_wp2_with fail
      go_loopw [9, 10, 11, 12, 13, 14, 15, 16, 17, 18, 19, 20, 21, 22] (fun i _ _ _ _ _ _ _ _ _ _ _ _ _ wr => ∃ (k : Nat) (v v' : Value) (n : N), k ≤ l.length ∧ i = .int .i64 k ∧ Hs B v n w1 wr ∧ Doc w1.heap.size R v' n wr) (fun i _ _ _ _ _ _ _ _ _ _ _ _ _ _ => l.length - (intOf i).toNat)
      case atStart => exact ⟨0, _, _, _, by omega, rfl, hs0, hd0⟩
      case round =>
        clear hs0 hd0
        obtain ⟨k, v, v', n, hk, rfl, hs, hd⟩ := hrel
        by_cases hlt : k < l.length
        · skip
          obtain ⟨b, off, rfl, hbl, hok, q0, q1, q2, q3, q4, q5⟩ := hl.at_ hlt
          have hsz := HT.out k hlt
          generalize l[k] = x at hok q0 q1 q2 q3 q4 q5 hsz
          obtain ⟨kind, txt, dst, K, pos, xi⟩ := x
          simp only at q0 q1 q2 q3 q4 q5 hsz
          obtain ⟨-, -, -, hd0, hd1, -, -, hp0, hp1, hx0, hx1⟩ := hok
          simp only at hp0 hp1 hx0 hx1 hd0 hd1
          obtain ⟨xx, rfl⟩ := u_of9 xi hx0 hx1
          have hbw := hs.below
          have q0 := (hbw.cell (p := ⟨b, off + k * 6, none⟩) hbl).trans q0
          have q1 := (hbw.cell (p := ⟨b, off + k * 6 + 1, none⟩) hbl).trans q1
          have q2 := (hbw.cell (p := ⟨b, off + k * 6 + 2, none⟩) hbl).trans q2
          have q3 := (hbw.cell (p := ⟨b, off + k * 6 + 3, none⟩) hbl).trans q3
          have q4 := (hbw.cell (p := ⟨b, off + k * 6 + 4, none⟩) hbl).trans q4
          have q5 := (hbw.cell (p := ⟨b, off + k * 6 + 5, none⟩) hbl).trans q5
          clear hbw
          go_wp2_with fail
          clear q0 q1 q2 q3 q4 q5
          have h : Tr B R wr.heap.size v v' n n #[.int .u8 kind, .string txt, .int .i64 dst, .int .i64 K, .int .i64 pos, .int .u32 (u xx)] w1 (wr.alloc (.cells #[.int .u8 kind, .string txt, .int .i64 dst, .int .i64 K, .int .i64 pos, .int .u32 (u xx)] 32)) := ⟨hs.alloc _, hd.alloc _, heap_alloc_new _ _⟩
          clear hs hd
          generalize wr.alloc (.cells #[.int .u8 kind, .string txt, .int .i64 dst, .int .i64 K, .int .i64 pos, .int .u32 (u xx)] 32) = Y at h ⊢
          generalize wr.heap.size = X at h ⊢
          refine (copy_of h.hs).mono ?_
          rintro e Y1 ⟨C, uu, rfl, hc⟩
          go_wp2_with fail
          refine (bend_to _ _ 0 0 7 7#32 hc (by rfl) (by omega) (by omega) rfl rfl).mono ?_
          rintro e Y2 ⟨rfl, u2, hc, -⟩
          go_wp2_with fail
          refine (send_of _ 9 hc (by decide)).mono ?_
          rintro e Y3 ⟨rfl, u3, hc, -⟩
          go_wp2_with fail
          refine (lose_of 0 hc).mono ?_
          rintro e wm ⟨rfl, u4, hc, -⟩
          have h := h.kept hc.below
          clear hc
          have hsm := h.hs.small
          have e0 : wm.cell? ⟨X, 0, none⟩ = some (.int .u8 kind) := h.cell 0
          have e1 : wm.cell? ⟨X, 1, none⟩ = some (.string txt) := h.cell 1
          have e2 : wm.cell? ⟨X, 2, none⟩ = some (.int .i64 dst) := h.cell 2
          have e3 : wm.cell? ⟨X, 3, none⟩ = some (.int .i64 K) := h.cell 3
          have e4 : wm.cell? ⟨X, 4, none⟩ = some (.int .i64 pos) := h.cell 4
          have e5 : wm.cell? ⟨X, 5, none⟩ = some (.int .u32 (u xx)) := h.cell 5
          go_upto_block 2 with fail
          go_cut [12, 13, 14, 15, 16, 17] (fun a12 _ _ _ _ _ wx => a12 = .bool true ∧ ∃ (v2 v3 : Value) (n2 : N), Tr B R X v2 v3 n2 n2 #[.int .u8 kind, .string txt, .int .i64 dst, .int .i64 K, .int .i64 pos, .int .u32 (u xx)] w1 wx)
          case first =>
            by_cases k0 : kind = 0
            · subst k0
              as_aux_lemma =>
                go_upto_region 19 with fail
                have h := h.drew
                have e1 : wm.drew.cell? ⟨X, 1, none⟩ = some (.string txt) := h.cell 1
                have e2 : wm.drew.cell? ⟨X, 2, none⟩ = some (.int .i64 dst) := h.cell 2
                go_region_held3 (fun x => x.cell? ⟨X, 1, none⟩ = some (.string txt) ∧ x.cell? ⟨X, 2, none⟩ = some (.int .i64 dst)) (go_keep)
                  (first
                    | (go_at_call 12; (with_reducible refine (send_of txt dst h.hs hsz).mono ?_); rintro e wt ⟨rfl, hN⟩; obtain ⟨v2, h⟩ := h.net hN; clear hN; have e1 : wt.cell? ⟨X, 1, none⟩ = some (.string txt) := h.cell 1; have e2 : wt.cell? ⟨X, 2, none⟩ = some (.int .i64 dst) := h.cell 2)
                    | (go_at_call 21; (with_reducible refine (rsend_any _ R _ n txt dst _ h.doc).mono ?_); rintro e wt ⟨rfl, hN⟩; obtain ⟨v3, h⟩ := h.ref hN; clear hN; have e1 : wt.cell? ⟨X, 1, none⟩ = some (.string txt) := h.cell 1; have e2 : wt.cell? ⟨X, 2, none⟩ = some (.int .i64 dst) := h.cell 2))
                go_wp2_with fail
                go_meet
                case rel => exact ⟨rfl, _, _, _, h⟩
            · by_cases k1 : kind = 1
              · subst k1
                as_aux_lemma =>
                  go_wp2_with fail
                  refine (give_of K h.hs).mono ?_
                  rintro e wt ⟨rfl, hN⟩
                  obtain ⟨v2, h⟩ := h.net hN
                  clear hN e0 e1 e2 e3 e4 e5
                  have e0 : wt.cell? ⟨X, 0, none⟩ = some (.int .u8 1) := h.cell 0
                  have e1 : wt.cell? ⟨X, 1, none⟩ = some (.string txt) := h.cell 1
                  have e2 : wt.cell? ⟨X, 2, none⟩ = some (.int .i64 dst) := h.cell 2
                  have e3 : wt.cell? ⟨X, 3, none⟩ = some (.int .i64 K) := h.cell 3
                  have e4 : wt.cell? ⟨X, 4, none⟩ = some (.int .i64 pos) := h.cell 4
                  have e5 : wt.cell? ⟨X, 5, none⟩ = some (.int .u32 (u xx)) := h.cell 5
                  go_wp2_with fail
                  refine (rgive_lit _ R _ n K _ h.doc).mono ?_
                  rintro e wu ⟨rfl, hN⟩
                  obtain ⟨v3, h⟩ := h.ref hN
                  clear hN e0 e1 e2 e3 e4 e5
                  obtain ⟨gs, hgs⟩ : ∃ gs, gs = (n.get K).s := ⟨_, rfl⟩
                  obtain ⟨gt, hgt⟩ : ∃ gt, gt = (n.get K).to := ⟨_, rfl⟩
                  obtain ⟨gb, hgb⟩ : ∃ gb, gb = (n.get K).bent := ⟨_, rfl⟩
                  obtain ⟨ge, hge⟩ : ∃ ge, ge = n.noneE K := ⟨_, rfl⟩
                  rw [← hgs, ← hgt, ← hgb, ← hge]
                  clear hgs hgt hgb hge
                  have h := h.alloc (.cells #[.string gs, .int .i64 gt, .bool gb] 53)
                  go_wp2_with fail
                  go_meet
                  case rel => exact ⟨rfl, _, _, _, h⟩
              · by_cases k2 : kind = 2
                · subst k2
                  as_aux_lemma =>
                    go_upto_region 25 with fail
                    have h := h.drew
                    have e3 : wm.drew.cell? ⟨X, 3, none⟩ = some (.int .i64 K) := h.cell 3
                    go_region_held3 (fun x => x.cell? ⟨X, 3, none⟩ = some (.int .i64 K)) (go_keep)
                      (first
                        | (go_at_call 14; (with_reducible refine (lose_of K h.hs).mono ?_); rintro e wt ⟨rfl, hN⟩; obtain ⟨v2, h⟩ := h.net hN; clear hN; have e3 : wt.cell? ⟨X, 3, none⟩ = some (.int .i64 K) := h.cell 3)
                        | (go_at_call 23; (with_reducible refine (rlose_any _ R _ n K _ h.doc).mono ?_); rintro e wt ⟨rfl, hN⟩; obtain ⟨v3, h⟩ := h.ref hN; clear hN; have e3 : wt.cell? ⟨X, 3, none⟩ = some (.int .i64 K) := h.cell 3))
                    go_wp2_with fail
                    go_meet
                    case rel => exact ⟨rfl, _, _, _, h⟩
                · by_cases k3 : kind = 3
                  · subst k3
                    as_aux_lemma =>
                      go_upto_region 27 with fail
                      have h := h.drew
                      have e3 : wm.drew.cell? ⟨X, 3, none⟩ = some (.int .i64 K) := h.cell 3
                      go_region_held3 (fun x => x.cell? ⟨X, 3, none⟩ = some (.int .i64 K)) (go_keep)
                        (first
                          | (go_at_call 16; (with_reducible refine (twice_of K h.hs).mono ?_); rintro e wt ⟨rfl, hN⟩; obtain ⟨v2, h⟩ := h.net hN; clear hN; have e3 : wt.cell? ⟨X, 3, none⟩ = some (.int .i64 K) := h.cell 3)
                          | (go_at_call 24; (with_reducible refine (rtwice_any _ R _ n K _ h.doc).mono ?_); rintro e wt ⟨rfl, hN⟩; obtain ⟨v3, h⟩ := h.ref hN; clear hN; have e3 : wt.cell? ⟨X, 3, none⟩ = some (.int .i64 K) := h.cell 3))
                      go_wp2_with fail
                      go_meet
                      case rel => exact ⟨rfl, _, _, _, h⟩
                  · skip
                    as_aux_lemma =>
                      go_upto_region 17 with fail
                      have h := h.drew
                      have e3 : wm.drew.cell? ⟨X, 3, none⟩ = some (.int .i64 K) := h.cell 3
                      have e4 : wm.drew.cell? ⟨X, 4, none⟩ = some (.int .i64 pos) := h.cell 4
                      have e5 : wm.drew.cell? ⟨X, 5, none⟩ = some (.int .u32 (u xx)) := h.cell 5
                      go_region_held3 (fun x => x.cell? ⟨X, 3, none⟩ = some (.int .i64 K) ∧ x.cell? ⟨X, 4, none⟩ = some (.int .i64 pos) ∧ x.cell? ⟨X, 5, none⟩ = some (.int .u32 (u xx))) (go_keep)
                        (first
                          | (go_at_call 17; (with_reducible refine (bend_of K pos xx h.hs hp0 hp1).mono ?_); rintro e wt ⟨rfl, hN⟩; obtain ⟨v2, h⟩ := h.net hN; clear hN; have e3 : wt.cell? ⟨X, 3, none⟩ = some (.int .i64 K) := h.cell 3; have e4 : wt.cell? ⟨X, 4, none⟩ = some (.int .i64 pos) := h.cell 4; have e5 : wt.cell? ⟨X, 5, none⟩ = some (.int .u32 (u xx)) := h.cell 5)
                          | (go_at_call 25; (with_reducible refine (rbend_any _ R _ n K pos xx _ h.doc hsm hp0 hp1).mono ?_); rintro e wt ⟨rfl, hN⟩; obtain ⟨v3, h⟩ := h.ref hN; clear hN; have e3 : wt.cell? ⟨X, 3, none⟩ = some (.int .i64 K) := h.cell 3; have e4 : wt.cell? ⟨X, 4, none⟩ = some (.int .i64 pos) := h.cell 4; have e5 : wt.cell? ⟨X, 5, none⟩ = some (.int .u32 (u xx)) := h.cell 5))
                      go_wp2_with fail
                      go_meet
                      case rel => exact ⟨rfl, _, _, _, h⟩
          case rest =>
            obtain ⟨rfl, v, v', n', h⟩ := hcut
            clear e0 e1 e2 e3 e4 e5
            clear hsm
            obtain ⟨ov, cv, rfl⟩ := h.doc.form
            obtain ⟨c0, c1⟩ := h.doc.reads
            have h := h.drew
            have c1 : wc.drew.cell? ⟨R, 1, none⟩ = some (.slice ov n'.l.length cv) := c1
            go_upto_region 28 with fail
            go_region_held3 (fun x => x.cell? ⟨R, 1, none⟩ = some (.slice ov n'.l.length cv)) (go_keep)
              ((go_at_call 11; (with_reducible refine (len_of h.hs).mono ?_); rintro e wt ⟨rfl, rfl⟩))
            have hok := h.hs.nt.ok
            have hl2 : (n'.l.length : Int) ≤ 65536 := by have := hok.le; have := hok.m2; omega
            clear hok
            generalize wc.drew = wd at h c1 ⊢
            clear c0 c1
            go_wp2_with fail
            go_loopw [18, 19, 20, 21, 22] (fun x _ _ _ _ wr => ∃ i : Int, -1 ≤ i ∧ i ≤ n'.l.length + 1 ∧ x = .int .i64 i ∧ Tr B R X v (.slice ov n'.l.length cv) n' n' #[.int .u8 kind, .string txt, .int .i64 dst, .int .i64 K, .int .i64 pos, .int .u32 (u xx)] w1 wr) (fun x _ _ _ _ _ => ((n'.l.length : Int) + 1 - intOf x).toNat)
            case atStart => exact ⟨-1, by omega, by omega, rfl, h⟩
            case round =>
              clear h
              obtain ⟨i, hi0, hi1, rfl, h⟩ := hrel
              obtain ⟨c0, c1⟩ := h.doc.reads
              by_cases hil : i ≤ n'.l.length
              · go_wp2_with fail
                refine (at_of i h.hs).mono ?_
                rintro e wa ⟨rfl, -, hb⟩
                have h := h.kept hb
                clear hb c1
                obtain ⟨c0, c1⟩ := h.doc.reads
                have hRl := h.doc.lt
                cases hh : n'.has i
                · have hz := not_has hh
                  rw [hz]
                  have hout : i < 0 ∨ i = n'.l.length := by
                    rcases Int.lt_or_le i 0 with h0 | h0
                    · exact .inl h0
                    · refine .inr ?_
                      unfold N.has at hh
                      by_cases h9 : i < n'.l.length
                      · simp [h0, h9] at hh
                      · omega
                  have hzs : U.zero.s = .empty := rfl
                  have hzt : U.zero.to = 0 := rfl
                  clear hz hh
                  rw [hzs, hzt]
                  clear hzs hzt
                  have h2 := h.alloc (.cells #[.string .empty, .int .i64 0, .bool false] 53)
                  rcases hout with h0 | rfl
                  · go_wp2_with fail
                    go_roundw
                    case rel => exact ⟨_, by omega, by omega, rfl, h2⟩
                    case measure => simp only [intOf]; omega
                  · go_wp2_with fail
                    go_roundw
                    case rel => exact ⟨_, by omega, by omega, rfl, h2⟩
                    case measure => simp only [intOf]; omega
                · obtain ⟨j, b, off, c, rfl, hv, hj, hPb, hbl, hbR, hnc, hcm, z0, z1, z2⟩ := h.doc.has hh
                  simp only [Value.slice.injEq] at hv
                  obtain ⟨rfl, -, rfl⟩ := hv
                  clear hh
                  obtain ⟨gs, hgs⟩ : ∃ gs, gs = (n'.get (j : Int)).s := ⟨_, rfl⟩
                  obtain ⟨gt, hgt⟩ : ∃ gt, gt = (n'.get (j : Int)).to := ⟨_, rfl⟩
                  obtain ⟨gb, hgb⟩ : ∃ gb, gb = (n'.get (j : Int)).bent := ⟨_, rfl⟩
                  rw [← hgs, ← hgt]
                  rw [← hgs] at z0
                  rw [← hgt] at z1
                  rw [← hgb] at z2
                  clear hgs hgt hgb
                  have h2 := h.alloc (.cells #[.string gs, .int .i64 gt, .bool gb] 53)
                  go_wp2_with fail
                  go_roundw
                  case rel => exact ⟨_, by omega, by omega, rfl, h2⟩
                  case measure => simp only [intOf]; omega
              · have hie : i = n'.l.length + 1 := by omega
                go_wp2_with fail
                go_roundw
                case rel => exact ⟨k + 1, v, _, n', by omega, by go_num, h.hs, h.doc⟩
                case measure => simp only [intOf]; omega
        · obtain rfl : k = l.length := by omega
          go_wp2_with fail
          go_ret
          exact ⟨rfl, hs.below⟩
    · go_wp2_with fail
      refine (new_no m _ (by omega)).mono ?_
      rintro e w2 ⟨rfl, rfl⟩
      go_wp2_with fail
      refine (rnew_no m _ (by omega)).mono ?_
      rintro e w3 ⟨rfl, rfl⟩
      go_wp2_with fail
      go_ret
      exact ⟨rfl, Below.refl _ _⟩
  · clear HT
    go_wp2_with fail
    go_ret
    exact ⟨rfl, Below.refl _ _⟩
end Go.Proofs.Ytialfpmfiapepaa
