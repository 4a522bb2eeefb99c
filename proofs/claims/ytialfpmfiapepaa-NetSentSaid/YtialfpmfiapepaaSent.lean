/-
  The walk of the law NetSent.
-/
import Derived.Test.YtialfpmfiapepaaSentPlain
import Derived.Test.YtialfpmfiapepaaLarge
import Derived.Test.YtialfpmfiapepaaOnePlain
namespace Go.Proofs.Ytialfpmfiapepaa
open Go.RowKit
set_option linter.unusedVariables false
set_option linter.unusedSimpArgs false
attribute [local go_sem ↓] Go.wp_at_zero Go.wp_at_succ
namespace Sent
theorem u_of' (n : Int) (h0 : 0 ≤ n) (h1 : n ≤ 4294967295) : ∃ x, n = u x :=
  ⟨BitVec.ofNat 32 n.toNat, by unfold u; rw [BitVec.toNat_ofNat]; omega⟩
theorem max_lose (n : N) (k : Int) : (n.lose k).max = n.max := by unfold N.lose; split <;> rfl
theorem max_twice (n : N) (k : Int) : (n.twice k).max = n.max := by unfold N.twice; split <;> rfl
theorem max_bend (n : N) (k a : Int) (x : BitVec 32) : (n.bend k a x).max = n.max := by unfold N.bend N.put; split <;> rfl
theorem Sn_drew {B M X c : Nat} {v : Value} {n : N} {f : ByteArray → Int → Int} {W w : World} (h : Sn B M X v n c f W w) : Sn B M X v n c f W w.drew :=
  ⟨h.hs.drew, h.tl.same rfl, h.mb, h.mv, h.mW, h.xl, h.xb, h.xm, h.xv⟩
set_option maxRecDepth 100000 in
set_option maxHeartbeats 16000000 in
theorem sent_walk (m : Int) (oa : Option Addr) (cap : Nat) (l : List Step) (W : World) (hl : Step.Holds W (.slice oa l.length cap) l) (ht : ∀ s ∈ l, s.txt.size ≤ 140737488351232) :
    Calls Try.prog 3 #[.int .i64 m, .slice oa l.length cap] W fun e w' => e = .returned (.bool true) ∧ Below W.heap.size W w' := by
  have hmm := @run_makeMap Try.prog
  go_enter Try.func3, Try.ntmps3
  go_wp2_with fail
  refine (works_any _).mono ?_
  rintro e w0 ⟨rfl, hbW⟩
  have hlw := hl.below hbW
  go_wp2_with fail
  refine (large_any oa cap l _ hlw ht).mono ?_
  rintro e w1 ⟨bg, rfl, rfl, HT⟩
  cases bg
  · obtain ⟨hlen, HT3⟩ := HT rfl
    have HT2 := Lib.hid HT3
    clear HT3 ht HT hlw
    have HT := HT2
    clear HT2
    by_cases hm : 1 ≤ m ∧ m ≤ 65536
    · obtain ⟨m1, m2⟩ := hm
      go_wp2_with fail
      refine (new_of m hbW m1 m2).mono ?_
      rintro e w2 ⟨rfl, hn, -⟩
      generalize w1.heap.size = B at hn ⊢
      have h0 := Sr.start hn rfl
      clear hbW
      go_wp2_with fail
      have hM : ∃ M, M = w2.heap.size := ⟨_, rfl⟩
      obtain ⟨M, hM⟩ := hM
      rw [← hM] at h0 ⊢
      clear hM
      go_loopw [8, 9, 10, 11, 12, 13, 14, 15, 16, 17, 18, 19, 20, 21, 22] (fun i _ _ _ _ _ _ _ _ _ _ _ _ _ _ wr => ∃ (k : Nat) (v : Value) (n : N) (c : Nat) (f : ByteArray → Int → Int), k ≤ l.length ∧ i = .int .i64 k ∧ Sr B M v n c f W wr ∧ c ≤ 2 * k ∧ Hid (Near f (2 * k)) ∧ Hid (n.max = m) ∧ Hid (n.Sent f) ∧ Hid (n.In)) (fun i _ _ _ _ _ _ _ _ _ _ _ _ _ _ _ => l.length - (intOf i).toNat)
      case atStart => exact ⟨0, _, _, 0, _, by omega, rfl, h0, by omega, Lib.hid (fun _ _ => ⟨by simp, by simp⟩), Lib.hid rfl, Lib.hid (fun _ _ => by simp [N.many]), Lib.hid (fun u hu => by simp at hu)⟩
      case round =>
        clear h0 hn
        obtain ⟨k, v, n, c, f, hk, rfl, h, hc, NF, HM, HS, HI⟩ := hrel
        by_cases hlt : k < l.length
        · skip
          obtain ⟨b, off, rfl, hbl, hok, q0, q1, q2, q3, q4, q5⟩ := hl.at_ hlt
          have hsz := HT.out k hlt
          generalize l[k] = x at hok q0 q1 q2 q3 q4 q5 hsz
          obtain ⟨kind, txt, dst, K, pos, xi⟩ := x
          simp only at q0 q1 q2 q3 q4 q5 hsz
          obtain ⟨-, -, -, hd0, hd1, -, -, hp0, hp1, hx0, hx1⟩ := hok
          simp only at hp0 hp1 hx0 hx1 hd0 hd1
          obtain ⟨xx, rfl⟩ := u_of' xi hx0 hx1
          have q0 := (h.hs.below.cell (p := ⟨b, off + k * 6, none⟩) hbl).trans q0
          have q1 := (h.hs.below.cell (p := ⟨b, off + k * 6 + 1, none⟩) hbl).trans q1
          have q2 := (h.hs.below.cell (p := ⟨b, off + k * 6 + 2, none⟩) hbl).trans q2
          have q3 := (h.hs.below.cell (p := ⟨b, off + k * 6 + 3, none⟩) hbl).trans q3
          have q4 := (h.hs.below.cell (p := ⟨b, off + k * 6 + 4, none⟩) hbl).trans q4
          have q5 := (h.hs.below.cell (p := ⟨b, off + k * 6 + 5, none⟩) hbl).trans q5
          have hll : (n.l.length : Int) ≤ 65536 := by have := h.hs.nt.ok.le; have := HM.out; omega
          go_wp2_with fail
          clear q0 q1 q2 q3 q4 q5
          have ge : ∀ o, (wr.alloc (.cells #[.int .u8 kind, .string txt, .int .i64 dst, .int .i64 K, .int .i64 pos, .int .u32 (u xx)] 32)).cell? ⟨wr.heap.size, o, none⟩ = (#[.int .u8 kind, .string txt, .int .i64 dst, .int .i64 K, .int .i64 pos, .int .u32 (u xx)] : Array Value)[o]? := fun o => cell_of_row _ _ _ _ _ _ (heap_alloc_new _ _)
          have h := h.box (.cells #[.int .u8 kind, .string txt, .int .i64 dst, .int .i64 K, .int .i64 pos, .int .u32 (u xx)] 32)
          have e0 : (wr.alloc (.cells #[.int .u8 kind, .string txt, .int .i64 dst, .int .i64 K, .int .i64 pos, .int .u32 (u xx)] 32)).cell? ⟨wr.heap.size, 0, none⟩ = some (.int .u8 kind) := ge 0
          have e1 : (wr.alloc (.cells #[.int .u8 kind, .string txt, .int .i64 dst, .int .i64 K, .int .i64 pos, .int .u32 (u xx)] 32)).cell? ⟨wr.heap.size, 1, none⟩ = some (.string txt) := ge 1
          have e2 : (wr.alloc (.cells #[.int .u8 kind, .string txt, .int .i64 dst, .int .i64 K, .int .i64 pos, .int .u32 (u xx)] 32)).cell? ⟨wr.heap.size, 2, none⟩ = some (.int .i64 dst) := ge 2
          have e3 : (wr.alloc (.cells #[.int .u8 kind, .string txt, .int .i64 dst, .int .i64 K, .int .i64 pos, .int .u32 (u xx)] 32)).cell? ⟨wr.heap.size, 3, none⟩ = some (.int .i64 K) := ge 3
          have e4 : (wr.alloc (.cells #[.int .u8 kind, .string txt, .int .i64 dst, .int .i64 K, .int .i64 pos, .int .u32 (u xx)] 32)).cell? ⟨wr.heap.size, 4, none⟩ = some (.int .i64 pos) := ge 4
          have e5 : (wr.alloc (.cells #[.int .u8 kind, .string txt, .int .i64 dst, .int .i64 K, .int .i64 pos, .int .u32 (u xx)] 32)).cell? ⟨wr.heap.size, 5, none⟩ = some (.int .u32 (u xx)) := ge 5
          clear ge
          generalize wr.alloc (.cells #[.int .u8 kind, .string txt, .int .i64 dst, .int .i64 K, .int .i64 pos, .int .u32 (u xx)] 32) = Y at h e0 e1 e2 e3 e4 e5 ⊢
          generalize wr.heap.size = X at h e0 e1 e2 e3 e4 e5 ⊢
          refine (len_of h.hs).mono ?_
          rintro e Z ⟨rfl, rfl⟩
          obtain ⟨was, hwas⟩ : ∃ was : Int, was = n.l.length := ⟨_, rfl⟩
          go_upto_block 2 with fail
          go_cut [11, 12, 13, 14, 15, 16, 17, 18, 19, 20, 21, 22] (fun _ _ _ _ _ _ _ _ _ _ _ _ wx => ∃ (v' : Value) (n' : N) (c' : Nat) (f' : ByteArray → Int → Int), Sn B M X v' n' c' f' W wx ∧ c' ≤ 2 * k + 2 ∧ wx.cell? ⟨X, 0, none⟩ = some (.int .u8 kind) ∧ Hid (Near f' (2 * k + 2)) ∧ Hid (n'.max = m) ∧ Hid (n'.Sent f') ∧ Hid (n'.In) ∧ (kind = 0 → Hid ((n'.l.length : Int) = if (n.l.length : Int) + 1 < m then (n.l.length : Int) + 1 else m)))
          case first => as_aux_lemma =>
            by_cases k0 : kind = 0
            · subst k0
              go_wp2_with fail
              have HS2 : Hid ((n.push ⟨txt, dst, false⟩).Sent (more f txt dst 1)) := Lib.hid (HS.out.push ⟨txt, dst, false⟩)
              have HI2 : Hid (n.push ⟨txt, dst, false⟩).In := Lib.hid (HI.out.push _ ⟨hd0, hd1⟩)
              have HM2 : Hid ((n.push ⟨txt, dst, false⟩).max = m) := HM
              have HL : Hid (((n.push ⟨txt, dst, false⟩).l.length : Int) = if (n.l.length : Int) + 1 < m then (n.l.length : Int) + 1 else m) := Lib.hid (by
                have h1 := N.len_push n ⟨txt, dst, false⟩ h.hs.nt.ok
                have h2 := h.hs.nt.ok.le
                have h3 := HM.out
                rw [h1]; split <;> split <;> omega)
              obtain ⟨fu, hfu⟩ : ∃ fu, fu = n.full := ⟨_, rfl⟩
              have hff : ((n.l.length : Int) == m) = fu := by rw [hfu, ← HM.out]; unfold N.full; rfl
              have hxx : (fu != fu) = false := by simp
              have HFU := Lib.hid hfu
              refine (send_of txt dst h.hs hsz).mono ?_
              rintro e w2 ⟨rfl, hN⟩
              obtain ⟨v2, h, hsa⟩ := h.now hN
              clear hN
              have e0 : w2.cell? ⟨X, 0, none⟩ = some (.int .u8 0) := (hsa 0).trans e0
              have e1 : w2.cell? ⟨X, 1, none⟩ = some (.string txt) := (hsa 1).trans e1
              have e2 : w2.cell? ⟨X, 2, none⟩ = some (.int .i64 dst) := (hsa 2).trans e2
              have e3 : w2.cell? ⟨X, 3, none⟩ = some (.int .i64 K) := (hsa 3).trans e3
              have e4 : w2.cell? ⟨X, 4, none⟩ = some (.int .i64 pos) := (hsa 4).trans e4
              have e5 : w2.cell? ⟨X, 5, none⟩ = some (.int .u32 (u xx)) := (hsa 5).trans e5
              clear hsa
              rw [← HFU.out]
              clear hfu
              go_wp2_with fail
              clear hff hxx
              have h := Sn_drew h
              have hsz : (txt).size ≤ 100000 := hsz
              have hin : inI64 (dst) := ⟨hd0, hd1⟩
              have hlk := h.tl.look hsz hin
              obtain ⟨g, hg⟩ : ∃ g, g = f (txt) (dst) := ⟨_, rfl⟩
              have hgb := NF.out (txt) (dst)
              rw [← hg] at hlk hgb
              obtain ⟨v0, st, wm, ws, hm1, hm2, ht2, ho1, ho2⟩ := h.tl.put (by omega) hsz hin (g + 1) ⟨by omega, by omega⟩
              have hf2 : setT f (txt) (dst) (g + 1) = more f (txt) (dst) (1) := by rw [hg]; exact setT_more f _ _ (1)
              rw [hf2] at ht2
              have hlkm := (h.tl.entry (by omega) hsz hin hm1).look hsz hin
              rw [← hg] at hlkm
              have HG := Lib.hid hg
              have HT2 := Lib.hid (And.intro ht2 ho2)
              clear hg hf2 ht2
              have z0 : wm.cell? ⟨X, 0, none⟩ = some (.int .u8 0) := (ho1.cell (p := ⟨X, 0, none⟩) h.xl h.xm).trans e0
              have z1 : wm.cell? ⟨X, 1, none⟩ = some (.string txt) := (ho1.cell (p := ⟨X, 1, none⟩) h.xl h.xm).trans e1
              have z2 : wm.cell? ⟨X, 2, none⟩ = some (.int .i64 dst) := (ho1.cell (p := ⟨X, 2, none⟩) h.xl h.xm).trans e2
              have y0 : ws.cell? ⟨X, 0, none⟩ = some (.int .u8 0) := (ho2.cell (p := ⟨X, 0, none⟩) h.xl h.xm).trans e0
              have y1 : ws.cell? ⟨X, 1, none⟩ = some (.string txt) := (ho2.cell (p := ⟨X, 1, none⟩) h.xl h.xm).trans e1
              have y2 : ws.cell? ⟨X, 2, none⟩ = some (.int .i64 dst) := (ho2.cell (p := ⟨X, 2, none⟩) h.xl h.xm).trans e2
              have hwr : IntKind.i64.wrap (g + 1) = g + 1 := IntWalk.i64_in _ (by omega)
              rw [← hwr] at hm2
              clear hwr
              go_region_held3 (fun x => x.cell? ⟨X, 0, none⟩ = some (.int .u8 0) ∧ x.cell? ⟨X, 1, none⟩ = some (.string txt) ∧ x.cell? ⟨X, 2, none⟩ = some (.int .i64 dst)) (go_keep) (fail)
              all_goals
                obtain ⟨ht2, ho2⟩ := HT2.out
                obtain ⟨h, hsa⟩ := h.put ho2 ht2
                have e0 : ws.cell? ⟨X, 0, none⟩ = some (.int .u8 0) := (hsa 0).trans e0
                have e1 : ws.cell? ⟨X, 1, none⟩ = some (.string txt) := (hsa 1).trans e1
                have e2 : ws.cell? ⟨X, 2, none⟩ = some (.int .i64 dst) := (hsa 2).trans e2
                have e3 : ws.cell? ⟨X, 3, none⟩ = some (.int .i64 K) := (hsa 3).trans e3
                have e4 : ws.cell? ⟨X, 4, none⟩ = some (.int .i64 pos) := (hsa 4).trans e4
                have e5 : ws.cell? ⟨X, 5, none⟩ = some (.int .u32 (u xx)) := (hsa 5).trans e5
                clear hsa ho1 hm1 hm2 hlk hlkm z0 y0 z1 y1 z2 y2
                have NF := Lib.hid (NF.out.more (txt) (dst) (1) (by omega) (by omega))
                have NF := Lib.hid (NF.out.le (k' := 2 * k + 2) (by omega))
                go_wp2_with fail
                go_meet
                case rel => exact ⟨_, _, _, _, h, by omega, e0, NF, HM2, HS2, HI2, fun _ => HL⟩
            · by_cases k1 : kind = 1
              · subst k1
                have HM2 : Hid ((n.lose K).max = m) := Lib.hid (by rw [← HM.out]; exact max_lose n K)
                have HI2 : Hid (n.lose K).In := Lib.hid (HI.out.lose K)
                have hsK := h.hs.small.get K
                have hiK := HI.out.get K
                cases hh : n.has K
                · have HE : Hid (n.noneE K = 5) := Lib.hid (by simp [N.noneE, hh])
                  have HS2 : Hid ((n.lose K).Sent f) := Lib.hid (HS.out.lose K)
                  have HH := Lib.hid hh
                  clear hh
                  go_wp2_with fail
                  refine (give_of K h.hs).mono ?_
                  rintro e w2 ⟨rfl, hN⟩
                  obtain ⟨v2, h, hsa⟩ := h.now hN
                  clear hN
                  have e0 : w2.cell? ⟨X, 0, none⟩ = some (.int .u8 1) := (hsa 0).trans e0
                  have e1 : w2.cell? ⟨X, 1, none⟩ = some (.string txt) := (hsa 1).trans e1
                  have e2 : w2.cell? ⟨X, 2, none⟩ = some (.int .i64 dst) := (hsa 2).trans e2
                  have e3 : w2.cell? ⟨X, 3, none⟩ = some (.int .i64 K) := (hsa 3).trans e3
                  have e4 : w2.cell? ⟨X, 4, none⟩ = some (.int .i64 pos) := (hsa 4).trans e4
                  have e5 : w2.cell? ⟨X, 5, none⟩ = some (.int .u32 (u xx)) := (hsa 5).trans e5
                  clear hsa
                  rw [HE.out]
                  have NF := Lib.hid (NF.out.le (k' := 2 * k + 2) (by omega))
                  go_wp2_with fail
                  go_meet
                  case rel => exact ⟨_, _, _, _, h, by omega, e0, NF, HM2, HS2, HI2, nofun⟩
                · have HE : Hid (n.noneE K = 0) := Lib.hid (by simp [N.noneE, hh])
                  have HS2 := Lib.hid (HS.out.give K hh).1
                  have hpos := (HS.out.give K hh).2
                  have hlen : ((n.lose K).l.length : Int) = n.l.length - 1 := by
                    have := N.len_lose n K hh
                    obtain ⟨hl, -⟩ := N.get_of hh
                    omega
                  have HLN := Lib.hid hlen
                  have HP := Lib.hid hpos
                  clear hlen hpos hh
                  go_wp2_with fail
                  refine (give_of K h.hs).mono ?_
                  rintro e w2 ⟨rfl, hN⟩
                  obtain ⟨v2, h, hsa⟩ := h.now hN
                  clear hN
                  have e0 : w2.cell? ⟨X, 0, none⟩ = some (.int .u8 1) := (hsa 0).trans e0
                  have e1 : w2.cell? ⟨X, 1, none⟩ = some (.string txt) := (hsa 1).trans e1
                  have e2 : w2.cell? ⟨X, 2, none⟩ = some (.int .i64 dst) := (hsa 2).trans e2
                  have e3 : w2.cell? ⟨X, 3, none⟩ = some (.int .i64 K) := (hsa 3).trans e3
                  have e4 : w2.cell? ⟨X, 4, none⟩ = some (.int .i64 pos) := (hsa 4).trans e4
                  have e5 : w2.cell? ⟨X, 5, none⟩ = some (.int .u32 (u xx)) := (hsa 5).trans e5
                  clear hsa
                  rw [HE.out]
                  obtain ⟨gs, hgs⟩ : ∃ gs, gs = (n.get K).s := ⟨_, rfl⟩
                  obtain ⟨gt, hgt⟩ : ∃ gt, gt = (n.get K).to := ⟨_, rfl⟩
                  rw [← hgs] at hsK HP HS2 ⊢
                  rw [← hgt] at hiK HP HS2 ⊢
                  clear hgs hgt
                  go_wp2_with fail
                  have h := Sn_drew h
                  have hsz : (gs).size ≤ 100000 := hsK
                  have hin : inI64 (gt) := hiK
                  have hlk := h.tl.look hsz hin
                  obtain ⟨g, hg⟩ : ∃ g, g = f (gs) (gt) := ⟨_, rfl⟩
                  have hgb := NF.out (gs) (gt)
                  rw [← hg] at hlk hgb
                  obtain ⟨v0, st, wm, ws, hm1, hm2, ht2, ho1, ho2⟩ := h.tl.put (by omega) hsz hin (g - 1) ⟨by omega, by omega⟩
                  have hf2 : setT f (gs) (gt) (g - 1) = more f (gs) (gt) (-1) := by rw [hg]; exact setT_more f _ _ (-1)
                  rw [hf2] at ht2
                  have hlkm := (h.tl.entry (by omega) hsz hin hm1).look hsz hin
                  rw [← hg] at hlkm
                  have HG := Lib.hid hg
                  have HT2 := Lib.hid (And.intro ht2 ho2)
                  clear hg hf2 ht2
                  have z0 : wm.cell? ⟨X, 0, none⟩ = some (.int .u8 1) := (ho1.cell (p := ⟨X, 0, none⟩) h.xl h.xm).trans e0
                  have y0 : ws.cell? ⟨X, 0, none⟩ = some (.int .u8 1) := (ho2.cell (p := ⟨X, 0, none⟩) h.xl h.xm).trans e0
                  have hwr : IntKind.i64.wrap (g - 1) = g - 1 := IntWalk.i64_in _ (by omega)
                  rw [← hwr] at hm2
                  clear hwr
                  go_region_held3 (fun x => x.cell? ⟨X, 0, none⟩ = some (.int .u8 1)) (go_keep) (fail)
                  all_goals
                    obtain ⟨ht2, ho2⟩ := HT2.out
                    obtain ⟨h, hsa⟩ := h.put ho2 ht2
                    have e0 : ws.cell? ⟨X, 0, none⟩ = some (.int .u8 1) := (hsa 0).trans e0
                    have e1 : ws.cell? ⟨X, 1, none⟩ = some (.string txt) := (hsa 1).trans e1
                    have e2 : ws.cell? ⟨X, 2, none⟩ = some (.int .i64 dst) := (hsa 2).trans e2
                    have e3 : ws.cell? ⟨X, 3, none⟩ = some (.int .i64 K) := (hsa 3).trans e3
                    have e4 : ws.cell? ⟨X, 4, none⟩ = some (.int .i64 pos) := (hsa 4).trans e4
                    have e5 : ws.cell? ⟨X, 5, none⟩ = some (.int .u32 (u xx)) := (hsa 5).trans e5
                    clear hsa ho1 hm1 hm2 hlk hlkm z0 y0
                    have NF := Lib.hid (NF.out.more (gs) (gt) (-1) (by omega) (by omega))
                    have hlk2 := h.tl.look hsK hiK
                    obtain ⟨g2, hg2⟩ : ∃ g2, g2 = more f gs gt (-1) gs gt := ⟨_, rfl⟩
                    have hg20 : 0 ≤ g2 := by rw [hg2]; have := HP.out; simp only [more, and_self, if_true]; omega
                    rw [← hg2] at hlk2
                    clear hg2
                    have hlen2 := len_of h.hs
                    rw [HLN.out] at hlen2
                    go_wp2_with fail
                    refine hlen2.mono ?_
                    rintro e w3 ⟨rfl, rfl⟩
                    clear hlen2
                    have NF := Lib.hid (NF.out.le (k' := 2 * k + 2) (by omega))
                    go_wp2_with fail
                    go_meet
                    case rel => exact ⟨_, _, _, _, h, by omega, e0, NF, HM2, HS2, HI2, nofun⟩
              · by_cases k2 : kind = 2
                · subst k2
                  go_wp2_with fail
                  refine (lose_of K h.hs).mono ?_
                  rintro e w2 ⟨rfl, hN⟩
                  obtain ⟨v2, h, hsa⟩ := h.now hN
                  clear hN
                  have e0 : w2.cell? ⟨X, 0, none⟩ = some (.int .u8 2) := (hsa 0).trans e0
                  have e1 : w2.cell? ⟨X, 1, none⟩ = some (.string txt) := (hsa 1).trans e1
                  have e2 : w2.cell? ⟨X, 2, none⟩ = some (.int .i64 dst) := (hsa 2).trans e2
                  have e3 : w2.cell? ⟨X, 3, none⟩ = some (.int .i64 K) := (hsa 3).trans e3
                  have e4 : w2.cell? ⟨X, 4, none⟩ = some (.int .i64 pos) := (hsa 4).trans e4
                  have e5 : w2.cell? ⟨X, 5, none⟩ = some (.int .u32 (u xx)) := (hsa 5).trans e5
                  clear hsa
                  have HM2 : Hid ((n.lose K).max = m) := Lib.hid (by rw [← HM.out]; exact max_lose n K)
                  have HS2 : Hid ((n.lose K).Sent f) := Lib.hid (HS.out.lose K)
                  have HI2 : Hid (n.lose K).In := Lib.hid (HI.out.lose K)
                  have NF := Lib.hid (NF.out.le (k' := 2 * k + 2) (by omega))
                  go_wp2_with fail
                  go_meet
                  case rel => exact ⟨_, _, _, _, h, by omega, e0, NF, HM2, HS2, HI2, nofun⟩
                · by_cases k3 : kind = 3
                  · subst k3
                    have HM2 : Hid ((n.twice K).max = m) := Lib.hid (by rw [← HM.out]; exact max_twice n K)
                    have HI2 : Hid (n.twice K).In := Lib.hid (HI.out.twice K)
                    have hsK := h.hs.small.get K
                    have hiK := HI.out.get K
                    have HSN : Hid (n.has K = false → (n.twice K).Sent f) := Lib.hid (fun hh => by
                      have : n.twice K = n := by unfold N.twice; rw [hh]; rfl
                      rw [this]; exact HS.out)
                    have HSY : Hid (n.has K = true → (n.twice K).Sent (more f (n.get K).s (n.get K).to 1)) := Lib.hid (fun hh => HS.out.twice K hh)
                    cases hh : n.has K
                    · have HE : Hid (n.noneE K = 5) := Lib.hid (by simp [N.noneE, hh])
                      have HS2 := Lib.hid (HSN.out hh)
                      have HH := Lib.hid hh
                      clear hh
                      go_wp2_with fail
                      refine (at_any _ B _ _ K _ h.hs.nt).mono ?_
                      rintro e w2 ⟨rfl, hb⟩
                      obtain ⟨h, hsa⟩ := h.kept hb
                      clear hb
                      have e0 : w2.cell? ⟨X, 0, none⟩ = some (.int .u8 3) := (hsa 0).trans e0
                      have e1 : w2.cell? ⟨X, 1, none⟩ = some (.string txt) := (hsa 1).trans e1
                      have e2 : w2.cell? ⟨X, 2, none⟩ = some (.int .i64 dst) := (hsa 2).trans e2
                      have e3 : w2.cell? ⟨X, 3, none⟩ = some (.int .i64 K) := (hsa 3).trans e3
                      have e4 : w2.cell? ⟨X, 4, none⟩ = some (.int .i64 pos) := (hsa 4).trans e4
                      have e5 : w2.cell? ⟨X, 5, none⟩ = some (.int .u32 (u xx)) := (hsa 5).trans e5
                      clear hsa
                      rw [HH.out]
                      go_wp2_with fail
                      refine (twice_of K h.hs).mono ?_
                      rintro e w3 ⟨rfl, hN⟩
                      obtain ⟨v2, h, hsa⟩ := h.now hN
                      clear hN
                      have e0 : w3.cell? ⟨X, 0, none⟩ = some (.int .u8 3) := (hsa 0).trans e0
                      have e1 : w3.cell? ⟨X, 1, none⟩ = some (.string txt) := (hsa 1).trans e1
                      have e2 : w3.cell? ⟨X, 2, none⟩ = some (.int .i64 dst) := (hsa 2).trans e2
                      have e3 : w3.cell? ⟨X, 3, none⟩ = some (.int .i64 K) := (hsa 3).trans e3
                      have e4 : w3.cell? ⟨X, 4, none⟩ = some (.int .i64 pos) := (hsa 4).trans e4
                      have e5 : w3.cell? ⟨X, 5, none⟩ = some (.int .u32 (u xx)) := (hsa 5).trans e5
                      clear hsa
                      rw [HE.out]
                      have NF := Lib.hid (NF.out.le (k' := 2 * k + 2) (by omega))
                      go_wp2_with fail
                      go_meet
                      case rel => exact ⟨_, _, _, _, h, by omega, e0, NF, HM2, HS2, HI2, nofun⟩
                    · have HE : Hid (n.noneE K = 0) := Lib.hid (by simp [N.noneE, hh])
                      have HS2 := Lib.hid (HSY.out hh)
                      have HH := Lib.hid hh
                      clear hh
                      go_wp2_with fail
                      refine (at_any _ B _ _ K _ h.hs.nt).mono ?_
                      rintro e w2 ⟨rfl, hb⟩
                      obtain ⟨h, hsa⟩ := h.kept hb
                      clear hb
                      have e0 : w2.cell? ⟨X, 0, none⟩ = some (.int .u8 3) := (hsa 0).trans e0
                      have e1 : w2.cell? ⟨X, 1, none⟩ = some (.string txt) := (hsa 1).trans e1
                      have e2 : w2.cell? ⟨X, 2, none⟩ = some (.int .i64 dst) := (hsa 2).trans e2
                      have e3 : w2.cell? ⟨X, 3, none⟩ = some (.int .i64 K) := (hsa 3).trans e3
                      have e4 : w2.cell? ⟨X, 4, none⟩ = some (.int .i64 pos) := (hsa 4).trans e4
                      have e5 : w2.cell? ⟨X, 5, none⟩ = some (.int .u32 (u xx)) := (hsa 5).trans e5
                      clear hsa
                      rw [HH.out]
                      obtain ⟨gs, hgs⟩ : ∃ gs, gs = (n.get K).s := ⟨_, rfl⟩
                      obtain ⟨gt, hgt⟩ : ∃ gt, gt = (n.get K).to := ⟨_, rfl⟩
                      rw [← hgs] at hsK HS2 ⊢
                      rw [← hgt] at hiK HS2 ⊢
                      clear hgs hgt
                      go_wp2_with fail
                      refine (twice_of K h.hs).mono ?_
                      rintro e w3 ⟨rfl, hN⟩
                      obtain ⟨v2, h, hsa⟩ := h.now hN
                      clear hN
                      have e0 : w3.cell? ⟨X, 0, none⟩ = some (.int .u8 3) := (hsa 0).trans e0
                      have e1 : w3.cell? ⟨X, 1, none⟩ = some (.string txt) := (hsa 1).trans e1
                      have e2 : w3.cell? ⟨X, 2, none⟩ = some (.int .i64 dst) := (hsa 2).trans e2
                      have e3 : w3.cell? ⟨X, 3, none⟩ = some (.int .i64 K) := (hsa 3).trans e3
                      have e4 : w3.cell? ⟨X, 4, none⟩ = some (.int .i64 pos) := (hsa 4).trans e4
                      have e5 : w3.cell? ⟨X, 5, none⟩ = some (.int .u32 (u xx)) := (hsa 5).trans e5
                      clear hsa
                      rw [HE.out]
                      go_wp2_with fail
                      have h := Sn_drew h
                      have hsz : (gs).size ≤ 100000 := hsK
                      have hin : inI64 (gt) := hiK
                      have hlk := h.tl.look hsz hin
                      obtain ⟨g, hg⟩ : ∃ g, g = f (gs) (gt) := ⟨_, rfl⟩
                      have hgb := NF.out (gs) (gt)
                      rw [← hg] at hlk hgb
                      obtain ⟨v0, st, wm, ws, hm1, hm2, ht2, ho1, ho2⟩ := h.tl.put (by omega) hsz hin (g + 1) ⟨by omega, by omega⟩
                      have hf2 : setT f (gs) (gt) (g + 1) = more f (gs) (gt) (1) := by rw [hg]; exact setT_more f _ _ (1)
                      rw [hf2] at ht2
                      have hlkm := (h.tl.entry (by omega) hsz hin hm1).look hsz hin
                      rw [← hg] at hlkm
                      have HG := Lib.hid hg
                      have HT2 := Lib.hid (And.intro ht2 ho2)
                      clear hg hf2 ht2
                      have z0 : wm.cell? ⟨X, 0, none⟩ = some (.int .u8 3) := (ho1.cell (p := ⟨X, 0, none⟩) h.xl h.xm).trans e0
                      have y0 : ws.cell? ⟨X, 0, none⟩ = some (.int .u8 3) := (ho2.cell (p := ⟨X, 0, none⟩) h.xl h.xm).trans e0
                      have hwr : IntKind.i64.wrap (g + 1) = g + 1 := IntWalk.i64_in _ (by omega)
                      rw [← hwr] at hm2
                      clear hwr
                      go_region_held3 (fun x => x.cell? ⟨X, 0, none⟩ = some (.int .u8 3)) (go_keep) (fail)
                      all_goals
                        obtain ⟨ht2, ho2⟩ := HT2.out
                        obtain ⟨h, hsa⟩ := h.put ho2 ht2
                        have e0 : ws.cell? ⟨X, 0, none⟩ = some (.int .u8 3) := (hsa 0).trans e0
                        have e1 : ws.cell? ⟨X, 1, none⟩ = some (.string txt) := (hsa 1).trans e1
                        have e2 : ws.cell? ⟨X, 2, none⟩ = some (.int .i64 dst) := (hsa 2).trans e2
                        have e3 : ws.cell? ⟨X, 3, none⟩ = some (.int .i64 K) := (hsa 3).trans e3
                        have e4 : ws.cell? ⟨X, 4, none⟩ = some (.int .i64 pos) := (hsa 4).trans e4
                        have e5 : ws.cell? ⟨X, 5, none⟩ = some (.int .u32 (u xx)) := (hsa 5).trans e5
                        clear hsa ho1 hm1 hm2 hlk hlkm z0 y0
                        have NF := Lib.hid (NF.out.more (gs) (gt) (1) (by omega) (by omega))
                        have NF := Lib.hid (NF.out.le (k' := 2 * k + 2) (by omega))
                        go_wp2_with fail
                        go_meet
                        case rel => exact ⟨_, _, _, _, h, by omega, e0, NF, HM2, HS2, HI2, nofun⟩
                  · skip
                    have HM2 : Hid ((n.bend K pos xx).max = m) := Lib.hid (by rw [← HM.out]; exact max_bend n K pos xx)
                    have HI2 : Hid (n.bend K pos xx).In := Lib.hid (HI.out.bend K pos xx)
                    have hsK := h.hs.small.get K
                    have hiK := HI.out.get K
                    have hsU := (h.hs.small.bend K pos xx).get K
                    cases hh : n.has K
                    · have HS2 : Hid ((n.bend K pos xx).Sent f) := Lib.hid (by unfold N.bend; rw [N.put_out hh]; exact HS.out)
                      have HH := Lib.hid hh
                      clear hh
                      go_wp2_with fail
                      refine (at_any _ B _ _ K _ h.hs.nt).mono ?_
                      rintro e w2 ⟨rfl, hb⟩
                      obtain ⟨h, hsa⟩ := h.kept hb
                      clear hb
                      have e0 : w2.cell? ⟨X, 0, none⟩ = some (.int .u8 kind) := (hsa 0).trans e0
                      have e1 : w2.cell? ⟨X, 1, none⟩ = some (.string txt) := (hsa 1).trans e1
                      have e2 : w2.cell? ⟨X, 2, none⟩ = some (.int .i64 dst) := (hsa 2).trans e2
                      have e3 : w2.cell? ⟨X, 3, none⟩ = some (.int .i64 K) := (hsa 3).trans e3
                      have e4 : w2.cell? ⟨X, 4, none⟩ = some (.int .i64 pos) := (hsa 4).trans e4
                      have e5 : w2.cell? ⟨X, 5, none⟩ = some (.int .u32 (u xx)) := (hsa 5).trans e5
                      clear hsa
                      rw [HH.out]
                      go_wp2_with fail
                      refine (bend_of K pos xx h.hs hp0 hp1).mono ?_
                      rintro e w3 ⟨rfl, hN⟩
                      obtain ⟨v2, h, hsa⟩ := h.now hN
                      clear hN
                      have e0 : w3.cell? ⟨X, 0, none⟩ = some (.int .u8 kind) := (hsa 0).trans e0
                      have e1 : w3.cell? ⟨X, 1, none⟩ = some (.string txt) := (hsa 1).trans e1
                      have e2 : w3.cell? ⟨X, 2, none⟩ = some (.int .i64 dst) := (hsa 2).trans e2
                      have e3 : w3.cell? ⟨X, 3, none⟩ = some (.int .i64 K) := (hsa 3).trans e3
                      have e4 : w3.cell? ⟨X, 4, none⟩ = some (.int .i64 pos) := (hsa 4).trans e4
                      have e5 : w3.cell? ⟨X, 5, none⟩ = some (.int .u32 (u xx)) := (hsa 5).trans e5
                      clear hsa
                      go_wp2_with fail
                      refine (at_any _ B _ _ K _ h.hs.nt).mono ?_
                      rintro e w4 ⟨rfl, hb⟩
                      obtain ⟨h, hsa⟩ := h.kept hb
                      clear hb
                      have e0 : w4.cell? ⟨X, 0, none⟩ = some (.int .u8 kind) := (hsa 0).trans e0
                      have e1 : w4.cell? ⟨X, 1, none⟩ = some (.string txt) := (hsa 1).trans e1
                      have e2 : w4.cell? ⟨X, 2, none⟩ = some (.int .i64 dst) := (hsa 2).trans e2
                      have e3 : w4.cell? ⟨X, 3, none⟩ = some (.int .i64 K) := (hsa 3).trans e3
                      have e4 : w4.cell? ⟨X, 4, none⟩ = some (.int .i64 pos) := (hsa 4).trans e4
                      have e5 : w4.cell? ⟨X, 5, none⟩ = some (.int .u32 (u xx)) := (hsa 5).trans e5
                      clear hsa
                      have NF := Lib.hid (NF.out.le (k' := 2 * k + 2) (by omega))
                      go_wp2_with fail
                      go_meet
                      case rel => exact ⟨_, _, _, _, h, by omega, e0, NF, HM2, HS2, HI2, fun h0 => absurd h0 k0⟩
                    · have HS2 : Hid ((n.bend K pos xx).Sent (more (more f (n.get K).s (n.get K).to (-1)) ((n.bend K pos xx).get K).s (n.get K).to 1)) := Lib.hid (by
                        have h1 := HS.out.put K hh ((n.get K).bend pos xx) (U.bend_to _ _ _)
                        unfold N.bend
                        rw [N.get_put hh]
                        exact h1)
                      have HH := Lib.hid hh
                      clear hh
                      go_wp2_with fail
                      refine (at_any _ B _ _ K _ h.hs.nt).mono ?_
                      rintro e w2 ⟨rfl, hb⟩
                      obtain ⟨h, hsa⟩ := h.kept hb
                      clear hb
                      have e0 : w2.cell? ⟨X, 0, none⟩ = some (.int .u8 kind) := (hsa 0).trans e0
                      have e1 : w2.cell? ⟨X, 1, none⟩ = some (.string txt) := (hsa 1).trans e1
                      have e2 : w2.cell? ⟨X, 2, none⟩ = some (.int .i64 dst) := (hsa 2).trans e2
                      have e3 : w2.cell? ⟨X, 3, none⟩ = some (.int .i64 K) := (hsa 3).trans e3
                      have e4 : w2.cell? ⟨X, 4, none⟩ = some (.int .i64 pos) := (hsa 4).trans e4
                      have e5 : w2.cell? ⟨X, 5, none⟩ = some (.int .u32 (u xx)) := (hsa 5).trans e5
                      clear hsa
                      rw [HH.out]
                      obtain ⟨gs, hgs⟩ : ∃ gs, gs = (n.get K).s := ⟨_, rfl⟩
                      obtain ⟨gt, hgt⟩ : ∃ gt, gt = (n.get K).to := ⟨_, rfl⟩
                      obtain ⟨us, hus⟩ : ∃ us, us = ((n.bend K pos xx).get K).s := ⟨_, rfl⟩
                      rw [← hus] at hsU HS2
                      rw [← hgs] at hsK HS2 ⊢
                      rw [← hgt] at hiK HS2 ⊢
                      have HUS := Lib.hid hus
                      clear hgs hgt hus
                      go_wp2_with fail
                      refine (bend_of K pos xx h.hs hp0 hp1).mono ?_
                      rintro e w3 ⟨rfl, hN⟩
                      obtain ⟨v2, h, hsa⟩ := h.now hN
                      clear hN
                      have e0 : w3.cell? ⟨X, 0, none⟩ = some (.int .u8 kind) := (hsa 0).trans e0
                      have e1 : w3.cell? ⟨X, 1, none⟩ = some (.string txt) := (hsa 1).trans e1
                      have e2 : w3.cell? ⟨X, 2, none⟩ = some (.int .i64 dst) := (hsa 2).trans e2
                      have e3 : w3.cell? ⟨X, 3, none⟩ = some (.int .i64 K) := (hsa 3).trans e3
                      have e4 : w3.cell? ⟨X, 4, none⟩ = some (.int .i64 pos) := (hsa 4).trans e4
                      have e5 : w3.cell? ⟨X, 5, none⟩ = some (.int .u32 (u xx)) := (hsa 5).trans e5
                      clear hsa
                      go_wp2_with fail
                      refine (at_any _ B _ _ K _ h.hs.nt).mono ?_
                      rintro e w4 ⟨rfl, hb⟩
                      obtain ⟨h, hsa⟩ := h.kept hb
                      clear hb
                      have e0 : w4.cell? ⟨X, 0, none⟩ = some (.int .u8 kind) := (hsa 0).trans e0
                      have e1 : w4.cell? ⟨X, 1, none⟩ = some (.string txt) := (hsa 1).trans e1
                      have e2 : w4.cell? ⟨X, 2, none⟩ = some (.int .i64 dst) := (hsa 2).trans e2
                      have e3 : w4.cell? ⟨X, 3, none⟩ = some (.int .i64 K) := (hsa 3).trans e3
                      have e4 : w4.cell? ⟨X, 4, none⟩ = some (.int .i64 pos) := (hsa 4).trans e4
                      have e5 : w4.cell? ⟨X, 5, none⟩ = some (.int .u32 (u xx)) := (hsa 5).trans e5
                      clear hsa
                      rw [← HUS.out]
                      go_wp2_with fail
                      have h := Sn_drew h
                      have hsz : (gs).size ≤ 100000 := hsK
                      have hin : inI64 (gt) := hiK
                      have hlk := h.tl.look hsz hin
                      obtain ⟨g, hg⟩ : ∃ g, g = f (gs) (gt) := ⟨_, rfl⟩
                      have hgb := NF.out (gs) (gt)
                      rw [← hg] at hlk hgb
                      obtain ⟨v0, st, wm, ws, hm1, hm2, ht2, ho1, ho2⟩ := h.tl.put (by omega) hsz hin (g - 1) ⟨by omega, by omega⟩
                      have hf2 : setT f (gs) (gt) (g - 1) = more f (gs) (gt) (-1) := by rw [hg]; exact setT_more f _ _ (-1)
                      rw [hf2] at ht2
                      have hlkm := (h.tl.entry (by omega) hsz hin hm1).look hsz hin
                      rw [← hg] at hlkm
                      have HG := Lib.hid hg
                      have HT2 := Lib.hid (And.intro ht2 ho2)
                      clear hg hf2 ht2
                      have z0 : wm.cell? ⟨X, 0, none⟩ = some (.int .u8 kind) := (ho1.cell (p := ⟨X, 0, none⟩) h.xl h.xm).trans e0
                      have y0 : ws.cell? ⟨X, 0, none⟩ = some (.int .u8 kind) := (ho2.cell (p := ⟨X, 0, none⟩) h.xl h.xm).trans e0
                      have hwr : IntKind.i64.wrap (g - 1) = g - 1 := IntWalk.i64_in _ (by omega)
                      rw [← hwr] at hm2
                      clear hwr
                      go_region_held3 (fun x => x.cell? ⟨X, 0, none⟩ = some (.int .u8 kind)) (go_keep) (fail)
                      all_goals
                        obtain ⟨ht2, ho2⟩ := HT2.out
                        obtain ⟨h, hsa⟩ := h.put ho2 ht2
                        have e0 : ws.cell? ⟨X, 0, none⟩ = some (.int .u8 kind) := (hsa 0).trans e0
                        have e1 : ws.cell? ⟨X, 1, none⟩ = some (.string txt) := (hsa 1).trans e1
                        have e2 : ws.cell? ⟨X, 2, none⟩ = some (.int .i64 dst) := (hsa 2).trans e2
                        have e3 : ws.cell? ⟨X, 3, none⟩ = some (.int .i64 K) := (hsa 3).trans e3
                        have e4 : ws.cell? ⟨X, 4, none⟩ = some (.int .i64 pos) := (hsa 4).trans e4
                        have e5 : ws.cell? ⟨X, 5, none⟩ = some (.int .u32 (u xx)) := (hsa 5).trans e5
                        clear hsa ho1 hm1 hm2 hlk hlkm z0 y0
                        have NF := Lib.hid (NF.out.more (gs) (gt) (-1) (by omega) (by omega))
                        obtain ⟨f1, hf1⟩ : ∃ f1, f1 = more f gs gt (-1) := ⟨_, rfl⟩
                        rw [← hf1] at h NF HS2
                        clear hf1
                        go_wp2_with fail
                        have h := Sn_drew h
                        have hsz : (us).size ≤ 100000 := hsU
                        have hin : inI64 (gt) := hiK
                        have hlk := h.tl.look hsz hin
                        obtain ⟨g, hg⟩ : ∃ g, g = f1 (us) (gt) := ⟨_, rfl⟩
                        have hgb := NF.out (us) (gt)
                        rw [← hg] at hlk hgb
                        obtain ⟨v0, st, wm, ws, hm1, hm2, ht2, ho1, ho2⟩ := h.tl.put (by omega) hsz hin (g + 1) ⟨by omega, by omega⟩
                        have hf2 : setT f1 (us) (gt) (g + 1) = more f1 (us) (gt) (1) := by rw [hg]; exact setT_more f1 _ _ (1)
                        rw [hf2] at ht2
                        have hlkm := (h.tl.entry (by omega) hsz hin hm1).look hsz hin
                        rw [← hg] at hlkm
                        have HG := Lib.hid hg
                        have HT2 := Lib.hid (And.intro ht2 ho2)
                        clear hg hf2 ht2
                        have z0 : wm.cell? ⟨X, 0, none⟩ = some (.int .u8 kind) := (ho1.cell (p := ⟨X, 0, none⟩) h.xl h.xm).trans e0
                        have y0 : ws.cell? ⟨X, 0, none⟩ = some (.int .u8 kind) := (ho2.cell (p := ⟨X, 0, none⟩) h.xl h.xm).trans e0
                        have hwr : IntKind.i64.wrap (g + 1) = g + 1 := IntWalk.i64_in _ (by omega)
                        rw [← hwr] at hm2
                        clear hwr
                        go_region_held3 (fun x => x.cell? ⟨X, 0, none⟩ = some (.int .u8 kind)) (go_keep) (fail)
                        all_goals
                          obtain ⟨ht2, ho2⟩ := HT2.out
                          obtain ⟨h, hsa⟩ := h.put ho2 ht2
                          have e0 : ws.cell? ⟨X, 0, none⟩ = some (.int .u8 kind) := (hsa 0).trans e0
                          have e1 : ws.cell? ⟨X, 1, none⟩ = some (.string txt) := (hsa 1).trans e1
                          have e2 : ws.cell? ⟨X, 2, none⟩ = some (.int .i64 dst) := (hsa 2).trans e2
                          have e3 : ws.cell? ⟨X, 3, none⟩ = some (.int .i64 K) := (hsa 3).trans e3
                          have e4 : ws.cell? ⟨X, 4, none⟩ = some (.int .i64 pos) := (hsa 4).trans e4
                          have e5 : ws.cell? ⟨X, 5, none⟩ = some (.int .u32 (u xx)) := (hsa 5).trans e5
                          clear hsa ho1 hm1 hm2 hlk hlkm z0 y0
                          have NF := Lib.hid (NF.out.more (us) (gt) (1) (by omega) (by omega))
                          have NF := Lib.hid (NF.out.le (k' := 2 * k + 2) (by omega))
                          go_wp2_with fail
                          go_meet
                          case rel => exact ⟨_, _, _, _, h, by omega, e0, NF, HM2, HS2, HI2, fun h0 => absurd h0 k0⟩
          case rest => as_aux_lemma =>
            obtain ⟨v2, n2, c2, f2, h, hc2, e0, NF, HM2, HS2, HI2, HLL⟩ := hcut
            clear e1 e2 e3 e4 e5
            have hle := h.hs.nt.ok.le
            rw [HM2.out] at hle
            obtain ⟨len2, hl2⟩ : ∃ len2 : Int, len2 = n2.l.length := ⟨_, rfl⟩
            have hlen2 := len_of h.hs
            rw [← hl2] at hlen2 hle HLL
            clear hl2
            have h20 : (0 : Int) ≤ was := by omega
            by_cases k0 : kind = 0
            · subst k0
              have hl := (HLL rfl).out
              by_cases hmn : (n.l.length : Int) + 1 < m
              · rw [if_pos hmn] at hl
                go_wp2_with fail
                refine hlen2.mono ?_
                rintro e w7 ⟨rfl, rfl⟩
                go_wp2_with fail
                refine hlen2.mono ?_
                rintro e w8 ⟨rfl, rfl⟩
                clear hlen2
                go_wp2_with fail
                refine ⟨⟨k + 1, v2, n2, c2, f2, by omega, by go_num, h.sr, by omega, Lib.hid (NF.out.le (by omega)), HM2, HS2, HI2⟩, ?_⟩
                simp only [intOf]; omega
              · rw [if_neg hmn] at hl
                go_wp2_with fail
                refine hlen2.mono ?_
                rintro e w7 ⟨rfl, rfl⟩
                go_wp2_with fail
                refine hlen2.mono ?_
                rintro e w8 ⟨rfl, rfl⟩
                clear hlen2
                go_wp2_with fail
                refine ⟨⟨k + 1, v2, n2, c2, f2, by omega, by go_num, h.sr, by omega, Lib.hid (NF.out.le (by omega)), HM2, HS2, HI2⟩, ?_⟩
                simp only [intOf]; omega
            · go_wp2_with fail
              refine hlen2.mono ?_
              rintro e w7 ⟨rfl, rfl⟩
              clear hlen2
              go_wp2_with fail
              refine ⟨⟨k + 1, v2, n2, c2, f2, by omega, by go_num, h.sr, by omega, Lib.hid (NF.out.le (by omega)), HM2, HS2, HI2⟩, ?_⟩
              simp only [intOf]; omega
        · obtain rfl : k = l.length := by omega
          go_wp2_with fail
          go_ret
          exact ⟨rfl, h.hs.below⟩
    · go_wp2_with fail
      refine (new_no m _ (by omega)).mono ?_
      rintro e w2 ⟨rfl, rfl⟩
      go_wp2_with fail
      go_ret
      exact ⟨rfl, hbW⟩
  · clear HT
    go_wp2_with fail
    refine (works_any _).mono ?_
    rintro e w2 ⟨rfl, hb2⟩
    go_wp2_with fail
    go_ret
    exact ⟨rfl, then_below hbW hb2⟩
end Sent
end Go.Proofs.Ytialfpmfiapepaa
