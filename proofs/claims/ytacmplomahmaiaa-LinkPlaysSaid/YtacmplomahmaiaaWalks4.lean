/-
  The walk of Take.
-/
import Derived.Test.YtacmplomahmaiaaWalks2
namespace Go.Proofs.Ytacmplomahmaiaa
open Go.RowKit Go.Maps
set_option linter.unusedVariables false
set_option linter.unusedSimpArgs false
attribute [local go_sem ↓] Go.wp_at_zero Go.wp_at_succ
theorem two (w : World) (a b : Obj) (g : Nat) (hg : w.heap.size = g) : ((((w.alloc a).alloc b)).heap[g + 1]? = some b) ∧ ((((w.alloc a).alloc b)).heap[g]? = some a) := by
  subst hg
  refine ⟨?_, by rw [Below.heap_alloc _ _ _ (by simp)]; exact heap_alloc_new _ _⟩
  have := heap_alloc_new (w.alloc a) b
  simpa using this
/-- Behind the look into the map: what is known of the address lies in the block Q; the frame and who takes it, in their boxes. -/
structure Tk (B M n : Nat) (g : Int → Peer) (Q : Nat) (p : Peer) (f : Fr) (ma mi : Int) (w wx : World) : Prop where
  lk : Lk B M n g wx
  keep : Keep M w wx
  box : wx.heap[Q]? = some (.cells p.cells 53 (0, 0))
  fr : wx.heap[w.heap.size]? = some (.cells f.cells 37 (0, 0))
  me : wx.heap[w.heap.size + 1]? = some (.cells #[.int .i64 ma, .int .i64 mi] 23 (0, 0))
  hQ : w.heap.size + 1 < Q
  hB : B < w.heap.size
  hM : M < w.heap.size
section
variable {B M n : Nat} {g : Int → Peer} {Q : Nat} {p : Peer} {f : Fr} {ma mi : Int} {w wx : World}
theorem Tk.lt (h : Tk B M n g Q p f ma mi w wx) : Q < wx.heap.size := (Array.getElem?_eq_some_iff.1 h.box).1
theorem Tk.cells (h : Tk B M n g Q p f ma mi w wx) :
    wx.cell? ⟨Q, 0, none⟩ = some (.int .i64 p.newest) ∧ wx.cell? ⟨Q, 1, none⟩ = some (.int .i64 p.fenced) ∧ wx.cell? ⟨Q, 2, none⟩ = some (.int .i64 p.beat) ∧ wx.cell? ⟨Q, 3, none⟩ = some (.int .i64 p.reply) := by
  refine ⟨?_, ?_, ?_, ?_⟩ <;> (rw [cell_of_row _ _ _ _ _ _ h.box]; rfl)
theorem Tk.free (h : Tk B M n g Q p f ma mi w wx) (o : Nat) : wx.frozen? ⟨Q, o, none⟩ = false := frozen_of_row _ _ _ _ _ h.box
theorem Tk.mine (h : Tk B M n g Q p f ma mi w wx) : wx.cell? ⟨w.heap.size + 1, 0, none⟩ = some (.int .i64 ma) ∧ wx.cell? ⟨w.heap.size + 1, 1, none⟩ = some (.int .i64 mi) := by
  refine ⟨?_, ?_⟩ <;> (rw [cell_of_row _ _ _ _ _ _ h.me]; rfl)
theorem Tk.kept {wy : World} (h : Tk B M n g Q p f ma mi w wx) (hb : Below wx.heap.size wx wy) : Tk B M n g Q p f ma mi w wy := by
  have hl := h.lt
  have hq := h.hQ
  exact ⟨h.lk.kept hb, h.keep.trans (Keep.of_below hb), (hb.block _ hl).trans h.box, (hb.block _ (by omega)).trans h.fr, (hb.block _ (by omega)).trans h.me, hq, h.hB, h.hM⟩
theorem Tk.drew (h : Tk B M n g Q p f ma mi w wx) : Tk B M n g Q p f ma mi w wx.drew := ⟨h.lk.drew, h.keep.drew, h.box, h.fr, h.me, h.hQ, h.hB, h.hM⟩
theorem Tk.set (h : Tk B M n g Q p f ma mi w wx) (o : Nat) (v : Value) (p' : Peer) (hp : p.cells.setIfInBounds o v = p'.cells) : Tk B M n g Q p' f ma mi w (wx.setCell ⟨Q, o, none⟩ v) := by
  have hq := h.hQ
  have hB := h.hB
  have hM := h.hM
  refine ⟨h.lk.setOther (by simp; omega) (by simp; omega) _, h.keep.setCell (.inr (by simp; omega)) _, ?_, ?_, ?_, hq, hB, hM⟩
  · rw [heap_setCell_same _ _ _ _ _ _ h.box, hp]
  · rw [Below.heap_setCell _ _ _ _ (by simp; omega)]; exact h.fr
  · rw [Below.heap_setCell _ _ _ _ (by simp; omega)]; exact h.me
end
/-- What it becomes ahead of the numbers. -/
def Peer.base (p : Peer) (fi : Int) : Peer := if p.newest < fi then ⟨fi, p.fenced, 0, 0⟩ else p
def Peer.done (p : Peer) (f : Fr) : Peer := if f.kind = 6 then { p with reply := f.n } else if f.kind = 5 then { p with beat := f.n } else p
theorem Peer.take_ok (p : Peer) (f : Fr) (mi : Int) (h1 : ¬ ((f.ti ≠ 0 ∧ f.ti ≠ mi) ∨ f.fi < p.newest)) (h2 : ¬ f.fi ≤ p.fenced) (h3 : p.newest < f.fi ∨ ¬ ((f.kind = 5 ∧ f.n ≤ p.beat) ∨ (f.kind = 6 ∧ f.n ≤ p.reply))) :
    p.take f mi = ((p.base f.fi).done f, 0) := by
  have e1 : ((decide (f.ti ≠ 0) && decide (f.ti ≠ mi)) || decide (f.fi < p.newest)) = false := by
    rw [Bool.eq_false_iff]; intro hc; apply h1; simpa using hc
  have e2 : decide (f.fi ≤ p.fenced) = false := by simpa using h2
  unfold Peer.take
  rw [e1, e2]
  by_cases hn : p.newest < f.fi
  · simp [hn, Peer.base, Peer.done]
  · have e4 : ((decide (f.kind = 5) && decide (f.n ≤ p.beat)) || (decide (f.kind = 6) && decide (f.n ≤ p.reply))) = false := by
      rw [Bool.eq_false_iff]; intro hc
      rcases h3 with h3 | h3
      · exact hn h3
      · apply h3; simpa using hc
    simp [hn, Peer.base, Peer.done, e4]
set_option maxRecDepth 100000 in
set_option maxHeartbeats 4000000 in
theorem take_form (B M n : Nat) (g : Int → Peer) (f : Fr) (ma mi : Int) (w : World) (h : Lk B M n g w) (hn : n ≤ 1000) (hf : formB f ma = false) :
    Calls Try.prog 11 #[.pointer (some ⟨B, 0, none⟩), f.val, .agg #[.int .i64 ma, .int .i64 mi]] w fun e w' => e = .returned (.int .i64 (takeE g f ma mi)) ∧ Lk B M (n + 1) (takeF g f ma mi) w' ∧ Keep M w w' := by
  have HE := Lib.hid (show takeE g f ma mi = 4 ∧ takeF g f ma mi = g by simp [takeE, takeF, hf])
  have hlt := h.lt
  have hc : mayB f.fa f.fi = false ∨ (mayB f.fa f.fi = true ∧ (¬ f.ta = ma ∨ (f.ta = ma ∧ f.fa = ma))) := by
    cases hm : mayB f.fa f.fi
    · exact .inl rfl
    · right
      refine ⟨rfl, ?_⟩
      by_cases e1 : f.ta = ma
      · right
        refine ⟨e1, ?_⟩
        simp [formB, hm, e1] at hf
        exact hf
      · exact .inl e1
  clear hf
  obtain ⟨kind, fa, fi, ta, ti, fn, tok⟩ := f
  simp only at hc
  simp only [Fr.val, Fr.cells]
  rcases hc with hm | ⟨hm, e1 | ⟨e1, e2⟩⟩
  all_goals
    have HM := Lib.hid hm
    clear hm
  · go_enter Try.func11, Try.ntmps11
    go_wp2_with fail
    refine (may_any fa fi _).mono ?_
    rintro e w1 ⟨rfl, hb1⟩
    rw [HM.out]
    have hL := ((h.alloc _).alloc _).kept hb1
    have hK := (((Keep.refl M w).alloc _).alloc _).trans (Keep.of_below hb1)
    go_wp2_with fail
    go_ret
    refine ⟨ret_i HE.out.1.symm, ?_, hK⟩
    rw [HE.out.2]
    exact ⟨hL.here, hL.knows.more (by omega), hL.ne⟩
  · have k1 : (ta != ma) = true := by simpa using e1
    clear e1
    go_enter Try.func11, Try.ntmps11
    go_wp2_with fail
    refine (may_any fa fi _).mono ?_
    rintro e w1 ⟨rfl, hb1⟩
    rw [HM.out]
    have hc1 := fun (b o : Nat) (hbo : b < _) => hb1.cell (p := ⟨b, o, none⟩) hbo
    have hL := ((h.alloc _).alloc _).kept hb1
    have hK := (((Keep.refl M w).alloc _).alloc _).trans (Keep.of_below hb1)
    go_wp2_with fail
    go_ret
    refine ⟨ret_i HE.out.1.symm, ?_, hK⟩
    rw [HE.out.2]
    exact ⟨hL.here, hL.knows.more (by omega), hL.ne⟩
  · subst e1 e2
    go_enter Try.func11, Try.ntmps11
    go_wp2_with fail
    refine (may_any fa fi _).mono ?_
    rintro e w1 ⟨rfl, hb1⟩
    rw [HM.out]
    have hc1 := fun (b o : Nat) (hbo : b < _) => hb1.cell (p := ⟨b, o, none⟩) hbo
    have hL := ((h.alloc _).alloc _).kept hb1
    have hK := (((Keep.refl M w).alloc _).alloc _).trans (Keep.of_below hb1)
    go_wp2_with fail
    go_ret
    refine ⟨ret_i HE.out.1.symm, ?_, hK⟩
    rw [HE.out.2]
    exact ⟨hL.here, hL.knows.more (by omega), hL.ne⟩
theorem take_bad {g : Int → Peer} {f : Fr} {ma mi : Int} {p p' : Peer} {c : Int} (hf : formB f ma = true) (hp : g f.fa = p) (h : p.take f mi = (p', c)) (hc : c ≠ 0) : takeE g f ma mi = c ∧ takeF g f ma mi = g := by
  subst hp
  simp [takeE, takeF, hf, h, hc]
theorem take_good {g : Int → Peer} {f : Fr} {ma mi : Int} {p p' : Peer} (hf : formB f ma = true) (hp : g f.fa = p) (h : p.take f mi = (p', 0)) : takeE g f ma mi = 0 ∧ takeF g f ma mi = set g f.fa p' := by
  subst hp
  simp [takeE, takeF, hf, h]
set_option maxRecDepth 100000 in
set_option maxHeartbeats 8000000 in
theorem take_go (B M n : Nat) (g : Int → Peer) (f : Fr) (ma mi : Int) (w : World) (h : Lk B M n g w) (hn : n ≤ 1000) (ha : inI64 f.fa) (hf : formB f ma = true) :
    Calls Try.prog 11 #[.pointer (some ⟨B, 0, none⟩), f.val, .agg #[.int .i64 ma, .int .i64 mi]] w fun e w' => e = .returned (.int .i64 (takeE g f ma mi)) ∧ Lk B M (n + 1) (takeF g f ma mi) w' ∧ Keep M w w' := by
  have hlt := h.lt
  have hMt := h.knows.lt
  have hfm : mayB f.fa f.fi = true ∧ f.ta = ma ∧ ¬ f.fa = ma := by simpa [formB, and_assoc] using hf
  obtain ⟨hm, e1, e2⟩ := hfm
  subst e1
  have HFm := Lib.hid hf
  clear hf
  have k2 : (f.fa == f.ta) = false := by simpa using e2
  clear e2
  have HM := Lib.hid hm
  clear hm
  generalize hp : g f.fa = p
  have HP := Lib.hid hp
  clear hp
  go_enter Try.func11, Try.ntmps11
  simp only [Fr.val, Fr.cells]
  go_wp2_with fail
  refine (may_any f.fa f.fi _).mono ?_
  rintro e w1 ⟨rfl, hb1⟩
  rw [HM.out]
  have hc1 := fun (b o : Nat) (hbo : b < _) => hb1.cell (p := ⟨b, o, none⟩) hbo
  have HL := Lib.hid (((h.alloc (.cells f.cells 37)).alloc (.cells #[.int .i64 f.ta, .int .i64 mi] 23)).kept hb1)
  have HK := Lib.hid ((((Keep.refl M w).alloc (.cells f.cells 37)).alloc (.cells #[.int .i64 f.ta, .int .i64 mi] 23)).trans (Keep.of_below hb1))
  have HF1 : Hid (w1.heap[w.heap.size]? = some (.cells f.cells 37 (0, 0))) := Lib.hid ((hb1.block w.heap.size (by simp; omega)).trans (two w _ _ _ rfl).2)
  have HF2 : Hid (w1.heap[w.heap.size + 1]? = some (.cells #[.int .i64 f.ta, .int .i64 mi] 23 (0, 0))) := Lib.hid ((hb1.block (w.heap.size + 1) (by simp)).trans (two w _ _ _ rfl).1)
  have hz1 : w.heap.size + 1 < w1.heap.size := by have := hb1.size; simp at this; omega
  go_upto_region 5 with fail
  clear hc1
  go_cut [7] (fun v wx => ∃ Q, v = .pointer (some ⟨Q, 0, none⟩) ∧ Tk B M n g Q p f f.ta mi w wx)
  case first =>
    have c1 := HL.out.cell
    have i0 : w1.cell? ⟨w.heap.size, 1, none⟩ = some (.int .i64 f.fa) := (hb1.cell (p := ⟨w.heap.size, 1, none⟩) (by simp; omega)).trans (by simp)
    have hl1 := HL.out.drew.knows.look f.fa ha
    have hl2 := (HL.out.alloc (.cells #[.int .i64 0, .int .i64 0, .int .i64 0, .int .i64 0] 53)).drew.knows.look f.fa ha
    rw [HP.out] at hl1 hl2
    simp only [Peer.cells] at hl1 hl2
    have hB1 := HL.out.lt
    clear hb1
    go_region_held3 (fun v => v.cell? ⟨B, 0, none⟩ = some (.map (some M)) ∧ v.cell? ⟨w.heap.size, 1, none⟩ = some (.int .i64 f.fa)) (go_keep) (fail)
    all_goals
      go_wp2_with fail
      go_meet
      case rel => exact ⟨_, rfl, (HL.out.alloc _).drew, (HK.out.alloc _).drew, heap_alloc_new w1 _, by have := Below.heap_alloc w1 (.cells p.cells 53) w.heap.size (by omega); exact this.trans HF1.out, by have := Below.heap_alloc w1 (.cells p.cells 53) (w.heap.size + 1) (by omega); exact this.trans HF2.out, hz1, hlt, hMt⟩
  case rest =>
    obtain ⟨Q, rfl, hT⟩ := hcut
    clear hb1
    go_upto_block 1 with fail
    go_cut [9] (fun _ wx => ¬ ((f.ti ≠ 0 ∧ f.ti ≠ mi) ∨ f.fi < p.newest) ∧ ¬ f.fi ≤ p.fenced ∧ (p.newest < f.fi ∨ ¬ ((f.kind = 5 ∧ f.n ≤ p.beat) ∨ (f.kind = 6 ∧ f.n ≤ p.reply))) ∧ Tk B M n g Q (p.base f.fi) f f.ta mi w wx)
    case first =>
      obtain ⟨q0, q1, q2, q3⟩ := hT.cells
      obtain ⟨f0, f1, f2, f3, f4, f5, f6, f7, f8, f9, f10, f11, f12, f13⟩ := Fr.reads hT.fr
      obtain ⟨m0, m1⟩ := hT.mine
      have fz := hT.free
      have hcs : (f.ti ≠ 0 ∧ f.ti ≠ mi) ∨ f.ti = 0 ∨ (f.ti ≠ 0 ∧ f.ti = mi) := by omega
      rcases hcs with ⟨e0, e1⟩ | hne
      · have HW := Lib.hid (take_bad HFm.out HP.out (show p.take f mi = (p, 42) by simp [Peer.take, e0, e1]) (by decide))
        have b0 : (f.ti != 0) = true := by simpa using e0
        have b1 : (f.ti != mi) = true := by simpa using e1
        clear e0 e1
        go_wp2_with fail
        go_ret
        refine ⟨ret_i HW.out.1.symm, ?_, hT.keep⟩
        rw [HW.out.2]
        exact ⟨hT.lk.here, hT.lk.knows.more (by omega), hT.lk.ne⟩
      · have HN : Hid (¬ (f.ti ≠ 0 ∧ f.ti ≠ mi)) := Lib.hid (by omega)
        by_cases hlo : f.fi < p.newest
        · have HW := Lib.hid (take_bad HFm.out HP.out (show p.take f mi = (p, 42) by simp [Peer.take, hlo]) (by decide))
          rcases hne with e0 | ⟨e0, e1⟩
          · have b0 : (f.ti != 0) = false := by simpa using e0
            clear e0
            go_wp2_with fail
            go_ret
            refine ⟨ret_i HW.out.1.symm, ?_, hT.keep⟩
            rw [HW.out.2]
            exact ⟨hT.lk.here, hT.lk.knows.more (by omega), hT.lk.ne⟩
          · have b0 : (f.ti != 0) = true := by simpa using e0
            have b1 : (f.ti != mi) = false := by simpa using e1
            clear e0 e1
            go_wp2_with fail
            go_ret
            refine ⟨ret_i HW.out.1.symm, ?_, hT.keep⟩
            rw [HW.out.2]
            exact ⟨hT.lk.here, hT.lk.knows.more (by omega), hT.lk.ne⟩
        · have HA : Hid (¬ ((f.ti ≠ 0 ∧ f.ti ≠ mi) ∨ f.fi < p.newest)) := Lib.hid (by have := HN.out; omega)
          have HA2 : Hid (((decide (f.ti ≠ 0) && decide (f.ti ≠ mi)) || decide (f.fi < p.newest)) = false) := Lib.hid (by rw [Bool.eq_false_iff]; intro hc; apply HA.out; simpa using hc)
          by_cases hfe : f.fi ≤ p.fenced
          · have HW := Lib.hid (take_bad HFm.out HP.out (show p.take f mi = (p, 7) by unfold Peer.take; rw [HA2.out]; simp [hfe]) (by decide))
            rcases hne with e0 | ⟨e0, e1⟩
            · have b0 : (f.ti != 0) = false := by simpa using e0
              clear e0
              go_wp2_with fail
              go_ret
              refine ⟨ret_i HW.out.1.symm, ?_, hT.keep⟩
              rw [HW.out.2]
              exact ⟨hT.lk.here, hT.lk.knows.more (by omega), hT.lk.ne⟩
            · have b0 : (f.ti != 0) = true := by simpa using e0
              have b1 : (f.ti != mi) = false := by simpa using e1
              clear e0 e1
              go_wp2_with fail
              go_ret
              refine ⟨ret_i HW.out.1.symm, ?_, hT.keep⟩
              rw [HW.out.2]
              exact ⟨hT.lk.here, hT.lk.knows.more (by omega), hT.lk.ne⟩
          · by_cases hnn : p.newest < f.fi
            · have HBs := Lib.hid (show p.base f.fi = ⟨f.fi, p.fenced, 0, 0⟩ by simp [Peer.base, hnn])
              rcases hne with e0 | ⟨e0, e1⟩
              · have b0 : (f.ti != 0) = false := by simpa using e0
                clear e0
                go_wp2_with fail
                go_meet
                case rel => exact ⟨HA.out, by omega, .inl hnn, by rw [HBs.out]; exact ((hT.set 0 _ { p with newest := f.fi } rfl).set 2 _ ⟨f.fi, p.fenced, 0, p.reply⟩ rfl).set 3 _ ⟨f.fi, p.fenced, 0, 0⟩ rfl⟩
              · have b0 : (f.ti != 0) = true := by simpa using e0
                have b1 : (f.ti != mi) = false := by simpa using e1
                clear e0 e1
                go_wp2_with fail
                go_meet
                case rel => exact ⟨HA.out, by omega, .inl hnn, by rw [HBs.out]; exact ((hT.set 0 _ { p with newest := f.fi } rfl).set 2 _ ⟨f.fi, p.fenced, 0, p.reply⟩ rfl).set 3 _ ⟨f.fi, p.fenced, 0, 0⟩ rfl⟩
            · have HBs := Lib.hid (show p.base f.fi = p by simp [Peer.base, hnn])
              have HB0 : (f.ti != 0) = false ∨ ((f.ti != 0) = true ∧ (f.ti != mi) = false) := by
                rcases hne with e0 | ⟨e0, e1⟩
                · left; simpa using e0
                · right; exact ⟨by simpa using e0, by simpa using e1⟩
              clear hne
              rcases HB0 with b0 | ⟨b0, b1⟩
              all_goals
                by_cases k5 : f.kind = 5
                · have KK := Lib.hid k5
                  have kb : (f.kind == 5) = true := by simpa using k5
                  have kc : (f.kind == 6) = false := by simp [k5]
                  clear k5
                  go_wp2_with fail
                  refine (old_any f p.beat _).mono ?_
                  rintro e w2 ⟨rfl, hb2⟩
                  have hT2 := hT.kept hb2
                  obtain ⟨r0, r1, r2, r3⟩ := hT2.cells
                  obtain ⟨s0, s1, s2, s3, s4, s5, s6, s7, s8, s9, s10, s11, s12, s13⟩ := Fr.reads hT2.fr
                  have fz2 := hT2.free
                  cases hd : decide (f.n ≤ p.beat)
                  · go_wp2_with fail
                    go_meet
                    case rel => exact ⟨HA.out, by omega, .inr (by have := KK.out; simp at hd; omega), by rw [HBs.out]; exact hT2⟩
                  · have HW := Lib.hid (take_bad HFm.out HP.out (show p.take f mi = (p, 6) by have hd' : f.n ≤ p.beat := (by simpa using hd); have a1 : ¬ f.fi ≤ p.fenced := (by omega); have a2 : ¬ p.newest < f.fi := (by omega); unfold Peer.take; rw [HA2.out]; simp [hd', a1, a2, KK.out]) (by decide))
                    go_wp2_with fail
                    go_ret
                    refine ⟨ret_i HW.out.1.symm, ?_, hT2.keep⟩
                    rw [HW.out.2]
                    exact ⟨hT2.lk.here, hT2.lk.knows.more (by omega), hT2.lk.ne⟩
                · have k5a : (f.kind == 5) = false := by simpa using k5
                  by_cases k6 : f.kind = 6
                  · have KK := Lib.hid k6
                    have kb : (f.kind == 6) = true := by simpa using k6
                    clear k6 k5
                    go_wp2_with fail
                    refine (old_any f p.reply _).mono ?_
                    rintro e w2 ⟨rfl, hb2⟩
                    have hT2 := hT.kept hb2
                    obtain ⟨r0, r1, r2, r3⟩ := hT2.cells
                    obtain ⟨s0, s1, s2, s3, s4, s5, s6, s7, s8, s9, s10, s11, s12, s13⟩ := Fr.reads hT2.fr
                    have fz2 := hT2.free
                    cases hd : decide (f.n ≤ p.reply)
                    · go_wp2_with fail
                      go_meet
                      case rel => exact ⟨HA.out, by omega, .inr (by have := KK.out; simp at hd; omega), by rw [HBs.out]; exact hT2⟩
                    · have HW := Lib.hid (take_bad HFm.out HP.out (show p.take f mi = (p, 6) by have hd' : f.n ≤ p.reply := (by simpa using hd); have a1 : ¬ f.fi ≤ p.fenced := (by omega); have a2 : ¬ p.newest < f.fi := (by omega); unfold Peer.take; rw [HA2.out]; simp [hd', a1, a2, KK.out]) (by decide))
                      go_wp2_with fail
                      go_ret
                      refine ⟨ret_i HW.out.1.symm, ?_, hT2.keep⟩
                      rw [HW.out.2]
                      exact ⟨hT2.lk.here, hT2.lk.knows.more (by omega), hT2.lk.ne⟩
                  · have k6a : (f.kind == 6) = false := by simpa using k6
                    have K56 : Hid (f.kind ≠ 5 ∧ f.kind ≠ 6) := Lib.hid ⟨k5, k6⟩
                    clear k5 k6
                    go_wp2_with fail
                    go_meet
                    case rel => exact ⟨HA.out, by omega, .inr (by have := K56.out; omega), by rw [HBs.out]; exact hT⟩
    case rest =>
      obtain ⟨g1, g2, g3, hT2⟩ := hcut
      have HW := Lib.hid (take_good HFm.out HP.out (Peer.take_ok p f mi g1 g2 g3))
      clear g1 g2 g3 hT
      generalize p.base f.fi = p1 at hT2 HW
      have hT := hT2
      clear hT2
      obtain ⟨q0, q1, q2, q3⟩ := hT.cells
      obtain ⟨f0, f1, f2, f3, f4, f5, f6, f7, f8, f9, f10, f11, f12, f13⟩ := Fr.reads hT.fr
      obtain ⟨m0, m1⟩ := hT.mine
      have fz := hT.free
      go_upto_block 2 with fail
      go_cut [8] (fun _ wx => Tk B M n g Q (p1.done f) f f.ta mi w wx)
      case first =>
        by_cases k6 : f.kind = 6
        · have HD := Lib.hid (show p1.done f = { p1 with reply := f.n } by simp [Peer.done, k6])
          have k6b : (f.kind == 6) = true := by simpa using k6
          clear k6
          go_wp2_with fail
          go_meet
          case rel => rw [HD.out]; exact hT.set 3 _ _ rfl
        · have k6a : (f.kind == 6) = false := by simpa using k6
          by_cases k5 : f.kind = 5
          · have HD := Lib.hid (show p1.done f = { p1 with beat := f.n } by simp [Peer.done, k5])
            have k5b : (f.kind == 5) = true := by simpa using k5
            clear k5 k6
            go_wp2_with fail
            go_meet
            case rel => rw [HD.out]; exact hT.set 2 _ _ rfl
          · have k5a : (f.kind == 5) = false := by simpa using k5
            have HD := Lib.hid (show p1.done f = p1 by simp [Peer.done, k5, k6])
            clear k5 k6
            go_wp2_with fail
            go_meet
            case rel => rw [HD.out]; exact hT
      case rest =>
        clear q0 q1 q2 q3 f0 f1 f2 f3 f4 f5 f6 f7 f8 f9 f10 f11 f12 f13 m0 m1 fz hT
        have hT := hcut
        generalize p1.done f = p2 at hT HW hcut
        obtain ⟨q0, q1, q2, q3⟩ := hT.cells
        obtain ⟨f0, f1, -⟩ := Fr.reads hT.fr
        have c1 := hT.lk.cell
        have hp := hT.drew.lk.knows.put (by omega) f.fa ha p2
        obtain ⟨w2, hr, hk2, hK2⟩ := hp
        have HL2 := Lib.hid (hT.drew.lk.turn hk2 hK2)
        have HK2 := Lib.hid (hT.drew.keep.trans hK2)
        have hQl := hT.lt
        have hQ2 := hT.hQ
        have k0 : w2.cell? ⟨B, 0, none⟩ = some (.map (some M)) := (hK2.cell (p := ⟨B, 0, none⟩) (by simp; omega) hT.lk.ne).trans c1
        have k1 : w2.cell? ⟨w.heap.size, 1, none⟩ = some (.int .i64 f.fa) := (hK2.cell (p := ⟨w.heap.size, 1, none⟩) (by simp; omega) (by simp; omega)).trans f1
        have k3 : w2.cell? ⟨Q, 0, none⟩ = some (.int .i64 p2.newest) := (hK2.cell (p := ⟨Q, 0, none⟩) (by simp; omega) (by simp; omega)).trans q0
        have k4 : w2.cell? ⟨Q, 1, none⟩ = some (.int .i64 p2.fenced) := (hK2.cell (p := ⟨Q, 1, none⟩) (by simp; omega) (by simp; omega)).trans q1
        have k5 : w2.cell? ⟨Q, 2, none⟩ = some (.int .i64 p2.beat) := (hK2.cell (p := ⟨Q, 2, none⟩) (by simp; omega) (by simp; omega)).trans q2
        have k6 : w2.cell? ⟨Q, 3, none⟩ = some (.int .i64 p2.reply) := (hK2.cell (p := ⟨Q, 3, none⟩) (by simp; omega) (by simp; omega)).trans q3
        simp only [Peer.cells] at hr
        clear hk2 hK2 hcut hT
        go_wp2_with fail
        go_region_held3 (fun v => v.cell? ⟨B, 0, none⟩ = some (.map (some M)) ∧ v.cell? ⟨w.heap.size, 1, none⟩ = some (.int .i64 f.fa) ∧ v.cell? ⟨Q, 0, none⟩ = some (.int .i64 p2.newest) ∧ v.cell? ⟨Q, 1, none⟩ = some (.int .i64 p2.fenced) ∧ v.cell? ⟨Q, 2, none⟩ = some (.int .i64 p2.beat) ∧ v.cell? ⟨Q, 3, none⟩ = some (.int .i64 p2.reply)) (go_keep) (fail)
        go_wp2_with fail
        go_ret
        refine ⟨ret_i HW.out.1.symm, ?_, HK2.out⟩
        rw [HW.out.2]
        exact HL2.out
theorem take_any (B M n : Nat) (g : Int → Peer) (f : Fr) (ma mi : Int) (w : World) (h : Lk B M n g w) (hn : n ≤ 1000) (ha : inI64 f.fa) :
    Calls Try.prog 11 #[.pointer (some ⟨B, 0, none⟩), f.val, .agg #[.int .i64 ma, .int .i64 mi]] w fun e w' => e = .returned (.int .i64 (takeE g f ma mi)) ∧ Lk B M (n + 1) (takeF g f ma mi) w' ∧ Keep M w w' := by
  cases hf : formB f ma
  · exact take_form B M n g f ma mi w h hn hf
  · exact take_go B M n g f ma mi w h hn ha hf
theorem take_nil (f : Fr) (ma mi : Int) (w : World) : Calls Try.prog 11 #[.pointer none, f.val, .agg #[.int .i64 ma, .int .i64 mi]] w fun e w' => e = .returned (.int .i64 2) ∧ Below w.heap.size w w' := by
  simp only [Fr.val, Fr.cells]
  go_enter Try.func11, Try.ntmps11
  go_wp2
  go_ret
  exact ⟨rfl, ((Below.refl _ _).alloc (Nat.le_refl _) _).alloc (by simp) _⟩
end Go.Proofs.Ytacmplomahmaiaa
