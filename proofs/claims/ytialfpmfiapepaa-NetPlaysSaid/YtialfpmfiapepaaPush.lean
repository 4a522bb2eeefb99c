/-
  The walks of push, New, Len, Copy.
-/
import Derived.Test.YtialfpmfiapepaaNet
namespace Go.Proofs.Ytialfpmfiapepaa
open Go.RowKit
set_option linter.unusedVariables false
set_option linter.unusedSimpArgs false
attribute [local go_sem ↓] Go.wp_at_zero Go.wp_at_succ
theorem Nt.more {P B : Nat} {v : Value} {n : N} {u : U} {w w1 : World} (h : Nt P B v n w) (hf : (n.l.length : Int) ≠ n.max) (gg cap : Nat)
    (hown : w1.ownsRow P 65 3 (.slice (some ⟨gg, 0, none⟩) (n.l.length + 1) cap) (n.l.length + 1) (rows n.l ++ u.cells.toList)) (hgrow : w.grownBy w1 v.ownBlock) (hat : v.ownBlock = some gg ∨ w.heap.size ≤ gg) :
    Nt P B (.slice (some ⟨gg, 0, none⟩) (n.l.length + 1) cap) (n.push u) (w1.setCell ⟨B, 1, none⟩ (.slice (some ⟨gg, 0, none⟩) (n.l.length + 1) cap)) ∧ Turn B v (.slice (some ⟨gg, 0, none⟩) (n.l.length + 1) cap) w (w1.setCell ⟨B, 1, none⟩ (.slice (some ⟨gg, 0, none⟩) (n.l.length + 1) cap)) := by
  have hlt := h.lt
  have hp : (n.push u) = ⟨n.max, n.l ++ [u]⟩ := by unfold N.push; rw [if_neg hf]
  have hB1 : w1.heap[B]? = some (.cells #[.int .i64 n.max, v] 62 (0, 0)) := (hgrow.block B hlt (Ne.symm h.ne)).trans h.here
  constructor
  · refine Nt.set (n := n.push u) (u := v) ?_ ?_ ?_ (h.ok.push u) h.pB
    · rw [hp]; exact hB1
    · rw [hp]; simpa [rows_append, rows] using hown
    · intro e
      have e : gg = B := by simpa [Value.ownBlock] using e
      rcases hat with hat | hat
      · exact h.ne (by rw [hat, e])
      · omega
  · refine (Turn.grown (Turn.refl B v w) hgrow ?_).setCell (.inl rfl) _
    intro k hk
    have e : gg = k := by simpa [Value.ownBlock] using hk
    subst e
    exact hat
theorem hnb (w : World) (b : Obj) : (w.alloc b).drew.heap[w.heap.size]? = some b := heap_alloc_new w b
theorem del_first (P g cap r : Nat) (xs : List Value) (w : World) (h : w.ownsRow P 65 3 (.slice (some ⟨g, 0, none⟩) (r + 1) cap) (r + 1) xs) (h1 : ∀ u ∈ xs, u.oneCell' = true) :
    Calls Try.prog 29 #[.slice (some ⟨g, 0, none⟩) (r + 1) cap, .int .i64 0, .int .i64 1] w fun e w' => e = .returned (.slice (some ⟨g, 0, none⟩) r cap) ∧
      w'.ownsRow P 65 3 (.slice (some ⟨g, 0, none⟩) r cap) r (xs.drop 3) ∧ w.grownBy w' (some g) := by
  have h := del_any P g cap r xs 0 w h (by omega) h1
  simpa using h
set_option maxRecDepth 100000 in
set_option maxHeartbeats 4000000 in
theorem push_any (P B : Nat) (v : Value) (n : N) (u : U) (w : World) (h : Nt P B v n w) :
    Calls Try.prog 26 #[.pointer (some ⟨B, 0, none⟩), .agg u.cells] w fun e w' => e = .returned (.bool n.full) ∧ Did P B v (n.push u) w w' := by
  obtain ⟨i0, hi0, hz0, hz1, hz2⟩ := info_parts info65
  have hlt := h.lt
  obtain ⟨c0, c1⟩ := h.reads
  have f1 := h.free 1
  have hvB := h.ne
  have hle := h.ok.le
  have hm1 := h.ok.m1
  have hm2 := h.ok.m2
  obtain ⟨us, uto, ub⟩ := u
  simp only [U.cells]
  have hvl : ∃ oa cap, v = .slice oa n.l.length cap := by
    rcases h.shape with ⟨rfl, e⟩ | ⟨g, cap, rfl, -⟩
    · exact ⟨none, 0, by rw [e]; rfl⟩
    · exact ⟨_, cap, rfl⟩
  obtain ⟨oa, vcap, rfl⟩ := hvl
  have hbf : ((n.l.length : Int) == n.max) = n.full := by
    unfold N.full; rw [Bool.eq_iff_iff]; simp
  have HBF := Lib.hid hbf
  clear hbf
  go_enter Try.func26, Try.ntmps26
  go_wp2_with fail
  go_quiet (fail)
  rw [HBF.out]
  go_upto_if 16 with fail
  go_cut [5] (fun a5 wx => a5 = .bool n.full ∧ ∃ v' n', Nt P B v' n' wx ∧ Hid (n'.push ⟨us, uto, ub⟩ = n.push ⟨us, uto, ub⟩) ∧ Hid ((n'.l.length : Int) ≠ n'.max) ∧ Hid (Turn B (.slice oa n.l.length vcap) v' w wx) ∧ w.heap.size < wx.heap.size ∧ v'.ownBlock ≠ some w.heap.size ∧ wx.cell? ⟨w.heap.size, 0, none⟩ = some (.string us) ∧ wx.cell? ⟨w.heap.size, 1, none⟩ = some (.int .i64 uto) ∧ wx.cell? ⟨w.heap.size, 2, none⟩ = some (.bool ub))
  case first =>
    cases hf : n.full
    · have HF := Lib.hid (show (n.l.length : Int) ≠ n.max by simpa [N.full] using hf)
      have HFF := Lib.hid hf
      clear hf
      go_wp2_with fail
      go_meet
      case rel => exact ⟨by rw [HFF.out], _, n, (h.alloc _).drewN nq, Lib.hid rfl, HF, Lib.hid (((Turn.refl _ _ _).alloc _).drewN _), by simp, fun e => by have := (h.vlt _ e).2; omega, by simp, by simp, by simp⟩
    · have hfe : (n.l.length : Int) = n.max := by simpa [N.full] using hf
      obtain ⟨r, hr⟩ : ∃ r, n.l.length = r + 1 := ⟨n.l.length - 1, by omega⟩
      obtain ⟨g, rfl, hgl, hgB⟩ : ∃ g, oa = some ⟨g, 0, none⟩ ∧ g < w.heap.size ∧ g ≠ B := by
        rcases h.shape with ⟨he, e⟩ | ⟨g, cap, he, -, hgl, -, -, hgB⟩
        · rw [e] at hr; simp at hr
        · simp only [Value.slice.injEq] at he
          exact ⟨g, he.1, hgl, hgB⟩
      have hrow2 : ((w.alloc (.cells #[.string us, .int .i64 uto, .bool ub] 65)).drewN nq).ownsRow P 65 3 (.slice (some ⟨g, 0, none⟩) (r + 1) vcap) (r + 1) (rows n.l) := by
        have := ((h.alloc (.cells #[.string us, .int .i64 uto, .bool ub] 65))).row
        rw [hr] at this
        exact this
      rw [hr] at c1
      have HH := Lib.hid h
      have HR := Lib.hid (And.intro hr hfe)
      have HFF := Lib.hid hf
      clear h hr hfe hf
      go_wp2_with fail
      refine (del_first P g vcap r (rows n.l) _ hrow2 (rows_one _)).mono ?_
      rintro e w2 ⟨rfl, hr2, hg2⟩
      have fB := (hg2.frozen_far ⟨B, 1, none⟩ (by simp; omega) (by simp; omega)).trans ((((HH.out.alloc _).drewN nq)).free 1)
      have cB := (hg2.cell_far ⟨B, 1, none⟩ (by simp; omega) (by simp; omega)).trans ((((HH.out.alloc _).drewN nq)).reads.2)
      have bb := fun (o : Nat) => hg2.cell_far ⟨w.heap.size, o, none⟩ (by simp) (by simp; omega)
      have hB2 := (hg2.block B (by simp; omega) (by simp; omega)).trans (((HH.out.alloc _).drewN nq)).here
      have HT := Lib.hid ((((Turn.refl B (.slice (some ⟨g, 0, none⟩) n.l.length vcap) w).alloc _).drewN nq).grown (v'' := .slice (some ⟨g, 0, none⟩) r vcap) hg2 (fun k hk => .inl hk))
      have hz2 : w.heap.size < w2.heap.size := Nat.lt_of_lt_of_le (by simp) hg2.size
      have b0 := (bb 0).trans ((cell_of_row _ _ _ _ _ _ (heap_alloc_new w _)).trans rfl)
      have b1 := (bb 1).trans ((cell_of_row _ _ _ _ _ _ (heap_alloc_new w _)).trans rfl)
      have b2 := (bb 2).trans ((cell_of_row _ _ _ _ _ _ (heap_alloc_new w _)).trans rfl)
      have HR2 := Lib.hid hr2
      have HB2 := Lib.hid hB2
      clear hr2 hg2 hB2 hrow2 bb
      go_wp2_with fail
      go_meet
      case rel =>
        have hp : rows n.l.tail = (rows n.l).drop 3 := by cases n.l with
          | nil => rfl
          | cons a l => simp [rows, U.cells]
        have hlt : n.l.tail.length = r := by rw [List.length_tail, HR.out.1]; omega
        refine ⟨by rw [HFF.out], .slice (some ⟨g, 0, none⟩) r vcap, ⟨n.max, n.l.tail⟩, Nt.set HB2.out (by rw [hlt, hp]; exact HR2.out) (by simp [Value.ownBlock]; omega) ⟨HH.out.ok.m1, HH.out.ok.m2, by show ((n.l.tail.length : Nat) : Int) ≤ n.max; rw [hlt]; have := HR.out; omega⟩ HH.out.pB, Lib.hid ?_, Lib.hid ?_, Lib.hid (HT.out.setCell (.inl rfl) _), by simpa using hz2, by simp [Value.ownBlock]; omega, ?_, ?_, ?_⟩
        · unfold N.push
          simp only [hlt]
          rw [if_neg (by have := HR.out; omega), if_pos HR.out.2]
        · show ((n.l.tail.length : Nat) : Int) ≠ n.max
          rw [hlt]; have := HR.out; omega
        · rw [World.cell?_setCell_other _ _ _ _ (by simp only [ne_eq, Addr.mk.injEq, not_and]; intro e; omega)]; exact b0
        · rw [World.cell?_setCell_other _ _ _ _ (by simp only [ne_eq, Addr.mk.injEq, not_and]; intro e; omega)]; exact b1
        · rw [World.cell?_setCell_other _ _ _ _ (by simp only [ne_eq, Addr.mk.injEq, not_and]; intro e; omega)]; exact b2
  case rest =>
    obtain ⟨rfl, v', n', hN, HP, HF, HT, hsz, hvw, b0, b1, b2⟩ := hcut
    have hlt2 := hN.lt
    obtain ⟨d0, d1⟩ := hN.reads
    have hvB2 := hN.ne
    have hP := hN.pB
    have hvl : ∃ oa cap, v' = .slice oa n'.l.length cap := by
      rcases hN.shape with ⟨rfl, e⟩ | ⟨g, cap, rfl, -⟩
      · exact ⟨none, 0, by rw [e]; rfl⟩
      · exact ⟨_, cap, rfl⟩
    obtain ⟨oa, vcap, rfl⟩ := hvl
    have hn1 : n'.l.length + 1 ≤ maxLen := by have := hN.ok.le; have := hN.ok.m2; unfold maxLen; omega
    have hn2 : (n'.l.length + 1) * 32 ≤ 140737488355328 := by have := hN.ok.le; have := hN.ok.m2; omega
    have g1 := hN.free 1
    have HH := Lib.hid hN
    clear hN h c0 c1 f1 hvB hle hm1 hm2
    go_wp2_with fail
    go_region_law
      ((refine step_append_lies _ (by rfl) _ _ _ (by rfl) P 65 i0 _ 3 32 Try.underlying60 hi0 hz0 hz1 hz2 rfl (by omega) (.slice oa n'.l.length vcap) n'.l.length (rows n'.l) (by rfl) (((HH.out.alloc _).drew).row)
          ⟨wc.heap.size, 0, none⟩ 1 1 [.string us, .int .i64 uto, .bool ub] (by rfl) (by rfl) (World.news_of_block (cs := #[.string us, .int .i64 uto, .bool ub]) (t := 65) (fr := (0, 0)) (hnb _ _)) (by simp [Value.oneCell'])
          (by omega) hn1 hn2 (by simp; omega) (wc.heap.size + 1) (by simp) ?_; intro gg cap w1 hown1 hgrow hat hl1; have fB := (hgrow.frozen_far ⟨B, 1, none⟩ (by simp; omega) (Ne.symm hvB2)).trans ((((HH.out.alloc _).drew)).free 1); have cB := (hgrow.cell_far ⟨B, 1, none⟩ (by simp; omega) (Ne.symm hvB2)).trans ((((HH.out.alloc _).drew)).reads.2)))
    all_goals
      obtain ⟨hN, hT⟩ := (((HH.out.alloc _).drew)).more (u := ⟨us, uto, ub⟩) HF.out gg cap hown1 hgrow (by
        rcases hat with e | e
        · exact .inl e
        · right; rw [e]; simp)
      have HT2 := Lib.hid (((HT.out.alloc _).drew).trans hT)
      have HN := Lib.hid hN
      clear hN hT hown1 hgrow hat
      go_wp2_with fail
      go_ret
      refine ⟨rfl, _, ?_, HT2.out⟩
      rw [← HP.out]
      exact HN.out
end Go.Proofs.Ytialfpmfiapepaa
