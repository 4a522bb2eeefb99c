/-
  The walk of the law LinkOnce.
-/
import Derived.Test.YtacmplomahmaiaaOlder
namespace Go.Proofs.Ytacmplomahmaiaa
open Go.RowKit Go.Maps
set_option linter.unusedVariables false
set_option linter.unusedSimpArgs false
attribute [local go_sem ↓] Go.wp_at_zero Go.wp_at_succ
theorem place_of (a n : Int) (h1 : 1 ≤ n) (h2 : n ≤ 100000) : ∃ k : Nat, (k : Int) < n ∧ wrap64 ((IntKind.u64.wrap a).tmod n) = k := by
  have hw : 0 ≤ IntKind.u64.wrap a := by
    simp [IntKind.wrap, IntKind.bits, IntKind.signed]; omega
  rw [Int.tmod_eq_emod_of_nonneg hw]
  have e0 := Int.emod_nonneg (IntKind.u64.wrap a) (b := n) (by omega)
  have e1 := Int.emod_lt_of_pos (IntKind.u64.wrap a) (b := n) (by omega)
  refine ⟨((IntKind.u64.wrap a) % n).toNat, by omega, ?_⟩
  rw [IntWalk.wrap64_in _ (by omega)]
  omega
set_option maxRecDepth 100000 in
set_option maxHeartbeats 8000000 in
theorem once_walk (ma mi : Int) (oa1 : Option Addr) (cap1 : Nat) (l1 : List Step) (fence : Bool) (kind fa fi ta ti fn : Int) (oa3 : Option Addr) (cap3 : Nat) (l3 : List Step) (less : Int) (W : World)
    (hl1 : Step.Holds W (.slice oa1 l1.length cap1) l1) (hl3 : Step.Holds W (.slice oa3 l3.length cap3) l3) (hs : (Step.mk fence kind fa fi ta ti fn).Ok) (hp : inI64 less) :
    Calls Try.prog 3 #[.agg #[.int .i64 ma, .int .i64 mi], .slice oa1 l1.length cap1, .agg #[.bool fence, .int .u8 kind, .int .i64 fa, .int .i64 fi, .int .i64 ta, .int .i64 ti, .int .i64 fn], .slice oa3 l3.length cap3, .int .i64 less] W fun e w' => e = .returned (.bool true) ∧ Below W.heap.size W w' := by
  have hfa : inI64 fa := ⟨hs.fa0, hs.fa1⟩
  have HX : Hid ((((W.alloc (.cells #[.int .i64 ma, .int .i64 mi] 23)).alloc (.cells #[.bool fence, .int .u8 kind, .int .i64 fa, .int .i64 fi, .int .i64 ta, .int .i64 ti, .int .i64 fn] 26)).cell? ⟨W.heap.size, 0, none⟩ = some (.int .i64 ma)) ∧ (((W.alloc (.cells #[.int .i64 ma, .int .i64 mi] 23)).alloc (.cells #[.bool fence, .int .u8 kind, .int .i64 fa, .int .i64 fi, .int .i64 ta, .int .i64 ti, .int .i64 fn] 26)).cell? ⟨W.heap.size, 1, none⟩ = some (.int .i64 mi)) ∧ ∀ (j : Nat) (v : Value), #[Value.bool fence, .int .u8 kind, .int .i64 fa, .int .i64 fi, .int .i64 ta, .int .i64 ti, .int .i64 fn][j]? = some v → ((W.alloc (.cells #[.int .i64 ma, .int .i64 mi] 23)).alloc (.cells #[.bool fence, .int .u8 kind, .int .i64 fa, .int .i64 fi, .int .i64 ta, .int .i64 ti, .int .i64 fn] 26)).cell? ⟨W.heap.size + 1, j, none⟩ = some v) := Lib.hid
    ⟨by rw [cell_of_row _ _ _ _ _ _ (two W _ _ _ rfl).2]; rfl, by rw [cell_of_row _ _ _ _ _ _ (two W _ _ _ rfl).2]; rfl, fun j v hv => by rw [cell_of_row _ _ _ _ _ _ (two W _ _ _ rfl).1]; exact hv⟩
  have hW2 : Below W.heap.size W ((W.alloc (.cells #[.int .i64 ma, .int .i64 mi] 23)).alloc (.cells #[.bool fence, .int .u8 kind, .int .i64 fa, .int .i64 fi, .int .i64 ta, .int .i64 ti, .int .i64 fn] 26)) := ((Below.refl _ W).alloc (Nat.le_refl _) _).alloc (by simp) _
  have HL3 := Lib.hid hl3
  clear hl3
  by_cases h1 : l1.length ≤ 100
  · by_cases h3 : l3.length ≤ 100
    · go_enter Try.func3, Try.ntmps3
      go_wp2_with fail
      refine (awake_any _).mono ?_
      rintro e w0 ⟨rfl, hb0⟩
      have hcw := fun (b o : Nat) (h : b < _) => hb0.cell (p := ⟨b, o, none⟩) h
      go_wp2_with fail
      refine (play_any ma mi oa1 cap1 l1 w0 (hl1.below (then_below hW2 hb0)) h1).mono ?_
      rintro e w1 ⟨B, M, rfl, hL0⟩
      clear hcw
      have hL := hL0.base hb0
      clear hL0 hb0
      have hbel := hL.below
      have hmn : W.heap.size ≠ M := by have := hL.ownM; simp at this; omega
      have hsn : W.heap.size + 1 ≠ M := by have := hL.ownM; simp at this; omega
      generalize playF ma mi (fun _ => Peer.zero) l1 = G0 at hL ⊢
      have HL1 := Lib.hid hl1
      clear hl1
      have m0 : w1.cell? ⟨W.heap.size, 0, none⟩ = some (.int .i64 ma) := (hbel.cell (p := ⟨W.heap.size, 0, none⟩) (by simp; omega)).trans (HX.out.1)
      have m1 : w1.cell? ⟨W.heap.size, 1, none⟩ = some (.int .i64 mi) := (hbel.cell (p := ⟨W.heap.size, 1, none⟩) (by simp; omega)).trans (HX.out.2.1)
      have q0 : w1.cell? ⟨W.heap.size + 1, 0, none⟩ = some (.bool fence) := (hbel.cell (p := ⟨W.heap.size + 1, 0, none⟩) (by simp)).trans (HX.out.2.2 0 _ rfl)
      have q1 : w1.cell? ⟨W.heap.size + 1, 1, none⟩ = some (.int .u8 kind) := (hbel.cell (p := ⟨W.heap.size + 1, 1, none⟩) (by simp)).trans (HX.out.2.2 1 _ rfl)
      have q2 : w1.cell? ⟨W.heap.size + 1, 2, none⟩ = some (.int .i64 fa) := (hbel.cell (p := ⟨W.heap.size + 1, 2, none⟩) (by simp)).trans (HX.out.2.2 2 _ rfl)
      have q3 : w1.cell? ⟨W.heap.size + 1, 3, none⟩ = some (.int .i64 fi) := (hbel.cell (p := ⟨W.heap.size + 1, 3, none⟩) (by simp)).trans (HX.out.2.2 3 _ rfl)
      have q4 : w1.cell? ⟨W.heap.size + 1, 4, none⟩ = some (.int .i64 ta) := (hbel.cell (p := ⟨W.heap.size + 1, 4, none⟩) (by simp)).trans (HX.out.2.2 4 _ rfl)
      have q5 : w1.cell? ⟨W.heap.size + 1, 5, none⟩ = some (.int .i64 ti) := (hbel.cell (p := ⟨W.heap.size + 1, 5, none⟩) (by simp)).trans (HX.out.2.2 5 _ rfl)
      have q6 : w1.cell? ⟨W.heap.size + 1, 6, none⟩ = some (.int .i64 fn) := (hbel.cell (p := ⟨W.heap.size + 1, 6, none⟩) (by simp)).trans (HX.out.2.2 6 _ rfl)
      have hml : W.heap.size < w1.heap.size := by have := hbel.size; simp at this; omega
      have qlt : W.heap.size + 1 < w1.heap.size := by have := hbel.size; simp at this; omega
      have HB1 := Lib.hid hL.lk.lt
      have HM1 := Lib.hid hL.lk.knows.lt
      go_wp2_with fail
      refine (frame_any fence kind fa fi ta ti fn _).mono ?_
      rintro e wb ⟨rfl, hbb⟩
      have hL := (hL.kept hbb).alloc (.cells (Fr.cells ⟨kind, fa, fi, ta, ti, fn, 0⟩) 37)
      have hq : (wb.alloc (.cells (Fr.cells ⟨kind, fa, fi, ta, ti, fn, 0⟩) 37)).heap[wb.heap.size]? = some (.cells (Fr.cells ⟨kind, fa, fi, ta, ti, fn, 0⟩) 37 (0, 0)) := heap_alloc_new _ _
      have hQB : wb.heap.size ≠ B := by have := HB1.out; have := hbb.size; omega
      have hQM : wb.heap.size ≠ M := by have := HM1.out; have := hbb.size; omega
      have hQW : ((W.alloc (.cells #[.int .i64 ma, .int .i64 mi] 23)).alloc (.cells #[.bool fence, .int .u8 kind, .int .i64 fa, .int .i64 fi, .int .i64 ta, .int .i64 ti, .int .i64 fn] 26)).heap.size ≤ wb.heap.size := Nat.le_trans hbel.size hbb.size
      have hb2 := hbel.trans (hbb.mono hbel.size)
      clear m0 m1 q0 q1 q2 q3 q4 q5 q6 hml qlt hbel
      have hb3 := hb2.alloc hb2.size (.cells (Fr.cells ⟨kind, fa, fi, ta, ti, fn, 0⟩) 37)
      have m0 : (wb.alloc (.cells (Fr.cells ⟨kind, fa, fi, ta, ti, fn, 0⟩) 37)).cell? ⟨W.heap.size, 0, none⟩ = some (.int .i64 ma) := (hb3.cell (p := ⟨W.heap.size, 0, none⟩) (by simp; omega)).trans (HX.out.1)
      have m1 : (wb.alloc (.cells (Fr.cells ⟨kind, fa, fi, ta, ti, fn, 0⟩) 37)).cell? ⟨W.heap.size, 1, none⟩ = some (.int .i64 mi) := (hb3.cell (p := ⟨W.heap.size, 1, none⟩) (by simp; omega)).trans (HX.out.2.1)
      have q0 : (wb.alloc (.cells (Fr.cells ⟨kind, fa, fi, ta, ti, fn, 0⟩) 37)).cell? ⟨W.heap.size + 1, 0, none⟩ = some (.bool fence) := (hb3.cell (p := ⟨W.heap.size + 1, 0, none⟩) (by simp)).trans (HX.out.2.2 0 _ rfl)
      have q1 : (wb.alloc (.cells (Fr.cells ⟨kind, fa, fi, ta, ti, fn, 0⟩) 37)).cell? ⟨W.heap.size + 1, 1, none⟩ = some (.int .u8 kind) := (hb3.cell (p := ⟨W.heap.size + 1, 1, none⟩) (by simp)).trans (HX.out.2.2 1 _ rfl)
      have q2 : (wb.alloc (.cells (Fr.cells ⟨kind, fa, fi, ta, ti, fn, 0⟩) 37)).cell? ⟨W.heap.size + 1, 2, none⟩ = some (.int .i64 fa) := (hb3.cell (p := ⟨W.heap.size + 1, 2, none⟩) (by simp)).trans (HX.out.2.2 2 _ rfl)
      have q3 : (wb.alloc (.cells (Fr.cells ⟨kind, fa, fi, ta, ti, fn, 0⟩) 37)).cell? ⟨W.heap.size + 1, 3, none⟩ = some (.int .i64 fi) := (hb3.cell (p := ⟨W.heap.size + 1, 3, none⟩) (by simp)).trans (HX.out.2.2 3 _ rfl)
      have q4 : (wb.alloc (.cells (Fr.cells ⟨kind, fa, fi, ta, ti, fn, 0⟩) 37)).cell? ⟨W.heap.size + 1, 4, none⟩ = some (.int .i64 ta) := (hb3.cell (p := ⟨W.heap.size + 1, 4, none⟩) (by simp)).trans (HX.out.2.2 4 _ rfl)
      have q5 : (wb.alloc (.cells (Fr.cells ⟨kind, fa, fi, ta, ti, fn, 0⟩) 37)).cell? ⟨W.heap.size + 1, 5, none⟩ = some (.int .i64 ti) := (hb3.cell (p := ⟨W.heap.size + 1, 5, none⟩) (by simp)).trans (HX.out.2.2 5 _ rfl)
      have q6 : (wb.alloc (.cells (Fr.cells ⟨kind, fa, fi, ta, ti, fn, 0⟩) 37)).cell? ⟨W.heap.size + 1, 6, none⟩ = some (.int .i64 fn) := (hb3.cell (p := ⟨W.heap.size + 1, 6, none⟩) (by simp)).trans (HX.out.2.2 6 _ rfl)
      have hml : W.heap.size < (wb.alloc (.cells (Fr.cells ⟨kind, fa, fi, ta, ti, fn, 0⟩) 37)).heap.size := by have := hb2.size; simp at this; simp; omega
      have qlt : W.heap.size + 1 < (wb.alloc (.cells (Fr.cells ⟨kind, fa, fi, ta, ti, fn, 0⟩) 37)).heap.size := by have := hb2.size; simp at this; simp; omega
      generalize hQ : wb.heap.size = Q at hq hQB hQM hQW
      simp only [Fr.cells] at m0 m1 q0 q1 q2 q3 q4 q5 q6
      simp only [Fr.val, Fr.cells]
      go_upto_region 5 with fail
      go_cut [50] (fun v wx => (v = .bool true ∧ Below ((W.alloc (.cells #[.int .i64 ma, .int .i64 mi] 23)).alloc (.cells #[.bool fence, .int .u8 kind, .int .i64 fa, .int .i64 fi, .int .i64 ta, .int .i64 ti, .int .i64 fn] 26)).heap.size ((W.alloc (.cells #[.int .i64 ma, .int .i64 mi] 23)).alloc (.cells #[.bool fence, .int .u8 kind, .int .i64 fa, .int .i64 fi, .int .i64 ta, .int .i64 ti, .int .i64 fn] 26)) wx) ∨ (v = .bool false ∧ (kind = 5 ∨ kind = 6) ∧ takeE G0 ⟨kind, fa, fi, ta, ti, fn, 0⟩ ma mi = 0 ∧ Hs B M (l1.length + 1) (takeF G0 ⟨kind, fa, fi, ta, ti, fn, 0⟩ ma mi) ((W.alloc (.cells #[.int .i64 ma, .int .i64 mi] 23)).alloc (.cells #[.bool fence, .int .u8 kind, .int .i64 fa, .int .i64 fi, .int .i64 ta, .int .i64 ti, .int .i64 fn] 26)) wx ∧ wx.heap[Q]? = some (.cells (Fr.cells ⟨kind, fa, fi, ta, ti, fn, 0⟩) 37 (0, 0))))
      case first =>
        cases fence
        · by_cases hk : kind = 5 ∨ kind = 6
          · have hkk : (kind != 5) = false ∨ ((kind != 5) = true ∧ (kind != 6) = false) := by
              by_cases k5 : kind = 5
              · left; simpa using k5
              · right; exact ⟨by simpa using k5, by simp; omega⟩
            have HK := Lib.hid hk
            clear hk
            rcases hkk with b5 | ⟨b5, b6⟩
            all_goals
              go_wp2_with fail
              refine (take_of ⟨kind, fa, fi, ta, ti, fn, 0⟩ ma mi hL (by omega) hfa).mono ?_
              rintro e wt ⟨rfl, hLt, hKt⟩
              have hq2 : wt.heap[Q]? = some (.cells (Fr.cells ⟨kind, fa, fi, ta, ti, fn, 0⟩) 37 (0, 0)) := (hKt.block Q (by rw [← hQ]; simp) hQM).trans hq
              cases hc : takeE G0 ⟨kind, fa, fi, ta, ti, fn, 0⟩ ma mi != 0
              · have hc0 : takeE G0 ⟨kind, fa, fi, ta, ti, fn, 0⟩ ma mi = 0 := by simpa using hc
                go_wp2_with fail
                go_meet
                case rel => exact .inr ⟨rfl, HK.out, hc0, hLt, hq2⟩
              · go_wp2_with fail
                go_meet
                case rel => exact .inl ⟨rfl, hLt.below⟩
          · have b5 : (kind != 5) = true := by simp; omega
            have b6 : (kind != 6) = true := by simp; omega
            clear hk
            go_wp2_with fail
            go_meet
            case rel => exact .inl ⟨rfl, hL.below⟩
        · go_wp2_with fail
          go_meet
          case rel => exact .inl ⟨rfl, hL.below⟩
      case rest =>
        clear m0 m1 q0 q1 q2 q3 q4 q5 q6 hml qlt hL hq
        rcases hcut with ⟨rfl, hbx⟩ | ⟨rfl, hk, htk, hL, hq⟩
        · go_wp2_with fail
          go_ret
          exact ⟨rfl, then_below hW2 hbx⟩
        · generalize hG1 : takeF G0 ⟨kind, fa, fi, ta, ti, fn, 0⟩ ma mi = G1 at hL
          have HT : Hid ((G1 fa).newest = fi ∧ (kind = 5 → fn = (G1 fa).beat) ∧ (kind = 6 → fn = (G1 fa).reply) ∧ (kind = 5 ∨ kind = 6)) := by
            obtain ⟨hform, hst, h0⟩ := takeE_zero htk
            have ht := Peer.took _ _ _ h0
            rw [hG1] at hst
            simp only at hst
            refine Lib.hid ⟨?_, ?_, ?_, hk⟩
            · rw [hst]; exact ht.2.1
            · intro e; rw [hst]; exact ht.2.2.1 e
            · intro e; rw [hst]; exact ht.2.2.2 e
          clear hk htk hG1 hb2 hQ
          go_wp2_with fail
          go_loopw [13] (fun x wr => ∃ k : Nat, k ≤ l3.length ∧ x = .int .i64 k ∧ Hs B M (l1.length + 1 + k) (playF ma mi G1 (l3.take k)) ((W.alloc (.cells #[.int .i64 ma, .int .i64 mi] 23)).alloc (.cells #[.bool fence, .int .u8 kind, .int .i64 fa, .int .i64 fi, .int .i64 ta, .int .i64 ti, .int .i64 fn] 26)) wr ∧ wr.heap[Q]? = some (.cells (Fr.cells ⟨kind, fa, fi, ta, ti, fn, 0⟩) 37 (0, 0))) (fun x _ => l3.length - (intOf x).toNat)
          case atStart => exact ⟨0, by omega, rfl, hL, hq⟩
          case round =>
            clear hL hq
            obtain ⟨k, hk, rfl, hL, hq⟩ := hrel
            have hbel := hL.below
            by_cases hlt : k < l3.length
            · have hps := play_snoc ma mi G1 l3 k hlt
              obtain ⟨b, off, rfl, hb, hx, p0, p1, p2, p3, p4, p5, p6⟩ := HL3.out.at_ hlt
              generalize l3[k] = x at hx p0 p1 p2 p3 p4 p5 p6 hps
              obtain ⟨fence', kind', fa', fi', ta', ti', fn'⟩ := x
              simp only at p0 p1 p2 p3 p4 p5 p6
              have hfa' : inI64 fa' := ⟨hx.fa0, hx.fa1⟩
              have qne : b ≠ M := by have := hL.ownM; simp at this; omega
              have hbW : Below W.heap.size W wr := then_below (((Below.refl _ W).alloc (Nat.le_refl _) _).alloc (by simp) _) hbel
              have q0 := (hbW.cell hb).trans p0
              have q1 := (hbW.cell hb).trans p1
              have q2 := (hbW.cell hb).trans p2
              have q3 := (hbW.cell hb).trans p3
              have q4 := (hbW.cell hb).trans p4
              have q5 := (hbW.cell hb).trans p5
              have q6 := (hbW.cell hb).trans p6
              have qlt : b < wr.heap.size := Nat.lt_of_lt_of_le hb hbW.size
              have m0 : wr.cell? ⟨W.heap.size, 0, none⟩ = some (.int .i64 ma) := (hbel.cell (p := ⟨W.heap.size, 0, none⟩) (by simp; omega)).trans (HX.out.1)
              have m1 : wr.cell? ⟨W.heap.size, 1, none⟩ = some (.int .i64 mi) := (hbel.cell (p := ⟨W.heap.size, 1, none⟩) (by simp; omega)).trans (HX.out.2.1)
              have hml : W.heap.size < wr.heap.size := by have := hbel.size; simp at this; omega
              have HPS := Lib.hid hps
              clear hps hbW hb p0 p1 p2 p3 p4 p5 p6 hbel
              cases fence'
              · have hL := hL.drew
                have m0 : wr.drew.cell? ⟨W.heap.size, 0, none⟩ = some (.int .i64 ma) := m0
                have m1 : wr.drew.cell? ⟨W.heap.size, 1, none⟩ = some (.int .i64 mi) := m1
                have hml : W.heap.size < wr.drew.heap.size := hml
                have hq : wr.drew.heap[Q]? = some (.cells (Fr.cells ⟨kind, fa, fi, ta, ti, fn, 0⟩) 37 (0, 0)) := hq
                have qlt : b < wr.drew.heap.size := qlt
                go_upto_region 12 with fail
                go_region_held3 (fun v => v.cell? ⟨W.heap.size, 0, none⟩ = some (.int .i64 ma) ∧ v.cell? ⟨W.heap.size, 1, none⟩ = some (.int .i64 mi) ∧ v.cell? ⟨b, off + k * 7, none⟩ = some (.bool false) ∧ v.cell? ⟨b, off + k * 7 + 1, none⟩ = some (.int .u8 kind') ∧ v.cell? ⟨b, off + k * 7 + 2, none⟩ = some (.int .i64 fa') ∧ v.cell? ⟨b, off + k * 7 + 3, none⟩ = some (.int .i64 fi') ∧ v.cell? ⟨b, off + k * 7 + 4, none⟩ = some (.int .i64 ta') ∧ v.cell? ⟨b, off + k * 7 + 5, none⟩ = some (.int .i64 ti') ∧ v.cell? ⟨b, off + k * 7 + 6, none⟩ = some (.int .i64 fn')) (go_keep)
                  (first
                    | (go_at_call 10; refine (frame_any _ _ _ _ _ _ _ _).mono ?_; rintro e wb ⟨rfl, hbb⟩; have hL := hL.kept hbb; have m0 := (hbb.cell (p := ⟨W.heap.size, 0, none⟩) hml).trans m0; have m1 := (hbb.cell (p := ⟨W.heap.size, 1, none⟩) hml).trans m1; have q0 := (hbb.cell qlt).trans q0; have q1 := (hbb.cell qlt).trans q1; have q2 := (hbb.cell qlt).trans q2; have q3 := (hbb.cell qlt).trans q3; have q4 := (hbb.cell qlt).trans q4; have q5 := (hbb.cell qlt).trans q5; have q6 := (hbb.cell qlt).trans q6; have hq := (hbb.block _ (Array.getElem?_eq_some_iff.1 hq).1).trans hq; have hml := Nat.lt_of_lt_of_le hml hbb.size; have qlt := Nat.lt_of_lt_of_le qlt hbb.size; clear hbb; simp only [Fr.val, Fr.cells])
                    | (go_at_call 11; refine (take_of (⟨_, _, _, _, _, _, 0⟩ : Fr) ma mi hL (by omega) (by assumption)).mono ?_; rintro e wt ⟨rfl, hLt, hKt⟩; have m0 := (hKt.cell (p := ⟨W.heap.size, 0, none⟩) hml hmn).trans m0; have m1 := (hKt.cell (p := ⟨W.heap.size, 1, none⟩) hml hmn).trans m1; have q0 := (hKt.cell qlt qne).trans q0; have q1 := (hKt.cell qlt qne).trans q1; have q2 := (hKt.cell qlt qne).trans q2; have q3 := (hKt.cell qlt qne).trans q3; have q4 := (hKt.cell qlt qne).trans q4; have q5 := (hKt.cell qlt qne).trans q5; have q6 := (hKt.cell qlt qne).trans q6; have hq := (hKt.block _ (Array.getElem?_eq_some_iff.1 hq).1 hQM).trans hq; have hml := Nat.lt_of_lt_of_le hml hKt.size; have qlt := Nat.lt_of_lt_of_le qlt hKt.size; clear hKt))
                all_goals
                  go_wp2_with fail
                  refine ⟨⟨k + 1, by omega, by go_num, by rw [HPS.out]; exact hLt, hq⟩, ?_⟩
                  simp only [intOf]; omega
              · go_wp2_with fail
                refine (fence_of fa' fi' hL (by omega) hfa').mono ?_
                rintro e wf ⟨rfl, hLf, hKf⟩
                go_wp2_with fail
                refine ⟨⟨k + 1, by omega, by go_num, by rw [HPS.out]; exact hLf, (hKf.block _ (Array.getElem?_eq_some_iff.1 hq).1 hQM).trans hq⟩, ?_⟩
                simp only [intOf]; omega
            · obtain rfl : k = l3.length := by omega
              rw [List.take_length] at hL
              have hbel := hL.below
              obtain ⟨f0, f1, f2, f3, f4, f5, f6, f7, f8, f9, f10, f11, f12, f13⟩ := Fr.reads hq
              simp only at f0 f1 f2 f3 f4 f5 f6
              have fz : wr.frozen? ⟨Q, 5, none⟩ = false := frozen_of_row _ _ _ _ _ hq
              have hQl : Q < wr.heap.size := (Array.getElem?_eq_some_iff.1 hq).1
              have m0 : wr.cell? ⟨W.heap.size, 0, none⟩ = some (.int .i64 ma) := (hbel.cell (p := ⟨W.heap.size, 0, none⟩) (by simp; omega)).trans (HX.out.1)
              have m1 : wr.cell? ⟨W.heap.size, 1, none⟩ = some (.int .i64 mi) := (hbel.cell (p := ⟨W.heap.size, 1, none⟩) (by simp; omega)).trans (HX.out.2.1)
              have q0 : wr.cell? ⟨W.heap.size + 1, 0, none⟩ = some (.bool fence) := (hbel.cell (p := ⟨W.heap.size + 1, 0, none⟩) (by simp)).trans (HX.out.2.2 0 _ rfl)
              have q1 : wr.cell? ⟨W.heap.size + 1, 1, none⟩ = some (.int .u8 kind) := (hbel.cell (p := ⟨W.heap.size + 1, 1, none⟩) (by simp)).trans (HX.out.2.2 1 _ rfl)
              have q2 : wr.cell? ⟨W.heap.size + 1, 2, none⟩ = some (.int .i64 fa) := (hbel.cell (p := ⟨W.heap.size + 1, 2, none⟩) (by simp)).trans (HX.out.2.2 2 _ rfl)
              have q3 : wr.cell? ⟨W.heap.size + 1, 3, none⟩ = some (.int .i64 fi) := (hbel.cell (p := ⟨W.heap.size + 1, 3, none⟩) (by simp)).trans (HX.out.2.2 3 _ rfl)
              have q4 : wr.cell? ⟨W.heap.size + 1, 4, none⟩ = some (.int .i64 ta) := (hbel.cell (p := ⟨W.heap.size + 1, 4, none⟩) (by simp)).trans (HX.out.2.2 4 _ rfl)
              have q5 : wr.cell? ⟨W.heap.size + 1, 5, none⟩ = some (.int .i64 ti) := (hbel.cell (p := ⟨W.heap.size + 1, 5, none⟩) (by simp)).trans (HX.out.2.2 5 _ rfl)
              have q6 : wr.cell? ⟨W.heap.size + 1, 6, none⟩ = some (.int .i64 fn) := (hbel.cell (p := ⟨W.heap.size + 1, 6, none⟩) (by simp)).trans (HX.out.2.2 6 _ rfl)
              have hml : W.heap.size < wr.heap.size := by have := hbel.size; simp at this; omega
              have qlt : W.heap.size + 1 < wr.heap.size := by have := hbel.size; simp at this; omega
              have hle := play_le ma mi l3 fa G1
              generalize playF ma mi G1 l3 = G at hL hle
              obtain ⟨m, hm1, hm2⟩ := place_of less 100 (by omega) (by omega)
              have hfn := hs.n0
              have hfn1 := hs.n1
              simp only at hfn hfn1
              have hQ0 : Q ≠ W.heap.size := by have := hQW; simp at this; omega
              have hQ1 : Q ≠ W.heap.size + 1 := by have := hQW; simp at this; omega
              by_cases hlo : -9223372036854775808 ≤ fn - (m : Int)
              · have hne : takeE G ⟨kind, fa, fi, ta, ti, fn - (m : Int), 0⟩ ma mi ≠ 0 := by
                  have hT := HT.out
                  obtain ⟨h1, h2, h3, h4⟩ := hT
                  have a1 := hle.new
                  have a2 := hle.nums
                  refine twice_not (by simp only; omega) ?_
                  rcases h4 with hk | hk
                  · exact .inl ⟨hk, fun he => by simp only at he ⊢; have := a2 (by omega); have := h2 hk; omega⟩
                  · exact .inr ⟨hk, fun he => by simp only at he ⊢; have := a2 (by omega); have := h3 hk; omega⟩
                have HNE := Lib.hid hne
                clear hne hle
                have hL := (show Hs B M (l1.length + 1 + l3.length) G ((W.alloc (.cells #[.int .i64 ma, .int .i64 mi] 23)).alloc (.cells #[.bool fence, .int .u8 kind, .int .i64 fa, .int .i64 fi, .int .i64 ta, .int .i64 ti, .int .i64 fn] 26)) (wr.setCell ⟨Q, 5, none⟩ (.int .i64 (fn - (m : Int)))) from ⟨hL.lk.setOther (by simpa using hQB) (by simpa using hQM) _, hL.ownB, hL.ownM, hL.below.setCell (by simpa using hQW) _⟩)
                go_wp2_with fail
                refine (take_of ⟨kind, fa, fi, ta, ti, fn - (m : Int), 0⟩ ma mi hL (by omega) hfa).mono ?_
                rintro e wt ⟨rfl, hLt, -⟩
                obtain ⟨c, hc⟩ : ∃ c, c = takeE G ⟨kind, fa, fi, ta, ti, fn - (m : Int), 0⟩ ma mi := ⟨_, rfl⟩
                rw [← hc]
                have hcb : (c != 0) = true := by rw [hc]; simpa using HNE.out
                clear hc
                go_wp2_with fail
                go_ret
                exact ⟨rfl, then_below hW2 hLt.below⟩
              · have hw : wrap64 (fn - (m : Int)) = fn - (m : Int) + 18446744073709551616 := by unfold wrap64; omega
                clear hle
                go_wp2_with fail
                go_ret
                exact ⟨rfl, then_below hW2 (hL.below.setCell (by simpa using hQW) _)⟩
    · go_enter Try.func3, Try.ntmps3
      go_wp2_with fail
      refine (awake_any _).mono ?_
      rintro e w0 ⟨rfl, hb0⟩
      go_wp2_with fail
      go_ret
      exact ⟨rfl, then_below hW2 hb0⟩
  · go_enter Try.func3, Try.ntmps3
    go_wp2_with fail
    refine (awake_any _).mono ?_
    rintro e w0 ⟨rfl, hb0⟩
    go_wp2_with fail
    go_ret
    exact ⟨rfl, then_below hW2 hb0⟩
end Go.Proofs.Ytacmplomahmaiaa
