/-
  The walk of a reader's list.
-/
import Derived.Test.YtimlenapeghknaaReads5
namespace Go.Proofs.Ytimlenapeghknaa
open Go.RowKit
set_option linter.unusedVariables false
set_option linter.unusedSimpArgs false
attribute [local go_sem ↓] Go.wp_at_zero Go.wp_at_succ
section
variable {R Bp : Nat} {l : List UInt8} {w : World}
/-- Where the loop stands. -/
def Going (R : Nat) (l : List UInt8) (w : World) (v x n : Value) (wr : World) : Prop :=
  (∃ (k : Nat) (acc : List Idn) (rest : List UInt8), n = .int .i64 k ∧ x = .int .i64 0 ∧ acc.length + k ≤ 64 ∧ wr.ownsRow w.heap.size 23 2 v acc.length (rowsI acc) ∧ Rd R rest 0 wr ∧ Keep R w wr ∧ rest.length ≤ 100000 ∧ rl l = rm k rest acc) ∨
  (∃ (k : Nat) (e : Int) (m : List UInt8) (e' : Int), n = .int .i64 k ∧ k ≤ 64 ∧ x = .int .i64 e ∧ e ≠ 0 ∧ rl l = ([], e, []) ∧ Rd R m e' wr ∧ Keep R w wr)
theorem keep_grown {R : Nat} {W w w' : World} {v : Value} (hK : Keep R W w) (hg : w.grownBy w' v.ownBlock) (hv : ∀ k, v.ownBlock = some k → W.heap.size ≤ k) : Keep R W w' :=
  ⟨hg.os.trans hK.os, hg.tape.trans hK.tape, hg.output.trans hK.output, Nat.le_trans hK.size hg.size, fun k hk hne =>
    (hg.block k (Nat.lt_of_lt_of_le hk hK.size) (fun e => by have := hv k e.symm; omega)).trans (hK.block k hk hne)⟩
theorem cell_pair {w : World} {a i : Int} : ∀ j u, ([.int .i64 a, .int .i64 i] : List Value)[j]? = some u → (w.alloc (.cells #[.int .i64 a, .int .i64 i] 23)).cell? ((⟨w.heap.size, 0, none⟩ : Addr).add j) = some u := by
  intro j u hj
  match j, hj with
  | 0, hj => simp at hj; subst hj; simp [Addr.add]
  | 1, hj => simp at hj; subst hj; simp [Addr.add]
theorem ri_shorter {l m : List UInt8} {x : Idn} (h : ri l = (x, 0, m)) : m.length ≤ l.length := by
  obtain ⟨a, i, n, h1, h2, -, -⟩ := ri_right h
  exact Nat.le_trans (rn_shorter h2) (rn_shorter h1)
set_option maxRecDepth 100000 in
set_option maxHeartbeats 8000000 in
theorem ids29_loop (n0 : Nat) (m0 : List UInt8) (h : Rd R l 0 w) (hp : w.cell? ⟨Bp, 0, none⟩ = some (.pointer (some ⟨R, 0, none⟩))) (hBp : Bp < w.heap.size) (hBR : Bp ≠ R) (hl : l.length ≤ 100000) (hr : rn l = (n0, 0, m0)) (hn : n0 ≤ 64) :
    Calls Try.prog 29 #[.pointer (some ⟨Bp, 0, none⟩)] w (IdsOut R l w) := by
  have hRl := h.lt
  have hm0 : m0.length ≤ 100000 := Nat.le_trans (rn_shorter hr) hl
  have HL : Hid (rl l = rm n0 m0 []) := Lib.hid (by unfold rl; rw [hr]; simp [show ¬ 64 < n0 by omega])
  have hn' : (n0 : Int) ≤ 64 := by omega
  obtain ⟨i23, z23, hi23, hz23, hs23, hb23, hzs23⟩ := info23
  have HP := Lib.hid hp
  go_enter Try.func29, Try.ntmps29
  go_wp2_with fail
  refine (num17_right R l m0 n0 _ h hl hr).mono ?_
  rintro r w1 ⟨rfl, h1, hK⟩
  clear hr h hp hl
  go_wp2_with fail
  go_loopw [1, 2, 3] (fun v x n wr => Going R l w v x n wr) (fun _ _ n _ => (intOf n).toNat)
  case atStart => exact .inl ⟨n0, [], m0, rfl, rfl, by simpa using hn, World.ownsRow_nil _ _ _ _, h1, hK, hm0, HL.out⟩
  case round =>
    clear h1 hK hm0 HL hn'
    rename_i u1 u2 u3
    unfold Going at hrel
    rcases hrel with ⟨k, acc, rest, rfl, rfl, hk, hown, hR, hK, hrest, hrl⟩ | ⟨k, e, m, e', rfl, hk, rfl, he, hrl, hR, hK⟩
    · by_cases hk0 : k = 0
      · subst hk0
        obtain ⟨oa, cap, rfl, hRow⟩ := row_of_own hown rfl (by omega)
        have HRL := Lib.hid hrl
        clear hrl hown
        go_wp2_with fail
        refine (rise_any oa cap acc _ hRow).mono ?_
        rintro r w2 ⟨rfl, hb2⟩
        have HW := Lib.hid (And.intro (hRow.below hb2) (And.intro (hR.kept hb2) (hK.trans (Keep.of_below hb2))))
        clear hRow hR hK hb2
        cases hrise : rise acc
        · have HX : Hid (rl l = ([], 4, [])) := Lib.hid (by rw [HRL.out, rm, hrise]; rfl)
          clear hrise
          go_wp2_with fail
          go_ret2
          exact .inr ⟨4, _, rest, 0, by decide, HX.out, rfl, HW.out.2.1, HW.out.2.2⟩
        · have HX : Hid (rl l = (acc, 0, rest)) := Lib.hid (by rw [HRL.out, rm, hrise]; rfl)
          clear hrise
          go_wp2_with fail
          go_ret2
          exact .inl ⟨acc, rest, oa, cap, HX.out, rfl, HW.out.1, HW.out.2.1, HW.out.2.2⟩
      · obtain ⟨j, rfl⟩ : ∃ j, k = j + 1 := ⟨k - 1, by omega⟩
        have hp1 : wr.cell? ⟨Bp, 0, none⟩ = some (.pointer (some ⟨R, 0, none⟩)) := (hK.cell (p := ⟨Bp, 0, none⟩) hBp hBR).trans HP.out
        have hBp1 : Bp < wr.heap.size := Nat.lt_of_lt_of_le hBp hK.size
        have hR1 := hR.lt
        have hj : ((j + 1 : Nat) : Int) - 1 = ((j : Nat) : Int) := by omega
        have HRL := Lib.hid hrl
        clear hrl
        go_wp2_with fail
        rcases aid_of rest with ⟨e, hri, he⟩ | ⟨x, r1, hri, hx, hl1⟩
        · have he0 : e ≠ 0 := by omega
          have HX : Hid (rl l = ([], e, [])) := Lib.hid (by rw [HRL.out, rm, hri]; simp [he0])
          refine (id20_wrong e (hR.alloc _) hrest hri he0).mono ?_
          rintro r w2 ⟨rfl, hR2, hK2⟩
          have hN : w2.heap[wr.heap.size]? = some (.cells #[.int .i64 0, .int .i64 0] 23 (0, 0)) := (hK2.block _ (by simp) (by omega)).trans (heap_alloc_new _ _)
          have n0 : w2.cell? ⟨wr.heap.size, 0, none⟩ = some (.int .i64 0) := by rw [cell_of_row _ _ _ _ _ _ hN]; rfl
          have n1 : w2.cell? ⟨wr.heap.size, 1, none⟩ = some (.int .i64 0) := by rw [cell_of_row _ _ _ _ _ _ hN]; rfl
          have f0 : w2.frozen? ⟨wr.heap.size, 0, none⟩ = false := frozen_of_row _ _ _ _ _ hN
          have f1 : w2.frozen? ⟨wr.heap.size, 1, none⟩ = false := frozen_of_row _ _ _ _ _ hN
          have hz2 : wr.heap.size < w2.heap.size := (Array.getElem?_eq_some_iff.1 hN).1
          have hown3 : ((w2.setCell ⟨wr.heap.size, 0, none⟩ (.int .i64 0)).setCell ⟨wr.heap.size, 1, none⟩ (.int .i64 0)).ownsRow w.heap.size 23 2 u1 acc.length (rowsI acc) := own_same hown (fun q hv => by
            have hq := World.ownsRow.lt hown q hv
            rw [Below.heap_setCell _ _ _ _ (by simp; omega), Below.heap_setCell _ _ _ _ (by simp; omega), hK2.block q (by simp; omega) (by omega), Below.heap_alloc _ _ _ hq.2])
          have hR3 : Rd R [] e ((w2.setCell ⟨wr.heap.size, 0, none⟩ (.int .i64 0)).setCell ⟨wr.heap.size, 1, none⟩ (.int .i64 0)) := (hR2.setOther (by simp; omega) _).setOther (by simp; omega) _
          have hK3 : Keep R w ((w2.setCell ⟨wr.heap.size, 0, none⟩ (.int .i64 0)).setCell ⟨wr.heap.size, 1, none⟩ (.int .i64 0)) :=
            (((hK.alloc (.cells #[.int .i64 0, .int .i64 0] 23)).trans hK2).setCell (p := ⟨wr.heap.size, 0, none⟩) (.inr hK.size) _).setCell (p := ⟨wr.heap.size, 1, none⟩) (.inr hK.size) _
          have hcell : ∀ j u, ([.int .i64 0, .int .i64 0] : List Value)[j]? = some u → (((w2.setCell ⟨wr.heap.size, 0, none⟩ (.int .i64 0)).setCell ⟨wr.heap.size, 1, none⟩ (.int .i64 0)).alloc (.cells #[.int .i64 0, .int .i64 0] 23)).cell? ((⟨w2.heap.size, 0, none⟩ : Addr).add j) = some u := by
            intro j u hj
            have h := cell_pair (w := (w2.setCell ⟨wr.heap.size, 0, none⟩ (.int .i64 0)).setCell ⟨wr.heap.size, 1, none⟩ (.int .i64 0)) j u hj
            simpa using h
          have hbase : w.heap.size ≤ (((w2.setCell ⟨wr.heap.size, 0, none⟩ (.int .i64 0)).setCell ⟨wr.heap.size, 1, none⟩ (.int .i64 0)).alloc (.cells #[.int .i64 0, .int .i64 0] 23)).heap.size := by simp; have := hK.size; omega
          have HC := Lib.hid hcell
          have H3 := Lib.hid (And.intro hR3 hK3)
          have HO3 := Lib.hid hown3
          have HB3 := Lib.hid hbase
          clear hN hcell hR2 hK2 hR hK hown hown3 hR3 hK3 hp1 hbase
          go_wp2_with (first | (at_builtin; refine wpList_append_own _ rfl _ _ 24 rfl w.heap.size 23 i23 z23 2 16 Try.underlying24 hi23 hz23 hs23 hb23 hzs23 (by decide) u1 acc.length (rowsI acc) rfl (HO3.out.alloc _) ⟨w2.heap.size, 0, none⟩ 1 1 [.int .i64 0, .int .i64 0] rfl rfl HC.out (by simp [Value.oneCell']) (by unfold maxLen; omega) (by omega) HB3.out ?_; intro v4 w4 hown4 hgrow4 hnil4) | fail)
          have hK4 : Keep R w w4 := keep_grown (H3.out.2.alloc (.cells #[.int .i64 0, .int .i64 0] 23)) hgrow4 (fun q hv => (World.ownsRow.lt HO3.out q hv).1)
          have hR4 : Rd R [] e w4 := (hgrow4.block R (by simp; omega) (by intro e; have := (World.ownsRow.lt HO3.out R e.symm).1; omega)).trans (by rw [Below.heap_alloc _ _ _ (H3.out.1.lt)]; exact H3.out.1)
          go_roundw
          case rel => exact .inr ⟨j, e, [], e, by go_num, by omega, rfl, he0, HX.out, hR4, hK4⟩
          case measure => simp only [intOf]; omega
        · have HX : Hid (rl l = rm j r1 (acc ++ [x])) := Lib.hid (by rw [HRL.out, rm, hri]; rfl)
          have hr1 := ri_shorter hri
          refine (id20_right x r1 (hR.alloc _) hrest hri).mono ?_
          rintro r w2 ⟨rfl, hR2, hK2⟩
          have hN : w2.heap[wr.heap.size]? = some (.cells #[.int .i64 0, .int .i64 0] 23 (0, 0)) := (hK2.block _ (by simp) (by omega)).trans (heap_alloc_new _ _)
          have n0 : w2.cell? ⟨wr.heap.size, 0, none⟩ = some (.int .i64 0) := by rw [cell_of_row _ _ _ _ _ _ hN]; rfl
          have n1 : w2.cell? ⟨wr.heap.size, 1, none⟩ = some (.int .i64 0) := by rw [cell_of_row _ _ _ _ _ _ hN]; rfl
          have f0 : w2.frozen? ⟨wr.heap.size, 0, none⟩ = false := frozen_of_row _ _ _ _ _ hN
          have f1 : w2.frozen? ⟨wr.heap.size, 1, none⟩ = false := frozen_of_row _ _ _ _ _ hN
          have hz2 : wr.heap.size < w2.heap.size := (Array.getElem?_eq_some_iff.1 hN).1
          have hown3 : ((w2.setCell ⟨wr.heap.size, 0, none⟩ (.int .i64 x.a)).setCell ⟨wr.heap.size, 1, none⟩ (.int .i64 x.i)).ownsRow w.heap.size 23 2 u1 acc.length (rowsI acc) := own_same hown (fun q hv => by
            have hq := World.ownsRow.lt hown q hv
            rw [Below.heap_setCell _ _ _ _ (by simp; omega), Below.heap_setCell _ _ _ _ (by simp; omega), hK2.block q (by simp; omega) (by omega), Below.heap_alloc _ _ _ hq.2])
          have hR3 : Rd R r1 0 ((w2.setCell ⟨wr.heap.size, 0, none⟩ (.int .i64 x.a)).setCell ⟨wr.heap.size, 1, none⟩ (.int .i64 x.i)) := (hR2.setOther (by simp; omega) _).setOther (by simp; omega) _
          have hK3 : Keep R w ((w2.setCell ⟨wr.heap.size, 0, none⟩ (.int .i64 x.a)).setCell ⟨wr.heap.size, 1, none⟩ (.int .i64 x.i)) :=
            (((hK.alloc (.cells #[.int .i64 0, .int .i64 0] 23)).trans hK2).setCell (p := ⟨wr.heap.size, 0, none⟩) (.inr hK.size) _).setCell (p := ⟨wr.heap.size, 1, none⟩) (.inr hK.size) _
          have hcell : ∀ j u, ([.int .i64 x.a, .int .i64 x.i] : List Value)[j]? = some u → (((w2.setCell ⟨wr.heap.size, 0, none⟩ (.int .i64 x.a)).setCell ⟨wr.heap.size, 1, none⟩ (.int .i64 x.i)).alloc (.cells #[.int .i64 x.a, .int .i64 x.i] 23)).cell? ((⟨w2.heap.size, 0, none⟩ : Addr).add j) = some u := by
            intro j u hj
            have h := cell_pair (w := (w2.setCell ⟨wr.heap.size, 0, none⟩ (.int .i64 x.a)).setCell ⟨wr.heap.size, 1, none⟩ (.int .i64 x.i)) j u hj
            simpa using h
          have hbase : w.heap.size ≤ (((w2.setCell ⟨wr.heap.size, 0, none⟩ (.int .i64 x.a)).setCell ⟨wr.heap.size, 1, none⟩ (.int .i64 x.i)).alloc (.cells #[.int .i64 x.a, .int .i64 x.i] 23)).heap.size := by simp; have := hK.size; omega
          have HC := Lib.hid hcell
          have H3 := Lib.hid (And.intro hR3 hK3)
          have HO3 := Lib.hid hown3
          have HB3 := Lib.hid hbase
          clear hN hcell hR2 hK2 hR hK hown hown3 hR3 hK3 hp1 hbase
          go_wp2_with (first | (at_builtin; refine wpList_append_own _ rfl _ _ 24 rfl w.heap.size 23 i23 z23 2 16 Try.underlying24 hi23 hz23 hs23 hb23 hzs23 (by decide) u1 acc.length (rowsI acc) rfl (HO3.out.alloc _) ⟨w2.heap.size, 0, none⟩ 1 1 [.int .i64 x.a, .int .i64 x.i] rfl rfl HC.out (by simp [Value.oneCell']) (by unfold maxLen; omega) (by omega) HB3.out ?_; intro v4 w4 hown4 hgrow4 hnil4) | fail)
          have hK4 : Keep R w w4 := keep_grown (H3.out.2.alloc (.cells #[.int .i64 x.a, .int .i64 x.i] 23)) hgrow4 (fun q hv => (World.ownsRow.lt HO3.out q hv).1)
          have hR4 : Rd R r1 0 w4 := (hgrow4.block R (by simp; omega) (by intro e; have := (World.ownsRow.lt HO3.out R e.symm).1; omega)).trans (by rw [Below.heap_alloc _ _ _ (H3.out.1.lt)]; exact H3.out.1)
          go_roundw
          case rel => exact .inl ⟨j, acc ++ [x], r1, by go_num, rfl, by rw [List.length_append, List.length_singleton]; omega, by rw [List.length_append, List.length_singleton, rowsI_append]; exact hown4, hR4, hK4, by omega, HX.out⟩
          case measure => simp only [intOf]; omega
    · have heb : (e == 0) = false := by simpa using he
      have HE := Lib.hid hrl
      have HO := Lib.hid he
      clear hrl he
      go_wp2_with fail
      go_ret2
      exact .inr ⟨e, _, m, e', HO.out, HE.out, rfl, hR, hK⟩
end
end Go.Proofs.Ytimlenapeghknaa
