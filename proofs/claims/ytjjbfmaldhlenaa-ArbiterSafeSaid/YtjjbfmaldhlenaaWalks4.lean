/-
  The walks of renew, release.
-/
import Derived.Test.YtjjbfmaldhlenaaWalks3
import Derived.Deep.RegionWith
import Derived.Deep.DeepCutAuto
import Derived.Deep.DrawnRows
namespace Go.Proofs.Ytjjbfmaldhlenaa
open Go.RowKit
attribute [local go_sem ↓] Go.wp_at_zero Go.wp_at_succ
/-- All that a walk reads of a frame that lies whole in a block. -/
theorem Fr.reads {f : Fr} {w : World} {g : Nat} (h : w.heap[g]? = some (.cells f.cells 48 (0, 0))) :
    w.cell? ⟨g, 0, none⟩ = some (.int .u8 f.kind) ∧ w.cell? ⟨g, 1, none⟩ = some (.int .i64 f.fa) ∧ w.cell? ⟨g, 2, none⟩ = some (.int .i64 f.fi) ∧ w.cell? ⟨g, 3, none⟩ = some (.int .i64 f.ta) ∧ w.cell? ⟨g, 4, none⟩ = some (.int .i64 f.ti) ∧ w.cell? ⟨g, 5, none⟩ = some (.int .i64 f.n) ∧ w.cell? ⟨g, 6, none⟩ = some (.int .i64 f.token) ∧ w.cell? ⟨g, 7, none⟩ = some (.int .i64 0) ∧ w.cell? ⟨g, 8, none⟩ = some (.int .i64 0) ∧ w.cell? ⟨g, 9, none⟩ = some (.slice none 0 0) ∧ w.cell? ⟨g, 10, none⟩ = some (.slice none 0 0) ∧ w.cell? ⟨g, 11, none⟩ = some (.slice none 0 0) ∧ w.cell? ⟨g, 12, none⟩ = some (.slice none 0 0) ∧ w.cell? ⟨g, 13, none⟩ = some (.slice none 0 0) := by
  refine ⟨?_, ?_, ?_, ?_, ?_, ?_, ?_, ?_, ?_, ?_, ?_, ?_, ?_, ?_⟩ <;> (rw [cell_of_row _ _ _ _ _ _ h]; rfl)
/-- Behind the test: the arbiter as it was, the frame's box and the result's block as they were laid. -/
structure Tested (B : Nat) (s : St) (f : Fr) (w wx : World) : Prop where
  here : At B s wx
  keep : Keep B w wx
  box : wx.heap[w.heap.size]? = some (.cells f.cells 48 (0, 0))
  res : wx.heap[w.heap.size + 1]? = some (.cells Fr.zero.cells 48 (0, 0))
theorem tested_of {B : Nat} {s : St} {f : Fr} {w w0 : World} (h : At B s w) (hb : Below (((w.alloc (.cells f.cells 48)).alloc (.cells Fr.zero.cells 48)).drew).heap.size (((w.alloc (.cells f.cells 48)).alloc (.cells Fr.zero.cells 48)).drew) w0) : Tested B s f w w0 :=
  ⟨(((h.alloc _).alloc _).drew).kept hb, ((((Keep.refl B w).alloc _).alloc _).drew).trans (Keep.of_below hb), (hb.block _ (by simp; omega)).trans (two w _ _ _ rfl).2, (hb.block _ (by simp)).trans (two w _ _ _ rfl).1⟩
set_option maxRecDepth 100000 in
set_option maxHeartbeats 4000000 in
theorem renew_any (B : Nat) (s : St) (f : Fr) (w : World) (h : At B s w) (ok : s.Ok) :
    Calls Try.prog 28 #[.pointer (some ⟨B, 0, none⟩), f.val] w fun e w' => e = .returned (s.renew f).val ∧ At B (s.renew f).st w' ∧ Keep B w w' := by
  have hlt := h.lt
  obtain ⟨t1, t2, n1, n2, k1, k2'⟩ := id ok
  obtain ⟨-, -, c2, -⟩ := h.reads
  go_enter Try.func28, Try.ntmps28
  simp only [Fr.val, Fr.cells]
  go_upto_region 1 with fail
  go_cut [20] (fun v wx => v = .bool (!s.own f.fa f.fi || !(f.token == s.token)) ∧ Tested B s f w wx)
  case first =>
    have hs1 : B < w.heap.size + 1 := by omega
    have hs2 : B < w.heap.size + 1 + 1 := by omega
    have hs3 : w.heap.size < w.heap.size + 1 + 1 := by omega
    have hOA := Lib.hid (((h.alloc (.cells #[.int .u8 f.kind, .int .i64 f.fa, .int .i64 f.fi, .int .i64 f.ta, .int .i64 f.ti, .int .i64 f.n, .int .i64 f.token, .int .i64 0, .int .i64 0, .slice none 0 0, .slice none 0 0, .slice none 0 0, .slice none 0 0, .slice none 0 0] 48)).alloc (.cells Fr.zero.cells 48)).drew)
    cases hw : s.own f.fa f.fi <;> cases ht : f.token == s.token
    all_goals
      have HO := Lib.hid hw
      have ht2 : (f.token != s.token) = !(f.token == s.token) := rfl
      rw [ht] at ht2
      simp only [Bool.not_false, Bool.not_true] at ht2
      clear hw
      first | (go_region_with (first | (go_at_call 35; refine (own_any B s f.fa f.fi _ hOA.out).mono ?_; rintro e w0 ⟨rfl, hb0⟩; rw [HO.out]; have hc0 := fun (b o : Nat) (hbo : b < _) => hb0.cell (p := ⟨b, o, none⟩) hbo))) | fail
      all_goals
        go_wp2_with fail
        go_meet
        case rel => exact ⟨by simp [HO.out, ht], tested_of h hb0⟩
  case rest =>
    obtain ⟨rfl, hT⟩ := hcut
    obtain ⟨b0, b1, b2, b3, b4, b5, b6, b7, b8, b9, b10, b11, b12, b13⟩ := Fr.reads hT.box
    have hz := hT.keep.size
    have hsz : w.heap.size + 1 < wc.heap.size := (Array.getElem?_eq_some_iff.1 hT.res).1
    cases hd : (!s.own f.fa f.fi || !(f.token == s.token))
    · have HW := Lib.hid (show s.renew f = s.grant f by simp only [St.renew, hd]; rfl)
      go_wp2_with fail
      refine (grant_any B s f _ hT.here ok).mono ?_
      rintro e w1 ⟨rfl, hA1, hKg⟩
      have hK1 := hT.keep.trans hKg
      have hf1 := (hKg.block (w.heap.size + 1) hsz (by omega)).trans hT.res
      obtain ⟨w2, hst, hf2, hA2, hK2⟩ := hand_on (s.grant f).fr (g := w.heap.size + 1) (by omega) (by omega) hA1 hK1 hf1 rfl
      have HF := Lib.hid hf2
      clear hf2 hf1 hK1
      simp only [Ans.val, Fr.val]
      go_wp2_with fail
      refine ends_frame _ (s.grant f).fr (w.heap.size + 1) (.bool (s.grant f).is) (.int .i64 (s.grant f).err) rfl rfl rfl rfl HF.out rfl ⟨by rw [HW.out]; rfl, by rw [HW.out]; exact hA2, hK2⟩
    · have HW := Lib.hid (show s.renew f = s.refuse f by simp only [St.renew, hd]; rfl)
      go_wp2_with fail
      refine (refuse_any _ s f _).mono ?_
      rintro e w1 ⟨rfl, hb⟩
      have hA1 := hT.here.kept hb
      have hK1 := hT.keep.trans (Keep.of_below hb)
      have hf1 := (hb.block (w.heap.size + 1) hsz).trans hT.res
      obtain ⟨w2, hst, hf2, hA2, hK2⟩ := hand_on (s.refuse f).fr (g := w.heap.size + 1) (by omega) (by omega) hA1 hK1 hf1 rfl
      have HF := Lib.hid hf2
      clear hf2 hf1 hK1
      simp only [Ans.val, Fr.val]
      go_wp2_with fail
      refine ends_frame _ (s.refuse f).fr (w.heap.size + 1) (.bool (s.refuse f).is) (.int .i64 (s.refuse f).err) rfl rfl rfl rfl HF.out rfl ⟨by rw [HW.out]; rfl, by rw [HW.out]; exact hA2, hK2⟩
end Go.Proofs.Ytjjbfmaldhlenaa
