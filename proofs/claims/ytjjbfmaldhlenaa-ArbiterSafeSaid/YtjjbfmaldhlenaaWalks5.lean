/-
  The walk of release.
-/
import Derived.Test.YtjjbfmaldhlenaaWalks4
namespace Go.Proofs.Ytjjbfmaldhlenaa
open Go.RowKit
attribute [local go_sem ↓] Go.wp_at_zero Go.wp_at_succ
set_option maxRecDepth 100000 in
set_option maxHeartbeats 4000000 in
theorem release_any (B : Nat) (s : St) (f : Fr) (w : World) (h : At B s w) (ok : s.Ok) :
    Calls Try.prog 29 #[.pointer (some ⟨B, 0, none⟩), f.val] w fun e w' => e = .returned (s.release f).val ∧ At B (s.release f).st w' ∧ Keep B w w' := by
  have hlt := h.lt
  obtain ⟨t1, t2, n1, n2, k1, k2'⟩ := id ok
  obtain ⟨-, -, c2, -⟩ := h.reads
  go_enter Try.func29, Try.ntmps29
  simp only [Fr.val, Fr.cells]
  go_upto_region 1 with fail
  go_cut [19] (fun v wx => v = .bool (s.own f.fa f.fi && f.token == s.token) ∧ Tested B s f w wx)
  case first =>
    have hs1 : B < w.heap.size + 1 := by omega
    have hs2 : B < w.heap.size + 1 + 1 := by omega
    have hs3 : w.heap.size < w.heap.size + 1 + 1 := by omega
    have hOA := Lib.hid (((h.alloc (.cells #[.int .u8 f.kind, .int .i64 f.fa, .int .i64 f.fi, .int .i64 f.ta, .int .i64 f.ti, .int .i64 f.n, .int .i64 f.token, .int .i64 0, .int .i64 0, .slice none 0 0, .slice none 0 0, .slice none 0 0, .slice none 0 0, .slice none 0 0] 48)).alloc (.cells Fr.zero.cells 48)).drew)
    cases hw : s.own f.fa f.fi <;> cases ht : f.token == s.token
    all_goals
      have HO := Lib.hid hw
      have ht2 : (f.token != s.token) = !(f.token == s.token) := rfl
      rw [ht] at ht2
      simp only [Bool.not_false, Bool.not_true] at ht2
      clear hw
      first | (go_region_with (first | (go_at_call 35; refine (own_any B s f.fa f.fi _ hOA.out).mono ?_; rintro e w0 ⟨rfl, hb0⟩; rw [HO.out]; have hc0 := fun (b o : Nat) (hbo : b < _) => hb0.cell (p := ⟨b, o, none⟩) hbo))) | fail
      all_goals
        go_wp2_with fail
        go_meet
        case rel => exact ⟨by simp [HO.out, ht], tested_of h hb0⟩
  case rest =>
    obtain ⟨rfl, hT⟩ := hcut
    obtain ⟨b0, b1, b2, b3, b4, b5, b6, b7, b8, b9, b10, b11, b12, b13⟩ := Fr.reads hT.box
    have hz := hT.keep.size
    have hsz : w.heap.size + 1 < wc.heap.size := (Array.getElem?_eq_some_iff.1 hT.res).1
    have hAA := hT.here
    have hBl := hAA.lt
    have fz := hAA.free
    obtain ⟨k0, k1', k2, k3, k4, k5⟩ := hAA.reads
    cases hd : (s.own f.fa f.fi && f.token == s.token)
    · have HW := Lib.hid (show s.release f = s.nothing by simp only [St.release, hd]; rfl)
      go_wp2_with fail
      refine (nothing_any _ s f _).mono ?_
      rintro e w1 ⟨rfl, hb⟩
      have hA1 := hT.here.kept hb
      have hK1 := hT.keep.trans (Keep.of_below hb)
      have hf1 := (hb.block (w.heap.size + 1) hsz).trans hT.res
      obtain ⟨w2, hst, hf2, hA2, hK2⟩ := hand_on s.nothing.fr (g := w.heap.size + 1) (by omega) (by omega) hA1 hK1 hf1 rfl
      have HF := Lib.hid hf2
      clear hf2 hf1 hK1
      simp only [Ans.val, Fr.val]
      go_wp2_with fail
      refine ends_frame _ s.nothing.fr (w.heap.size + 1) (.bool s.nothing.is) (.int .i64 s.nothing.err) rfl rfl rfl rfl HF.out rfl ⟨by rw [HW.out]; rfl, by rw [HW.out]; exact hA2, hK2⟩
    · have HW := Lib.hid (show s.release f = s.free.nothing by simp only [St.release, hd]; rfl)
      have hA0 := ((hAA.set 3 (.int .i64 0) { s with ta := 0 } rfl).set 4 (.int .i64 0) { s with ta := 0, ti := 0 } rfl).set 5 (.int .i64 0) s.free rfl
      have hK0 := ((hT.keep.setCell (p := ⟨B, 3, none⟩) (.inl rfl) (.int .i64 0)).setCell (p := ⟨B, 4, none⟩) (.inl rfl) (.int .i64 0)).setCell (p := ⟨B, 5, none⟩) (.inl rfl) (.int .i64 0)
      have hf0 : (((wc.setCell ⟨B, 3, none⟩ (.int .i64 0)).setCell ⟨B, 4, none⟩ (.int .i64 0)).setCell ⟨B, 5, none⟩ (.int .i64 0)).heap[w.heap.size + 1]? = some (.cells Fr.zero.cells 48 (0, 0)) := by
        rw [Below.heap_setCell _ _ _ _ (by simp; omega), Below.heap_setCell _ _ _ _ (by simp; omega), Below.heap_setCell _ _ _ _ (by simp; omega)]; exact hT.res
      have HF0 := Lib.hid hf0
      clear hf0
      go_wp2_with fail
      refine (nothing_any _ s.free f _).mono ?_
      rintro e w1 ⟨rfl, hb⟩
      have hA1 := hA0.kept hb
      have hK1 := hK0.trans (Keep.of_below hb)
      have hf1 := (hb.block (w.heap.size + 1) (by simp; omega)).trans HF0.out
      obtain ⟨w2, hst, hf2, hA2, hK2⟩ := hand_on s.free.nothing.fr (g := w.heap.size + 1) (by omega) (by omega) hA1 hK1 hf1 rfl
      have HF := Lib.hid hf2
      clear hf2 hf1 hK1
      simp only [Ans.val, Fr.val]
      go_wp2_with fail
      refine ends_frame _ s.free.nothing.fr (w.heap.size + 1) (.bool s.free.nothing.is) (.int .i64 s.free.nothing.err) rfl rfl rfl rfl HF.out rfl ⟨by rw [HW.out]; rfl, by rw [HW.out]; exact hA2, hK2⟩
end Go.Proofs.Ytjjbfmaldhlenaa
