/-
  The walk of Take.
-/
import Derived.Test.YtjjbfmaldhlenaaWalks5
import Derived.Laws.EntriesVeiled
namespace Go.Proofs.Ytjjbfmaldhlenaa
open Go.RowKit
theorem three (w : World) (a b c : Obj) {g : Nat} (hg : w.heap.size = g) :
    ((((w.alloc a).alloc b).alloc c).heap[g]? = some a) ∧ ((((w.alloc a).alloc b).alloc c).heap[g + 1]? = some b) ∧ ((((w.alloc a).alloc b).alloc c).heap[g + 1 + 1]? = some c) := by
  subst hg
  have h : (((w.alloc a).alloc b).alloc c).heap = ((w.heap.push a).push b).push c := rfl
  simp only [h, Array.getElem?_push, Array.size_push]
  refine ⟨?_, ?_, ?_⟩ <;> repeat (first | rw [if_pos (by omega)] | rw [if_neg (by omega)])
  all_goals simp
theorem neq_fn (k : Nat) (w : World) : Sem.run Try.prog (binOp BinOp.neq 71 (Value.func (Fn.func k) #[] #[]) Value.nilFunc) w = .ok (.bool true) w := by rfl
theorem neq_nil (w : World) : Sem.run Try.prog (binOp BinOp.neq 71 Value.nilFunc Value.nilFunc) w = .ok (.bool false) w := by rfl
attribute [local go_sem] neq_fn neq_nil
set_option maxRecDepth 100000 in
set_option maxHeartbeats 4000000 in
theorem take_9 (B : Nat) (s : St) (fa fi ta ti n token : Int) (w : World) (h : At B s w) (ok : s.Ok)  :
    Calls Try.prog 13 #[.pointer (some ⟨B, 0, none⟩), Fr.val ⟨9, fa, fi, ta, ti, n, token⟩] w fun e w' => e = .returned (s.take ⟨9, fa, fi, ta, ti, n, token⟩).val ∧ At B (s.take ⟨9, fa, fi, ta, ti, n, token⟩).st w' ∧ Keep B w w' := by
  have hlt := h.lt
  obtain ⟨s0, s1, s2, s3, s4, s5⟩ := h.reads
  go_enter Try.func13, Try.ntmps13
  simp only [Fr.val, Fr.cells]
  go_wp2_with fail
  refine (may_any fa fi _).mono ?_
  rintro e w0 ⟨rfl, hb0⟩
  have hA0 := ((((h.alloc _).alloc _).alloc _)).kept hb0
  have hK0 := ((((Keep.refl B w).alloc _).alloc _).alloc _).trans (Keep.of_below hb0)
  have hf0 := (hb0.block (w.heap.size + 1) (by simp)).trans (three w _ _ _ rfl).2.1
  have hc0 := fun (b o : Nat) (hbo : b < _) => hb0.cell (p := ⟨b, o, none⟩) hbo
  have hz0 := hb0.size
  simp at hz0
  have HF0 := Lib.hid hf0
  clear hf0
  cases hm : mayB fa fi
  · have HW := Lib.hid (show s.take ⟨9, fa, fi, ta, ti, n, token⟩ = s.nothing by simp only [St.take, hm]; rfl)
    go_wp2_with fail
    refine (nothing_any _ s ⟨9, fa, fi, ta, ti, n, token⟩ _).mono ?_
    rintro e w1 ⟨rfl, hb⟩
    have hA1 := hA0.kept hb
    have hK1 := hK0.trans (Keep.of_below hb)
    have hf1 := (hb.block (w.heap.size + 1) (by omega)).trans HF0.out
    obtain ⟨w2, hst, hf2, hA2, hK2⟩ := hand_on s.nothing.fr (g := w.heap.size + 1) (by omega) (by omega) hA1 hK1 hf1 rfl
    have HF := Lib.hid hf2
    clear hf2 hf1 hK1
    simp only [Ans.val, Fr.val]
    go_wp2_with fail
    refine ends_frame _ s.nothing.fr (w.heap.size + 1) (.bool s.nothing.is) (.int .i64 s.nothing.err) rfl rfl rfl rfl HF.out rfl ⟨by rw [HW.out]; rfl, by rw [HW.out]; exact hA2, hK2⟩
  · have HW := Lib.hid (show s.take ⟨9, fa, fi, ta, ti, n, token⟩ = s.acquire ⟨9, fa, fi, ta, ti, n, token⟩ by simp [St.take, hm])
    go_wp2_with fail
    refine (acquire_any B s ⟨9, fa, fi, ta, ti, n, token⟩ _ hA0 ok).mono ?_
    rintro e w1 ⟨rfl, hA1, hKg⟩
    have hK1 := Keep.trans hK0 hKg
    have hf1 := (hKg.block (w.heap.size + 1) (by omega) (by omega)).trans HF0.out
    obtain ⟨w2, hst, hf2, hA2, hK2⟩ := hand_on (s.acquire ⟨9, fa, fi, ta, ti, n, token⟩).fr (g := w.heap.size + 1) (by omega) (by omega) hA1 hK1 hf1 rfl
    have HF := Lib.hid hf2
    clear hf2 hf1 hK1
    simp only [Ans.val, Fr.val]
    go_wp2_with fail
    refine ends_frame _ (s.acquire ⟨9, fa, fi, ta, ti, n, token⟩).fr (w.heap.size + 1) (.bool (s.acquire ⟨9, fa, fi, ta, ti, n, token⟩).is) (.int .i64 (s.acquire ⟨9, fa, fi, ta, ti, n, token⟩).err) rfl rfl rfl rfl HF.out rfl ⟨by rw [HW.out]; rfl, by rw [HW.out]; exact hA2, hK2⟩
set_option maxRecDepth 100000 in
set_option maxHeartbeats 4000000 in
theorem take_10 (B : Nat) (s : St) (fa fi ta ti n token : Int) (w : World) (h : At B s w) (ok : s.Ok)  :
    Calls Try.prog 13 #[.pointer (some ⟨B, 0, none⟩), Fr.val ⟨10, fa, fi, ta, ti, n, token⟩] w fun e w' => e = .returned (s.take ⟨10, fa, fi, ta, ti, n, token⟩).val ∧ At B (s.take ⟨10, fa, fi, ta, ti, n, token⟩).st w' ∧ Keep B w w' := by
  have hlt := h.lt
  obtain ⟨s0, s1, s2, s3, s4, s5⟩ := h.reads
  go_enter Try.func13, Try.ntmps13
  simp only [Fr.val, Fr.cells]
  go_wp2_with fail
  refine (may_any fa fi _).mono ?_
  rintro e w0 ⟨rfl, hb0⟩
  have hA0 := ((((h.alloc _).alloc _).alloc _)).kept hb0
  have hK0 := ((((Keep.refl B w).alloc _).alloc _).alloc _).trans (Keep.of_below hb0)
  have hf0 := (hb0.block (w.heap.size + 1) (by simp)).trans (three w _ _ _ rfl).2.1
  have hc0 := fun (b o : Nat) (hbo : b < _) => hb0.cell (p := ⟨b, o, none⟩) hbo
  have hz0 := hb0.size
  simp at hz0
  have HF0 := Lib.hid hf0
  clear hf0
  cases hm : mayB fa fi
  · have HW := Lib.hid (show s.take ⟨10, fa, fi, ta, ti, n, token⟩ = s.nothing by simp only [St.take, hm]; rfl)
    go_wp2_with fail
    refine (nothing_any _ s ⟨10, fa, fi, ta, ti, n, token⟩ _).mono ?_
    rintro e w1 ⟨rfl, hb⟩
    have hA1 := hA0.kept hb
    have hK1 := hK0.trans (Keep.of_below hb)
    have hf1 := (hb.block (w.heap.size + 1) (by omega)).trans HF0.out
    obtain ⟨w2, hst, hf2, hA2, hK2⟩ := hand_on s.nothing.fr (g := w.heap.size + 1) (by omega) (by omega) hA1 hK1 hf1 rfl
    have HF := Lib.hid hf2
    clear hf2 hf1 hK1
    simp only [Ans.val, Fr.val]
    go_wp2_with fail
    refine ends_frame _ s.nothing.fr (w.heap.size + 1) (.bool s.nothing.is) (.int .i64 s.nothing.err) rfl rfl rfl rfl HF.out rfl ⟨by rw [HW.out]; rfl, by rw [HW.out]; exact hA2, hK2⟩
  · have HW := Lib.hid (show s.take ⟨10, fa, fi, ta, ti, n, token⟩ = s.renew ⟨10, fa, fi, ta, ti, n, token⟩ by simp [St.take, hm])
    go_wp2_with fail
    refine (renew_any B s ⟨10, fa, fi, ta, ti, n, token⟩ _ hA0 ok).mono ?_
    rintro e w1 ⟨rfl, hA1, hKg⟩
    have hK1 := Keep.trans hK0 hKg
    have hf1 := (hKg.block (w.heap.size + 1) (by omega) (by omega)).trans HF0.out
    obtain ⟨w2, hst, hf2, hA2, hK2⟩ := hand_on (s.renew ⟨10, fa, fi, ta, ti, n, token⟩).fr (g := w.heap.size + 1) (by omega) (by omega) hA1 hK1 hf1 rfl
    have HF := Lib.hid hf2
    clear hf2 hf1 hK1
    simp only [Ans.val, Fr.val]
    go_wp2_with fail
    refine ends_frame _ (s.renew ⟨10, fa, fi, ta, ti, n, token⟩).fr (w.heap.size + 1) (.bool (s.renew ⟨10, fa, fi, ta, ti, n, token⟩).is) (.int .i64 (s.renew ⟨10, fa, fi, ta, ti, n, token⟩).err) rfl rfl rfl rfl HF.out rfl ⟨by rw [HW.out]; rfl, by rw [HW.out]; exact hA2, hK2⟩
set_option maxRecDepth 100000 in
set_option maxHeartbeats 4000000 in
theorem take_11 (B : Nat) (s : St) (fa fi ta ti n token : Int) (w : World) (h : At B s w) (ok : s.Ok)  :
    Calls Try.prog 13 #[.pointer (some ⟨B, 0, none⟩), Fr.val ⟨11, fa, fi, ta, ti, n, token⟩] w fun e w' => e = .returned (s.take ⟨11, fa, fi, ta, ti, n, token⟩).val ∧ At B (s.take ⟨11, fa, fi, ta, ti, n, token⟩).st w' ∧ Keep B w w' := by
  have hlt := h.lt
  obtain ⟨s0, s1, s2, s3, s4, s5⟩ := h.reads
  go_enter Try.func13, Try.ntmps13
  simp only [Fr.val, Fr.cells]
  go_wp2_with fail
  refine (may_any fa fi _).mono ?_
  rintro e w0 ⟨rfl, hb0⟩
  have hA0 := ((((h.alloc _).alloc _).alloc _)).kept hb0
  have hK0 := ((((Keep.refl B w).alloc _).alloc _).alloc _).trans (Keep.of_below hb0)
  have hf0 := (hb0.block (w.heap.size + 1) (by simp)).trans (three w _ _ _ rfl).2.1
  have hc0 := fun (b o : Nat) (hbo : b < _) => hb0.cell (p := ⟨b, o, none⟩) hbo
  have hz0 := hb0.size
  simp at hz0
  have HF0 := Lib.hid hf0
  clear hf0
  cases hm : mayB fa fi
  · have HW := Lib.hid (show s.take ⟨11, fa, fi, ta, ti, n, token⟩ = s.nothing by simp only [St.take, hm]; rfl)
    go_wp2_with fail
    refine (nothing_any _ s ⟨11, fa, fi, ta, ti, n, token⟩ _).mono ?_
    rintro e w1 ⟨rfl, hb⟩
    have hA1 := hA0.kept hb
    have hK1 := hK0.trans (Keep.of_below hb)
    have hf1 := (hb.block (w.heap.size + 1) (by omega)).trans HF0.out
    obtain ⟨w2, hst, hf2, hA2, hK2⟩ := hand_on s.nothing.fr (g := w.heap.size + 1) (by omega) (by omega) hA1 hK1 hf1 rfl
    have HF := Lib.hid hf2
    clear hf2 hf1 hK1
    simp only [Ans.val, Fr.val]
    go_wp2_with fail
    refine ends_frame _ s.nothing.fr (w.heap.size + 1) (.bool s.nothing.is) (.int .i64 s.nothing.err) rfl rfl rfl rfl HF.out rfl ⟨by rw [HW.out]; rfl, by rw [HW.out]; exact hA2, hK2⟩
  · have HW := Lib.hid (show s.take ⟨11, fa, fi, ta, ti, n, token⟩ = s.release ⟨11, fa, fi, ta, ti, n, token⟩ by simp [St.take, hm])
    go_wp2_with fail
    refine (release_any B s ⟨11, fa, fi, ta, ti, n, token⟩ _ hA0 ok).mono ?_
    rintro e w1 ⟨rfl, hA1, hKg⟩
    have hK1 := Keep.trans hK0 hKg
    have hf1 := (hKg.block (w.heap.size + 1) (by omega) (by omega)).trans HF0.out
    obtain ⟨w2, hst, hf2, hA2, hK2⟩ := hand_on (s.release ⟨11, fa, fi, ta, ti, n, token⟩).fr (g := w.heap.size + 1) (by omega) (by omega) hA1 hK1 hf1 rfl
    have HF := Lib.hid hf2
    clear hf2 hf1 hK1
    simp only [Ans.val, Fr.val]
    go_wp2_with fail
    refine ends_frame _ (s.release ⟨11, fa, fi, ta, ti, n, token⟩).fr (w.heap.size + 1) (.bool (s.release ⟨11, fa, fi, ta, ti, n, token⟩).is) (.int .i64 (s.release ⟨11, fa, fi, ta, ti, n, token⟩).err) rfl rfl rfl rfl HF.out rfl ⟨by rw [HW.out]; rfl, by rw [HW.out]; exact hA2, hK2⟩
set_option maxRecDepth 100000 in
set_option maxHeartbeats 4000000 in
theorem take_more (B : Nat) (s : St) (kind fa fi ta ti n token : Int) (w : World) (h : At B s w) (_ok : s.Ok) (hk : 12 ≤ kind) (hk1 : kind ≤ 255) :
    Calls Try.prog 13 #[.pointer (some ⟨B, 0, none⟩), Fr.val ⟨kind, fa, fi, ta, ti, n, token⟩] w fun e w' => e = .returned (s.take ⟨kind, fa, fi, ta, ti, n, token⟩).val ∧ At B (s.take ⟨kind, fa, fi, ta, ti, n, token⟩).st w' ∧ Keep B w w' := by
  have hlt := h.lt
  obtain ⟨s0, s1, s2, s3, s4, s5⟩ := h.reads
  go_enter Try.func13, Try.ntmps13
  simp only [Fr.val, Fr.cells]
  have HW := Lib.hid (show s.take ⟨kind, fa, fi, ta, ti, n, token⟩ = s.nothing by simp [St.take, show ¬ kind = 9 by omega, show ¬ kind = 10 by omega, show ¬ kind = 11 by omega])
  go_wp2_with fail
  refine (nothing_any _ s ⟨kind, fa, fi, ta, ti, n, token⟩ _).mono ?_
  rintro e w1 ⟨rfl, hb⟩
  have hA1 := ((((h.alloc _).alloc _).alloc _)).kept hb
  have hK1 := ((((Keep.refl B w).alloc _).alloc _).alloc _).trans (Keep.of_below hb)
  have hf1 := (hb.block (w.heap.size + 1) (by simp)).trans (three w _ _ _ rfl).2.1
  obtain ⟨w2, hst, hf2, hA2, hK2⟩ := hand_on s.nothing.fr (g := w.heap.size + 1) (by omega) (by omega) hA1 hK1 hf1 rfl
  have HF := Lib.hid hf2
  clear hf2 hf1 hK1
  simp only [Ans.val, Fr.val]
  go_wp2_with fail
  refine ends_frame _ s.nothing.fr (w.heap.size + 1) (.bool s.nothing.is) (.int .i64 s.nothing.err) rfl rfl rfl rfl HF.out rfl ⟨by rw [HW.out]; rfl, by rw [HW.out]; exact hA2, hK2⟩
theorem no_fn (j : Nat) (hj : j < 9) (h : j < ([Value.nilFunc, Value.nilFunc, Value.nilFunc, Value.nilFunc, Value.nilFunc, Value.nilFunc, Value.nilFunc, Value.nilFunc, Value.nilFunc, Value.func (Fn.func 27) #[] #[], Value.func (Fn.func 28) #[] #[], Value.func (Fn.func 29) #[] #[]] : List Value).length) : ([Value.nilFunc, Value.nilFunc, Value.nilFunc, Value.nilFunc, Value.nilFunc, Value.nilFunc, Value.nilFunc, Value.nilFunc, Value.nilFunc, Value.func (Fn.func 27) #[] #[], Value.func (Fn.func 28) #[] #[], Value.func (Fn.func 29) #[] #[]] : List Value)[j] = Value.nilFunc := by
  rcases (show j = 0 ∨ j = 1 ∨ j = 2 ∨ j = 3 ∨ j = 4 ∨ j = 5 ∨ j = 6 ∨ j = 7 ∨ j = 8 by omega) with rfl | rfl | rfl | rfl | rfl | rfl | rfl | rfl | rfl <;> rfl
set_option maxRecDepth 100000 in
set_option maxHeartbeats 4000000 in
theorem take_less (B : Nat) (s : St) (kind fa fi ta ti n token : Int) (w : World) (h : At B s w) (_ok : s.Ok) (hk0 : 0 ≤ kind) (hk : kind < 9) :
    Calls Try.prog 13 #[.pointer (some ⟨B, 0, none⟩), Fr.val ⟨kind, fa, fi, ta, ti, n, token⟩] w fun e w' => e = .returned (s.take ⟨kind, fa, fi, ta, ti, n, token⟩).val ∧ At B (s.take ⟨kind, fa, fi, ta, ti, n, token⟩).st w' ∧ Keep B w w' := by
  have hlt := h.lt
  obtain ⟨s0, s1, s2, s3, s4, s5⟩ := h.reads
  go_enter Try.func13, Try.ntmps13
  simp only [Fr.val, Fr.cells]
  have HW := Lib.hid (show s.take ⟨kind, fa, fi, ta, ti, n, token⟩ = s.nothing by simp [St.take, show ¬ kind = 9 by omega, show ¬ kind = 10 by omega, show ¬ kind = 11 by omega])
  have hget := no_fn kind.toNat (by omega)
  go_wp2_with fail
  refine (nothing_any _ s ⟨kind, fa, fi, ta, ti, n, token⟩ _).mono ?_
  rintro e w1 ⟨rfl, hb⟩
  have hA1 := ((((h.alloc _).alloc _).alloc _)).kept hb
  have hK1 := ((((Keep.refl B w).alloc _).alloc _).alloc _).trans (Keep.of_below hb)
  have hf1 := (hb.block (w.heap.size + 1) (by simp)).trans (three w _ _ _ rfl).2.1
  obtain ⟨w2, hst, hf2, hA2, hK2⟩ := hand_on s.nothing.fr (g := w.heap.size + 1) (by omega) (by omega) hA1 hK1 hf1 rfl
  have HF := Lib.hid hf2
  clear hf2 hf1 hK1
  simp only [Ans.val, Fr.val]
  go_wp2_with fail
  refine ends_frame _ s.nothing.fr (w.heap.size + 1) (.bool s.nothing.is) (.int .i64 s.nothing.err) rfl rfl rfl rfl HF.out rfl ⟨by rw [HW.out]; rfl, by rw [HW.out]; exact hA2, hK2⟩
theorem take_any (B : Nat) (s : St) (f : Fr) (w : World) (h : At B s w) (ok : s.Ok) (hk : 0 ≤ f.kind) (hk1 : f.kind ≤ 255) :
    Calls Try.prog 13 #[.pointer (some ⟨B, 0, none⟩), f.val] w fun e w' => e = .returned (s.take f).val ∧ At B (s.take f).st w' ∧ Keep B w w' := by
  obtain ⟨kind, fa, fi, ta, ti, n, token⟩ := f
  have hc : kind = 9 ∨ kind = 10 ∨ kind = 11 ∨ kind < 9 ∨ 12 ≤ kind := by omega
  rcases hc with rfl | rfl | rfl | hc | hc
  · exact take_9 B s fa fi ta ti n token w h ok
  · exact take_10 B s fa fi ta ti n token w h ok
  · exact take_11 B s fa fi ta ti n token w h ok
  · exact take_less B s kind fa fi ta ti n token w h ok hk hc
  · exact take_more B s kind fa fi ta ti n token w h ok hc hk1
end Go.Proofs.Ytjjbfmaldhlenaa
