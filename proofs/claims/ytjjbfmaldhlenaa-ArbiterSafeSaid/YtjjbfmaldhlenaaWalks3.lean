/-
  The walks of acquire, renew, release, Take.
-/
import Derived.Test.YtjjbfmaldhlenaaWalks2
namespace Go.Proofs.Ytjjbfmaldhlenaa
open Go.RowKit
theorem two (w : World) (a b : Obj) (g : Nat) (hg : w.heap.size = g) : ((((w.alloc a).alloc b)).heap[g + 1]? = some b) ∧ ((((w.alloc a).alloc b)).heap[g]? = some a) := by
  subst hg
  exact ⟨heap_new (by simp), by rw [Below.heap_alloc _ _ _ (by simp)]; exact heap_alloc_new _ _⟩
/-- What an answer is behind a callee of its own, laid into its own block. -/
theorem hand_on {w w9 : World} {B g : Nat} {s : St} (f : Fr) {c : Array Value} (hg : w.heap.size ≤ g) (hB : B ≠ g) (hA : At B s w9) (hK : Keep B w w9) (hf : w9.heap[g]? = some (.cells c 48 (0, 0))) (hc : c.size = 14) :
    ∃ w', (storeCells ⟨g, 0, none⟩ f.cells.toList).run Try.prog w9 = .ok () w' ∧ w'.heap[g]? = some (.cells f.cells 48 (0, 0)) ∧ At B s w' ∧ Keep B w w' := by
  obtain ⟨w10, hst, hf10, hK10⟩ := Fr.lay f w9 _ _ hf hc
  exact ⟨w10, hst, hf10, hA.other hK10 hB, ⟨hK10.os.trans hK.os, hK10.tape.trans hK.tape, hK10.output.trans hK.output, Nat.le_trans hK.size hK10.size, fun k hk hB => (hK10.block k (Nat.lt_of_lt_of_le hk hK.size) (by omega)).trans (hK.block k hk hB)⟩⟩

section
theorem zero_fold : #[.int .u8 0, .int .i64 0, .int .i64 0, .int .i64 0, .int .i64 0, .int .i64 0, .int .i64 0, .int .i64 0, .int .i64 0, .slice none 0 0, .slice none 0 0, .slice none 0 0, .slice none 0 0, .slice none 0 0] = Fr.zero.cells := rfl
attribute [local go_sem] zero_fold
set_option maxRecDepth 100000 in
set_option maxHeartbeats 4000000 in
theorem acquire_full (B : Nat) (s : St) (f : Fr) (w : World) (h : At B s w) (ok : s.Ok) (hk : s.token = 1099511627776) (d1 : decide (s.now < s.term) = false) (d2 : decide (s.now < s.til) = false) :
    Calls Try.prog 27 #[.pointer (some ⟨B, 0, none⟩), f.val] w fun e w' => e = .returned (Ans.val ⟨s, .zero, false, 40⟩) ∧ At B s w' ∧ Keep B w w' := by
  have hlt := h.lt
  obtain ⟨c0, c1, c2, c3, c4, c5⟩ := h.reads
  obtain ⟨t1, t2, n1, n2, k1, k2'⟩ := id ok
  have hl1 : ¬ s.now < s.term := by simpa using d1
  have HO := Lib.hid (show s.own f.fa f.fi = false by simp [St.own, d2])
  go_enter Try.func27, Try.ntmps27
  simp only [Fr.val, Fr.cells]
  go_wp2
  go_quiet (fail)
  go_wp2_with fail
  refine (own_any B s f.fa f.fi _ (((h.alloc _).alloc _).drewN nq)).mono ?_
  rintro e w0 ⟨rfl, hb0⟩
  rw [HO.out]
  have hA0 := (((h.alloc _).alloc _).drewN nq).kept hb0
  have hK0 := ((((Keep.refl B w).alloc _).alloc _).drewN nq).trans (Keep.of_below hb0)
  have hf0 := (hb0.block (w.heap.size + 1) (by simp)).trans (two w _ _ _ rfl).1
  have hc0 := fun (b o : Nat) (hbo : b < _) => hb0.cell (p := ⟨b, o, none⟩) hbo
  have hz0 := hb0.size
  simp at hz0
  obtain ⟨-, -, k2, -⟩ := hA0.reads
  have k2f := hA0.free 2
  have HF0 := Lib.hid hf0
  clear hf0
  have hA1 := hA0
  have hK1 := hK0
  have hf1 := HF0.out
  obtain ⟨w2, hst, hf2, hA2, hK2⟩ := hand_on Fr.zero (g := w.heap.size + 1) (by omega) (by omega) hA1 hK1 hf1 rfl
  have HF := Lib.hid hf2
  clear hf2 hf1 hK1
  go_wp2_with fail
  refine ends_frame _ Fr.zero (w.heap.size + 1) (.bool false) (.int .i64 40) rfl rfl rfl rfl HF.out rfl ⟨rfl, hA2, hK2⟩
end
set_option maxRecDepth 100000 in
set_option maxHeartbeats 4000000 in
theorem acquire_any (B : Nat) (s : St) (f : Fr) (w : World) (h : At B s w) (ok : s.Ok) :
    Calls Try.prog 27 #[.pointer (some ⟨B, 0, none⟩), f.val] w fun e w' => e = .returned (s.acquire f).val ∧ At B (s.acquire f).st w' ∧ Keep B w w' := by
  have hlt := h.lt
  obtain ⟨c0, c1, c2, c3, c4, c5⟩ := h.reads
  obtain ⟨t1, t2, n1, n2, k1, k2'⟩ := id ok
  cases d1 : decide (s.now < s.term)
  · have hl1 : ¬ s.now < s.term := by simpa using d1
    cases d2 : decide (s.now < s.til)
    · have HO := Lib.hid (show s.own f.fa f.fi = false by simp [St.own, d2])
      by_cases hk : s.token = 1099511627776
      · have HW := Lib.hid (show s.acquire f = ⟨s, .zero, false, 40⟩ by simp only [St.acquire, d1, d2, HO.out, hk]; rfl)
        rw [HW.out]
        exact acquire_full B s f w h ok hk d1 d2
      · have HW := Lib.hid (show s.acquire f = s.more.grant f by
          have hk' : (s.token == 1099511627776) = false := by simpa using hk
          simp only [St.acquire, d1, d2, HO.out, hk']; rfl)
        go_enter Try.func27, Try.ntmps27
        simp only [Fr.val, Fr.cells]
        go_wp2
        go_quiet (fail)
        go_wp2_with fail
        refine (own_any B s f.fa f.fi _ (((h.alloc _).alloc _).drewN nq)).mono ?_
        rintro e w0 ⟨rfl, hb0⟩
        rw [HO.out]
        have hA0 := (((h.alloc _).alloc _).drewN nq).kept hb0
        have hK0 := ((((Keep.refl B w).alloc _).alloc _).drewN nq).trans (Keep.of_below hb0)
        have hf0 := (hb0.block (w.heap.size + 1) (by simp)).trans (two w _ _ _ rfl).1
        have hc0 := fun (b o : Nat) (hbo : b < _) => hb0.cell (p := ⟨b, o, none⟩) hbo
        have hz0 := hb0.size
        simp at hz0
        obtain ⟨-, -, k2, -⟩ := hA0.reads
        have k2f := hA0.free 2
        have HF0 := Lib.hid hf0
        clear hf0
        go_wp2_with fail
        refine (grant_any B s.more f _ (hA0.set 2 _ s.more rfl) (by first | exact ok | (constructor <;> simp only [St.more] <;> omega))).mono ?_
        rintro e w1 ⟨rfl, hA1, hKg⟩
        have hK1 := Keep.trans (hK0.setCell (.inl rfl) _) hKg
        have hf1 := (hKg.block (w.heap.size + 1) (by first | omega | (simp; omega)) (by omega)).trans ((Below.heap_setCell _ _ _ _ (by first | omega | (simp; omega))).trans HF0.out)
        obtain ⟨w2, hst, hf2, hA2, hK2⟩ := hand_on (s.more.grant f).fr (g := w.heap.size + 1) (by omega) (by omega) hA1 hK1 hf1 rfl
        have HF := Lib.hid hf2
        clear hf2 hf1 hK1
        simp only [Ans.val, Fr.val]
        go_wp2_with fail
        refine ends_frame _ (s.more.grant f).fr (w.heap.size + 1) (.bool (s.more.grant f).is) (.int .i64 (s.more.grant f).err) rfl rfl rfl rfl HF.out rfl ⟨by rw [HW.out]; rfl, by rw [HW.out]; exact hA2, hK2⟩
    · have hl2 : s.now < s.til := by simpa using d2
      cases e1 : s.ta == f.fa <;> cases e2 : s.ti == f.fi
      case true.true =>
        have HO := Lib.hid (show s.own f.fa f.fi = true by simp [St.own, d2, e1, e2])
        have HW := Lib.hid (show s.acquire f = s.grant f by simp only [St.acquire, d1, d2, HO.out, e1, e2]; rfl)
        go_enter Try.func27, Try.ntmps27
        simp only [Fr.val, Fr.cells]
        go_wp2
        go_region
        go_wp2_with fail
        refine (own_any B s f.fa f.fi _ (((h.alloc _).alloc _).drewN 1)).mono ?_
        rintro e w0 ⟨rfl, hb0⟩
        rw [HO.out]
        have hA0 := (((h.alloc _).alloc _).drewN 1).kept hb0
        have hK0 := ((((Keep.refl B w).alloc _).alloc _).drewN 1).trans (Keep.of_below hb0)
        have hf0 := (hb0.block (w.heap.size + 1) (by simp)).trans (two w _ _ _ rfl).1
        have hc0 := fun (b o : Nat) (hbo : b < _) => hb0.cell (p := ⟨b, o, none⟩) hbo
        have hz0 := hb0.size
        simp at hz0
        obtain ⟨-, -, k2, -⟩ := hA0.reads
        have k2f := hA0.free 2
        have HF0 := Lib.hid hf0
        clear hf0
        go_wp2_with fail
        refine (grant_any B s f _ hA0 (by first | exact ok | (constructor <;> simp only [St.more] <;> omega))).mono ?_
        rintro e w1 ⟨rfl, hA1, hKg⟩
        have hK1 := Keep.trans hK0 hKg
        have hf1 := (hKg.block (w.heap.size + 1) (by first | omega | (simp; omega)) (by omega)).trans HF0.out
        obtain ⟨w2, hst, hf2, hA2, hK2⟩ := hand_on (s.grant f).fr (g := w.heap.size + 1) (by omega) (by omega) hA1 hK1 hf1 rfl
        have HF := Lib.hid hf2
        clear hf2 hf1 hK1
        simp only [Ans.val, Fr.val]
        go_wp2_with fail
        refine ends_frame _ (s.grant f).fr (w.heap.size + 1) (.bool (s.grant f).is) (.int .i64 (s.grant f).err) rfl rfl rfl rfl HF.out rfl ⟨by rw [HW.out]; rfl, by rw [HW.out]; exact hA2, hK2⟩
      all_goals
        have HW := Lib.hid (show s.acquire f = s.refuse f by simp only [St.acquire, d1, d2, e1, e2]; rfl)
        go_enter Try.func27, Try.ntmps27
        simp only [Fr.val, Fr.cells]
        go_wp2
        go_region
        go_wp2_with fail
        refine (refuse_any _ s f _).mono ?_
        rintro e w1 ⟨rfl, hb⟩
        have hA1 := (((h.alloc _).alloc _).drewN 1).kept hb
        have hK1 := ((((Keep.refl B w).alloc _).alloc _).drewN 1).trans (Keep.of_below hb)
        have hf1 := (hb.block (w.heap.size + 1) (by simp)).trans (two w _ _ _ rfl).1
        obtain ⟨w2, hst, hf2, hA2, hK2⟩ := hand_on (s.refuse f).fr (g := w.heap.size + 1) (by omega) (by omega) hA1 hK1 hf1 rfl
        have HF := Lib.hid hf2
        clear hf2 hf1 hK1
        simp only [Ans.val, Fr.val]
        go_wp2_with fail
        refine ends_frame _ (s.refuse f).fr (w.heap.size + 1) (.bool (s.refuse f).is) (.int .i64 (s.refuse f).err) rfl rfl rfl rfl HF.out rfl ⟨by rw [HW.out]; rfl, by rw [HW.out]; exact hA2, hK2⟩
  · have HW := Lib.hid (show s.acquire f = s.refuse f by simp only [St.acquire, d1]; rfl)
    have hl : s.now < s.term := by simpa using d1
    go_enter Try.func27, Try.ntmps27
    simp only [Fr.val, Fr.cells]
    go_wp2
    go_quiet (fail)
    go_wp2_with fail
    refine (refuse_any _ s f _).mono ?_
    rintro e w1 ⟨rfl, hb⟩
    have hA1 := (((h.alloc _).alloc _).drewN nq).kept hb
    have hK1 := ((((Keep.refl B w).alloc _).alloc _).drewN nq).trans (Keep.of_below hb)
    have hf1 := (hb.block (w.heap.size + 1) (by simp)).trans (two w _ _ _ rfl).1
    obtain ⟨w2, hst, hf2, hA2, hK2⟩ := hand_on (s.refuse f).fr (g := w.heap.size + 1) (by omega) (by omega) hA1 hK1 hf1 rfl
    have HF := Lib.hid hf2
    clear hf2 hf1 hK1
    simp only [Ans.val, Fr.val]
    go_wp2_with fail
    refine ends_frame _ (s.refuse f).fr (w.heap.size + 1) (.bool (s.refuse f).is) (.int .i64 (s.refuse f).err) rfl rfl rfl rfl HF.out rfl ⟨by rw [HW.out]; rfl, by rw [HW.out]; exact hA2, hK2⟩
end Go.Proofs.Ytjjbfmaldhlenaa
