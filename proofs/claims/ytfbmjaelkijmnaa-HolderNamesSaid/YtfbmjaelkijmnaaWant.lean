/-
  The walk of Want.
-/
import Derived.Test.YtfbmjaelkijmnaaWalks3
namespace Go.Proofs.Ytfbmjaelkijmnaa
open Go.RowKit
theorem four (w : World) (a b c d : Obj) (g : Nat) (hg : w.heap.size = g) :
    (((((w.alloc a).alloc b).alloc c).alloc d).heap[g]? = some a) ∧ (((((w.alloc a).alloc b).alloc c).alloc d).heap[g + 1]? = some b) ∧
    (((((w.alloc a).alloc b).alloc c).alloc d).heap[g + 1 + 1]? = some c) ∧ (((((w.alloc a).alloc b).alloc c).alloc d).heap[g + 1 + 1 + 1]? = some d) := by
  subst hg
  have h : ((((w.alloc a).alloc b).alloc c).alloc d).heap = (((w.heap.push a).push b).push c).push d := rfl
  simp only [h, Array.getElem?_push, Array.size_push]
  refine ⟨?_, ?_, ?_, ?_⟩ <;> repeat (first | rw [if_pos (by omega)] | rw [if_neg (by omega)])
  all_goals simp
set_option maxRecDepth 100000 in
set_option maxHeartbeats 1000000 in
theorem want_any (B : Nat) (s : St) (now : Int) (w : World) (h : At B s w) (ok : s.Ok) :
    Calls Try.prog 12 #[.pointer (some ⟨B, 0, none⟩), .int .i64 now] w fun e w' => e = .returned (.tuple #[(s.want now).2.1.val, .bool (s.want now).2.2]) ∧ At B (s.want now).1 w' ∧ Keep B w w' := by
  have hlt := h.lt
  have hlt1 : B < w.heap.size + 1 := by omega
  have hlt2 : B < w.heap.size + 1 + 1 := by omega
  have hlt3 : B < w.heap.size + 1 + 1 + 1 := by omega
  have hlt4 : B < w.heap.size + 1 + 1 + 1 + 1 := by omega
  have t0 := time_lo s now
  have t1 := time_hi s now
  have s1 := ok.s1
  have s2 := ok.s2
  have hr1 := ok.h1
  have hr2 := ok.h2
  obtain ⟨-, -, c2, -, -, -, c6, -, c8, c9, c10⟩ := h.reads
  have f8 := h.free 8
  have f9 := h.free 9
  have hwr : IntKind.i64.wrap (s.time now - s.since) = s.time now - s.since := IntWalk.i64_in _ (by omega)
  have hq : IntKind.i64.wrap (s.hold.tdiv 3) = s.hold / 3 := IntWalk.i64_quo _ _ (by omega)
  have HWR := Lib.hid hwr
  have HQ := Lib.hid hq
  clear hwr hq
  go_enter Try.func12, Try.ntmps12
  go_wp2_with fail
  refine (at_any B s now _ (((h.alloc _).alloc _).alloc _)).mono ?_
  rintro e w1 ⟨rfl, rfl⟩
  go_wp2_with fail
  refine (all_any B w.heap.size (w.heap.size + 1) (w.heap.size + 1 + 1 + 1) s (s.time now) _ ?_ ok ?_ ?_ t0 t1 ?_ ?_).mono ?_
  · exact (((h.alloc _).alloc _).alloc _).alloc _
  · exact cell_of_row _ _ _ _ _ _ (four w _ _ _ _ _ rfl).1
  · exact cell_of_row _ _ _ _ _ _ (four w _ _ _ _ _ rfl).2.1
  · exact cell_of_row _ _ _ _ _ _ (four w _ _ _ _ _ rfl).2.2.2
  · exact cell_of_row _ _ _ _ _ _ (four w _ _ _ _ _ rfl).2.2.2
  rintro e w1 ⟨rfl, n, rfl⟩
  cases hr : s.refused
  · cases he : (s.waits && decide (s.time now - s.asked < s.retry))
    · cases hh : s.holds (s.time now)
      · have HW := Lib.hid (show s.want now = (s.none.ask 9 (s.time now), s.none.asks 9, true) by simp only [St.want, hr, he, hh]; rfl)
        go_wp2_with fail
        refine (holds_any B s (s.time now) _ (((((h.alloc _).alloc _).alloc _).alloc _).drewN n) ok).mono ?_
        rintro e w1 ⟨rfl, m, rfl⟩
        go_wp2_with fail
        refine (ask_any B s.none 9 (s.time now) _ ?_ (none_ok s ok)).mono ?_
        · exact (((((((h.set 8 _ { s with token := 0 } rfl).set 9 _ s.none rfl).alloc _).alloc _).alloc _).alloc _).drewN _)
        rintro e w9 ⟨rfl, hA, hK⟩
        have hK0 : Keep B w w9 := Keep.trans (((((((Keep.refl B w).setCell (.inl rfl) _).setCell (.inl rfl) _).alloc _).alloc _).alloc _).alloc _ |>.drewN _) hK
        have hf := (hK.block (w.heap.size + 1 + 1) (by simp) (by omega)).trans (four _ _ _ _ _ w.heap.size (by simp)).2.2.1
        obtain ⟨w10, hst, hf10, hK10⟩ := Fr.lay (s.none.asks 9) w9 _ _ hf rfl
        have HF10 := Lib.hid hf10
        have hA10 := hA.other hK10 (by omega)
        have hKK : Keep B w w10 := ⟨hK10.os.trans hK0.os, hK10.tape.trans hK0.tape, hK10.output.trans hK0.output, Nat.le_trans hK0.size hK10.size, fun k hk hB => (hK10.block k (Nat.lt_of_lt_of_le hk hK0.size) (by omega)).trans (hK0.block k hk hB)⟩
        clear hK hK0 hf hf10 hK10 hA
        simp only [Fr.val]
        go_wp2_with fail
        refine ends_frame _ (s.none.asks 9) (w.heap.size + 1 + 1) (.bool true) rfl rfl rfl HF10.out rfl ⟨by rw [HW.out], ?_, ?_⟩
        · rw [HW.out]; exact hA10
        · exact hKK
      · have hcase : (s.waits = false ∧ ¬ max 1 (s.hold / 3) ≤ s.time now - s.since) ∨ (s.waits = true ∨ max 1 (s.hold / 3) ≤ s.time now - s.since) := by
          cases s.waits
          · by_cases e : max 1 (s.hold / 3) ≤ s.time now - s.since
            · exact .inr (.inr e)
            · exact .inl ⟨rfl, e⟩
          · exact .inr (.inl rfl)
        rcases hcase with ⟨hwt, hm⟩ | hor
        · have HW := Lib.hid (show s.want now = (s, .zero, false) by simp only [St.want, hr, hh, hwt, decide_eq_false hm]; rfl)
          by_cases hq3 : 1 < s.hold / 3
          all_goals
            go_wp2_with fail
            refine (holds_any B s (s.time now) _ (((((h.alloc _).alloc _).alloc _).alloc _).drewN n) ok).mono ?_
            rintro e w1 ⟨rfl, m, rfl⟩
            go_wp2_with fail
            have hwr := HWR.out
            have hq := HQ.out
            go_quiet (fail)
            clear hwr hq
            go_wp2_with fail
            refine bodyPost_ret (v := .tuple #[Fr.zero.val, .bool false]) (by simp [results, Try.results12, go_sem, Fr.val, Fr.cells, Fr.zero]) rfl ⟨by rw [HW.out], ?_, ?_⟩
            · rw [HW.out]; exact ((((h.alloc _).alloc _).alloc _).alloc _).drewN _
            · exact (((((Keep.refl B w).alloc _).alloc _).alloc _).alloc _).drewN _
        · have HW := Lib.hid (show s.want now = (s.ask 10 (s.time now), s.asks 10, true) by
            simp only [St.want, hr, he, hh]
            rcases hor with e | e <;> simp [e])
          have hcs : (s.waits = true) ∨ (s.waits = false ∧ 1 < s.hold / 3 ∧ s.hold / 3 ≤ s.time now - s.since) ∨ (s.waits = false ∧ s.hold / 3 ≤ 1 ∧ 1 ≤ s.time now - s.since) := by
            cases hwt : s.waits
            · rw [hwt] at hor
              have e : max 1 (s.hold / 3) ≤ s.time now - s.since := by simpa using hor
              by_cases hq3 : 1 < s.hold / 3
              · exact .inr (.inl ⟨rfl, hq3, by omega⟩)
              · exact .inr (.inr ⟨rfl, by omega, by omega⟩)
            · exact .inl rfl
          clear hor
          rcases hcs with hwt | ⟨hwt, hq3, hm⟩ | ⟨hwt, hq3, hm⟩
          all_goals
            go_wp2_with fail
            refine (holds_any B s (s.time now) _ (((((h.alloc _).alloc _).alloc _).alloc _).drewN n) ok).mono ?_
            rintro e w1 ⟨rfl, m, rfl⟩
            go_wp2_with fail
            have hwr := HWR.out
            have hq := HQ.out
            go_quiet (fail)
            clear hwr hq
            go_wp2_with fail
            refine (ask_any B s 10 (s.time now) _ (((((h.alloc _).alloc _).alloc _).alloc _).drewN _) ok).mono ?_
            rintro e w9 ⟨rfl, hA, hK⟩
            have hK0 : Keep B w w9 := Keep.trans (((((Keep.refl B w).alloc _).alloc _).alloc _).alloc _ |>.drewN _) hK
            have hf := (hK.block (w.heap.size + 1 + 1) (by simp) (by omega)).trans (four _ _ _ _ _ w.heap.size (by simp)).2.2.1
            obtain ⟨w10, hst, hf10, hK10⟩ := Fr.lay (s.asks 10) w9 _ _ hf rfl
            have HF10 := Lib.hid hf10
            have hA10 := hA.other hK10 (by omega)
            have hKK : Keep B w w10 := ⟨hK10.os.trans hK0.os, hK10.tape.trans hK0.tape, hK10.output.trans hK0.output, Nat.le_trans hK0.size hK10.size, fun k hk hB => (hK10.block k (Nat.lt_of_lt_of_le hk hK0.size) (by omega)).trans (hK0.block k hk hB)⟩
            clear hK hK0 hf hf10 hK10 hA
            simp only [Fr.val]
            go_wp2_with fail
            refine ends_frame _ (s.asks 10) (w.heap.size + 1 + 1) (.bool true) rfl rfl rfl HF10.out rfl ⟨by rw [HW.out], ?_, ?_⟩
            · rw [HW.out]; exact hA10
            · exact hKK
    · have HW := Lib.hid (show s.want now = (s, .zero, false) by simp only [St.want, hr, he]; rfl)
      go_wp2_with fail
      refine bodyPost_ret (v := .tuple #[Fr.zero.val, .bool false]) (by simp [results, Try.results12, go_sem, Fr.val, Fr.cells, Fr.zero]) rfl ⟨by rw [HW.out], ?_, ?_⟩
      · rw [HW.out]; exact ((((h.alloc _).alloc _).alloc _).alloc _).drewN n
      · exact (((((Keep.refl B w).alloc _).alloc _).alloc _).alloc _).drewN n
  · have HW := Lib.hid (show s.want now = (s, .zero, false) by simp only [St.want, hr]; rfl)
    go_wp2_with fail
    refine bodyPost_ret (v := .tuple #[Fr.zero.val, .bool false]) (by simp [results, Try.results12, go_sem, Fr.val, Fr.cells, Fr.zero]) rfl ⟨by rw [HW.out], ?_, ?_⟩
    · rw [HW.out]; exact ((((h.alloc _).alloc _).alloc _).alloc _).drewN n
    · exact (((((Keep.refl B w).alloc _).alloc _).alloc _).alloc _).drewN n
end Go.Proofs.Ytfbmjaelkijmnaa
