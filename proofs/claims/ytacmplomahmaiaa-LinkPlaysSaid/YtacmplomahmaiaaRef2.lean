/-
  The document's Fenced (under way).
-/
import Derived.Test.YtacmplomahmaiaaRef1
namespace Go.Proofs.Ytacmplomahmaiaa
open Go.RowKit
set_option linter.unusedVariables false
set_option linter.unusedSimpArgs false
attribute [local go_sem ↓] Go.wp_at_zero Go.wp_at_succ
theorem wpAny_one' {P : Program} {ops : Array Oper} {Q : Exit → Act → World → Prop} {md : Region.Mode} {i : Nat} {o : Oper} {fuel : Nat} {listed : Array Bool} {a : Act} {w : World} (hr : Region.ready md ops listed = [i]) (ho : ops[i]? = some o)
    (h : ∀ K' : Act → World → Prop, Shut (∀ a w, wpAny P md ops Q fuel (listed.setIfInBounds i true) a w → K' a w) → if Region.wanted o (yielded ops a.tmps) = true then Oper.wp P o a w K' Q else K' (a.put o.dst undef) w) :
    wpAny P md ops Q (fuel + 1) listed a w :=
  wpAny_ready hr (by simp) (AllReady.cons ho h AllReady.nil)
set_option maxRecDepth 100000 in
set_option maxHeartbeats 4000000 in
theorem rfenced_no (R : Nat) (g : Int → Peer) (a i : Int) (w : World) (hm : mayB a i = false) :
    Calls Try.prog 22 #[.pointer (some ⟨R, 0, none⟩), .agg #[.int .i64 a, .int .i64 i]] w fun e w' => e = .returned (.bool (fencedB g a i)) ∧ Below w.heap.size w w' := by
  have hbel : Below w.heap.size w (w.alloc (.cells #[.int .i64 a, .int .i64 i] 23)) := (Below.refl _ _).alloc (Nat.le_refl _) _
  have hb0 : (w.alloc (.cells #[.int .i64 a, .int .i64 i] 23)).heap[w.heap.size]? = some (.cells #[.int .i64 a, .int .i64 i] 23 (0, 0)) := heap_alloc_new _ _
  have hB : fencedB g a i = false := by unfold fencedB; rw [hm]; rfl
  rw [hB]
  clear hB
  have HM := Lib.hid hm
  clear hm
  have hql0 : w.heap.size < (w.alloc (.cells #[.int .i64 a, .int .i64 i] 23)).drew.heap.size := by simp
  go_enter Try.func22, Try.ntmps22
  go_wp2_with fail
  generalize w.alloc (.cells #[.int .i64 a, .int .i64 i] 23) = Y at hbel hb0 hql0 ⊢
  have e0 : Y.drew.cell? ⟨w.heap.size, 0, none⟩ = some (.int .i64 a) := (cell_of_row _ _ _ _ _ _ hb0).trans rfl
  have e1 : Y.drew.cell? ⟨w.heap.size, 1, none⟩ = some (.int .i64 i) := (cell_of_row _ _ _ _ _ _ hb0).trans rfl
  generalize hq : w.heap.size = q at e0 e1 ⊢
  have hql : q < Y.drew.heap.size := by rw [← hq]; exact hql0
  refine wp_region_any (by kernel_rfl) ?_
  try (change wpAny _ _ _ _ _ _ _ (World.drew _))
  refine wpAny_one' (i := 0) (by kernel_rfl) rfl (fun K hK => ?_)
  go_simp
  refine hK.out _ _ ?_; clear hK K
  refine wpAny_one' (i := 1) (by kernel_rfl) rfl (fun K hK => ?_)
  go_simp
  refine (ref_may_any a i _).mono ?_
  rintro e w1 ⟨rfl, hb⟩
  rw [HM.out]
  go_wp2_with fail
  refine hK.out _ _ ?_; clear hK K
  refine wpAny_take (i := 2) (v := ?_) rfl (by kernel_rfl) (by kernel_rfl) (by kernel_rfl) (fun _ _ _ h => h) (Or.inl ⟨by rfl, ?_⟩) ?_
  rotate_left
  · (intro w; go_simp) <;> with_reducible rfl
  refine wpAny_take (i := 3) (v := undef) rfl (by kernel_rfl) (by kernel_rfl) (by kernel_rfl) (fun _ _ _ h => h) (Or.inr ⟨by kernel_rfl, rfl⟩) ?_
  refine wpAny_take (i := 4) (v := undef) rfl (by kernel_rfl) (by kernel_rfl) (by kernel_rfl) (fun _ _ _ h => h) (Or.inr ⟨by kernel_rfl, rfl⟩) ?_
  refine wpAny_take (i := 5) (v := undef) rfl (by kernel_rfl) (by kernel_rfl) (by kernel_rfl) (fun _ _ _ h => h) (Or.inr ⟨by kernel_rfl, rfl⟩) ?_
  refine wpAny_take (i := 6) (v := undef) rfl (by kernel_rfl) (by kernel_rfl) (by kernel_rfl) (fun _ _ _ h => h) (Or.inr ⟨by kernel_rfl, rfl⟩) ?_
  refine wpAny_take (i := 7) (v := undef) rfl (by kernel_rfl) (by kernel_rfl) (by kernel_rfl) (fun _ _ _ h => h) (Or.inr ⟨by kernel_rfl, rfl⟩) ?_
  refine wpAny_take (i := 8) (v := undef) rfl (by kernel_rfl) (by kernel_rfl) (by kernel_rfl) (fun _ _ _ h => h) (Or.inr ⟨by kernel_rfl, rfl⟩) ?_
  refine wpAny_take (i := 9) (v := undef) rfl (by kernel_rfl) (by kernel_rfl) (by kernel_rfl) (fun _ _ _ h => h) (Or.inr ⟨by kernel_rfl, rfl⟩) ?_
  refine wpAny_take (i := 10) (v := undef) rfl (by kernel_rfl) (by kernel_rfl) (by kernel_rfl) (fun _ _ _ h => h) (Or.inr ⟨by kernel_rfl, rfl⟩) ?_
  refine wpAny_take (i := 11) (v := undef) rfl (by kernel_rfl) (by kernel_rfl) (by kernel_rfl) (fun _ _ _ h => h) (Or.inr ⟨by kernel_rfl, rfl⟩) ?_
  refine wpAny_take (i := 12) (v := undef) rfl (by kernel_rfl) (by kernel_rfl) (by kernel_rfl) (fun _ _ _ h => h) (Or.inr ⟨by kernel_rfl, rfl⟩) ?_
  refine wpAny_take (i := 13) (v := undef) rfl (by kernel_rfl) (by kernel_rfl) (by kernel_rfl) (fun _ _ _ h => h) (Or.inr ⟨by kernel_rfl, rfl⟩) ?_
  refine wpAny_take (i := 14) (v := ?_) rfl (by kernel_rfl) (by kernel_rfl) (by kernel_rfl) (fun _ _ _ h => h) (Or.inl ⟨by rfl, ?_⟩) ?_
  rotate_left
  · (intro w; go_simp) <;> with_reducible rfl
  refine wpAny_take (i := 15) (v := ?_) rfl (by kernel_rfl) (by kernel_rfl) (by kernel_rfl) (fun _ _ _ h => h) (Or.inl ⟨by rfl, ?_⟩) ?_
  rotate_left
  · (intro w; go_simp) <;> with_reducible rfl
  refine wpAny_done (by kernel_rfl) ?_ _
  go_simp
  go_wp2_with fail
  go_ret
  exact ⟨rfl, then_below (below_drewN hbel 1) hb⟩
set_option maxRecDepth 100000 in
set_option maxHeartbeats 4000000 in
theorem rfenced_yes (R : Nat) (g : Int → Peer) (k : Nat) (i : Int) (w : World) (h : Rl R g w) (hm : mayB k i = true) :
    Calls Try.prog 22 #[.pointer (some ⟨R, 0, none⟩), .agg #[.int .i64 k, .int .i64 i]] w fun e w' => e = .returned (.bool (fencedB g k i)) ∧ Below w.heap.size w w' := by
  have hbel : Below w.heap.size w (w.alloc (.cells #[.int .i64 k, .int .i64 i] 23)) := (Below.refl _ _).alloc (Nat.le_refl _) _
  have hb0 : (w.alloc (.cells #[.int .i64 k, .int .i64 i] 23)).heap[w.heap.size]? = some (.cells #[.int .i64 k, .int .i64 i] 23 (0, 0)) := heap_alloc_new _ _
  have hd : 1 ≤ (k : Int) ∧ (k : Int) ≤ 12 ∧ 1 ≤ i ∧ i ≤ 1048576 := by simpa [mayB] using hm
  obtain ⟨a1, a2, i1, i2⟩ := hd
  have hB : fencedB g k i = decide (i ≤ (g k).fenced) := by unfold fencedB; rw [hm]; rfl
  rw [hB]
  have hw := (h.alloc (.cells #[.int .i64 k, .int .i64 i] 23)).drew
  have hql : w.heap.size < (w.alloc (.cells #[.int .i64 k, .int .i64 i] 23)).heap.size := by simp
  clear hB h
  have HM := Lib.hid hm
  clear hm
  go_enter Try.func22, Try.ntmps22
  go_wp2_with fail
  generalize w.alloc (.cells #[.int .i64 k, .int .i64 i] 23) = Y at hbel hb0 hw hql ⊢
  have e0 : Y.drew.cell? ⟨w.heap.size, 0, none⟩ = some (.int .i64 k) := (cell_of_row _ _ _ _ _ _ hb0).trans rfl
  have e1 : Y.drew.cell? ⟨w.heap.size, 1, none⟩ = some (.int .i64 i) := (cell_of_row _ _ _ _ _ _ hb0).trans rfl
  have hql : w.heap.size < Y.drew.heap.size := hql
  generalize hq : w.heap.size = q at e0 e1 hql ⊢
  have hk12 : (k : Int) < 13 := by omega
  have hk0 : (0 : Int) ≤ (k : Int) := by omega
  have hc := hw.cell1 k (by omega)
  have hl := hw.lt
  obtain ⟨fe, hfe⟩ : ∃ fe, fe = (g k).fenced := ⟨_, rfl⟩
  rw [← hfe] at hc
  have HFE := Lib.hid hfe
  clear hfe
  go_region_held3 (fun x => x.cell? ⟨q, 0, none⟩ = some (.int .i64 k) ∧ x.cell? ⟨q, 1, none⟩ = some (.int .i64 i) ∧ x.cell? ⟨R, k * 4 + 1, none⟩ = some (.int .i64 fe)) (go_keep)
    ((go_at_call 27; (with_reducible refine (ref_may_any k i _).mono ?_); rintro e w1 ⟨rfl, hb⟩; rw [HM.out]; have e0 := (hb.cell (p := ⟨q, 0, none⟩) hql).trans e0; have e1 := (hb.cell (p := ⟨q, 1, none⟩) hql).trans e1; have hc := (hb.cell (p := ⟨R, k * 4 + 1, none⟩) hl).trans hc))
  go_wp2_with fail
  go_ret
  exact ⟨by rw [← HFE.out]; rfl, then_below (below_drewN hbel 1) hb⟩
theorem rfenced_any (R : Nat) (g : Int → Peer) (a i : Int) (w : World) (h : Rl R g w) :
    Calls Try.prog 22 #[.pointer (some ⟨R, 0, none⟩), .agg #[.int .i64 a, .int .i64 i]] w fun e w' => e = .returned (.bool (fencedB g a i)) ∧ Below w.heap.size w w' := by
  cases hm : mayB a i
  · exact rfenced_no R g a i w hm
  · have hd : 1 ≤ a ∧ a ≤ 12 ∧ 1 ≤ i ∧ i ≤ 1048576 := by simpa [mayB] using hm
    obtain ⟨k, rfl⟩ : ∃ k : Nat, a = k := ⟨a.toNat, by omega⟩
    exact rfenced_yes R g k i w h hm
end Go.Proofs.Ytacmplomahmaiaa
