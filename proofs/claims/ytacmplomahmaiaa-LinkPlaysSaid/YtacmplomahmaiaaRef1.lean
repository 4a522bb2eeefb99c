/-
  The document's links: what they are; Newest, Fenced, Fence.
-/
import Derived.Test.YtacmplomahmaiaaWalks3
namespace Go.Proofs.Ytacmplomahmaiaa
open Go.RowKit
set_option linter.unusedVariables false
set_option linter.unusedSimpArgs false
attribute [local go_sem ↓] Go.wp_at_zero Go.wp_at_succ
/-- The block R holds what g tells of the addresses 0 to 12. -/
structure Rl (R : Nat) (g : Int → Peer) (w : World) : Prop where
  lt : R < w.heap.size
  cell0 : ∀ k : Nat, k ≤ 12 → w.cell? ⟨R, k * 4, none⟩ = some (.int .i64 (g k).newest)
  cell1 : ∀ k : Nat, k ≤ 12 → w.cell? ⟨R, k * 4 + 1, none⟩ = some (.int .i64 (g k).fenced)
  cell2 : ∀ k : Nat, k ≤ 12 → w.cell? ⟨R, k * 4 + 2, none⟩ = some (.int .i64 (g k).beat)
  cell3 : ∀ k : Nat, k ≤ 12 → w.cell? ⟨R, k * 4 + 3, none⟩ = some (.int .i64 (g k).reply)
  free : ∀ j : Nat, j < 52 → w.frozen? ⟨R, j, none⟩ = false
  row : ∃ cs : Array Value, w.heap[R]? = some (.cells cs 63 (0, 0)) ∧ cs.size = 52
section
variable {R : Nat} {g : Int → Peer} {w w' : World}
theorem Rl.same (h : Rl R g w) (hs : w.heap.size ≤ w'.heap.size) (hb : w'.heap[R]? = w.heap[R]?) : Rl R g w' := by
  have hc : ∀ o, w'.cell? ⟨R, o, none⟩ = w.cell? ⟨R, o, none⟩ := fun o => World.cell?_of_block hb
  have hf : ∀ o, w'.frozen? ⟨R, o, none⟩ = w.frozen? ⟨R, o, none⟩ := fun o => by unfold World.frozen?; simp only [hb]
  exact ⟨Nat.lt_of_lt_of_le h.lt hs, fun k hk => (hc _).trans (h.cell0 k hk), fun k hk => (hc _).trans (h.cell1 k hk), fun k hk => (hc _).trans (h.cell2 k hk), fun k hk => (hc _).trans (h.cell3 k hk), fun j hj => (hf _).trans (h.free j hj), by obtain ⟨cs, h1, h2⟩ := h.row; exact ⟨cs, hb.trans h1, h2⟩⟩
theorem Rl.kept (h : Rl R g w) (hb : Below w.heap.size w w') : Rl R g w' := h.same hb.size (hb.block _ h.lt)
theorem Rl.alloc (h : Rl R g w) (o : Obj) : Rl R g (w.alloc o) := h.kept ((Below.refl _ _).alloc (Nat.le_refl _) o)
theorem Rl.drew (h : Rl R g w) : Rl R g w.drew := h.same (Nat.le_refl _) rfl
theorem Rl.setNewest (h : Rl R g w) (a : Nat) (ha : a ≤ 12) (i : Int) : Rl R (set g a { g a with newest := i }) (w.setCell ⟨R, a * 4, none⟩ (.int .i64 i)) where
  lt := by simpa using h.lt
  cell0 := fun k hk => by
    by_cases e : k = a
    · subst e
      rw [World.cell?_setCell_same _ _ _ (h.cell0 k hk)]
      simp [set]
    · rw [World.cell?_setCell_other _ _ _ _ (by simp; try omega), h.cell0 k hk]
      unfold set; rw [if_neg (by omega)]
  cell1 := fun k hk => by
    rw [World.cell?_setCell_other _ _ _ _ (by simp; try omega), h.cell1 k hk]
    unfold set; split
    · rename_i e; rw [← e]
    · rfl
  cell2 := fun k hk => by
    rw [World.cell?_setCell_other _ _ _ _ (by simp; try omega), h.cell2 k hk]
    unfold set; split
    · rename_i e; rw [← e]
    · rfl
  cell3 := fun k hk => by
    rw [World.cell?_setCell_other _ _ _ _ (by simp; try omega), h.cell3 k hk]
    unfold set; split
    · rename_i e; rw [← e]
    · rfl
  free := fun j hj => by
    have := h.free j hj
    rw [← this]; simp
  row := by
    obtain ⟨cs, h1, h2⟩ := h.row
    exact ⟨_, heap_setCell_same _ _ _ _ _ _ h1, by simp [h2]⟩
theorem Rl.setFenced (h : Rl R g w) (a : Nat) (ha : a ≤ 12) (i : Int) : Rl R (set g a { g a with fenced := i }) (w.setCell ⟨R, a * 4 + 1, none⟩ (.int .i64 i)) where
  lt := by simpa using h.lt
  cell0 := fun k hk => by
    rw [World.cell?_setCell_other _ _ _ _ (by simp; try omega), h.cell0 k hk]
    unfold set; split
    · rename_i e; rw [← e]
    · rfl
  cell1 := fun k hk => by
    by_cases e : k = a
    · subst e
      rw [World.cell?_setCell_same _ _ _ (h.cell1 k hk)]
      simp [set]
    · rw [World.cell?_setCell_other _ _ _ _ (by simp; try omega), h.cell1 k hk]
      unfold set; rw [if_neg (by omega)]
  cell2 := fun k hk => by
    rw [World.cell?_setCell_other _ _ _ _ (by simp; try omega), h.cell2 k hk]
    unfold set; split
    · rename_i e; rw [← e]
    · rfl
  cell3 := fun k hk => by
    rw [World.cell?_setCell_other _ _ _ _ (by simp; try omega), h.cell3 k hk]
    unfold set; split
    · rename_i e; rw [← e]
    · rfl
  free := fun j hj => by
    have := h.free j hj
    rw [← this]; simp
  row := by
    obtain ⟨cs, h1, h2⟩ := h.row
    exact ⟨_, heap_setCell_same _ _ _ _ _ _ h1, by simp [h2]⟩
theorem Rl.setBeat (h : Rl R g w) (a : Nat) (ha : a ≤ 12) (i : Int) : Rl R (set g a { g a with beat := i }) (w.setCell ⟨R, a * 4 + 2, none⟩ (.int .i64 i)) where
  lt := by simpa using h.lt
  cell0 := fun k hk => by
    rw [World.cell?_setCell_other _ _ _ _ (by simp; try omega), h.cell0 k hk]
    unfold set; split
    · rename_i e; rw [← e]
    · rfl
  cell1 := fun k hk => by
    rw [World.cell?_setCell_other _ _ _ _ (by simp; try omega), h.cell1 k hk]
    unfold set; split
    · rename_i e; rw [← e]
    · rfl
  cell2 := fun k hk => by
    by_cases e : k = a
    · subst e
      rw [World.cell?_setCell_same _ _ _ (h.cell2 k hk)]
      simp [set]
    · rw [World.cell?_setCell_other _ _ _ _ (by simp; try omega), h.cell2 k hk]
      unfold set; rw [if_neg (by omega)]
  cell3 := fun k hk => by
    rw [World.cell?_setCell_other _ _ _ _ (by simp; try omega), h.cell3 k hk]
    unfold set; split
    · rename_i e; rw [← e]
    · rfl
  free := fun j hj => by
    have := h.free j hj
    rw [← this]; simp
  row := by
    obtain ⟨cs, h1, h2⟩ := h.row
    exact ⟨_, heap_setCell_same _ _ _ _ _ _ h1, by simp [h2]⟩
theorem Rl.setReply (h : Rl R g w) (a : Nat) (ha : a ≤ 12) (i : Int) : Rl R (set g a { g a with reply := i }) (w.setCell ⟨R, a * 4 + 3, none⟩ (.int .i64 i)) where
  lt := by simpa using h.lt
  cell0 := fun k hk => by
    rw [World.cell?_setCell_other _ _ _ _ (by simp; try omega), h.cell0 k hk]
    unfold set; split
    · rename_i e; rw [← e]
    · rfl
  cell1 := fun k hk => by
    rw [World.cell?_setCell_other _ _ _ _ (by simp; try omega), h.cell1 k hk]
    unfold set; split
    · rename_i e; rw [← e]
    · rfl
  cell2 := fun k hk => by
    rw [World.cell?_setCell_other _ _ _ _ (by simp; try omega), h.cell2 k hk]
    unfold set; split
    · rename_i e; rw [← e]
    · rfl
  cell3 := fun k hk => by
    by_cases e : k = a
    · subst e
      rw [World.cell?_setCell_same _ _ _ (h.cell3 k hk)]
      simp [set]
    · rw [World.cell?_setCell_other _ _ _ _ (by simp; try omega), h.cell3 k hk]
      unfold set; rw [if_neg (by omega)]
  free := fun j hj => by
    have := h.free j hj
    rw [← this]; simp
  row := by
    obtain ⟨cs, h1, h2⟩ := h.row
    exact ⟨_, heap_setCell_same _ _ _ _ _ _ h1, by simp [h2]⟩
end
set_option maxRecDepth 100000 in
set_option maxHeartbeats 4000000 in
theorem rnewest_any (R : Nat) (g : Int → Peer) (a : Int) (w : World) (h : Rl R g w) (hz : ¬ (1 ≤ a ∧ a ≤ 12) → (g a).newest = 0) :
    Calls Try.prog 23 #[.pointer (some ⟨R, 0, none⟩), .int .i64 a] w fun e w' => e = .returned (.int .i64 (g a).newest) ∧ w' = w := by
  by_cases ha : 1 ≤ a ∧ a ≤ 12
  · obtain ⟨k, rfl⟩ : ∃ k : Nat, a = k := ⟨a.toNat, by omega⟩
    have hc := h.cell0 k (by omega)
    obtain ⟨h1, h2⟩ := ha
    go_enter Try.func23, Try.ntmps23
    go_wp2
    go_ret
    exact ⟨rfl, rfl⟩
  · rw [hz ha]
    clear hz
    by_cases h1 : a < 1
    · clear ha
      go_enter Try.func23, Try.ntmps23
      go_wp2
      go_ret
      exact ⟨rfl, rfl⟩
    · have h2 : 12 < a := by omega
      have h1 : 1 ≤ a := by omega
      clear ha
      go_enter Try.func23, Try.ntmps23
      go_wp2
      go_ret
      exact ⟨rfl, rfl⟩
theorem ref_may_exact (a i : Int) (w : World) :
    Calls Try.prog 27 #[.agg #[.int .i64 a, .int .i64 i]] w fun e w' => e = .returned (.bool (mayB a i)) ∧ w' = w.alloc (.cells #[.int .i64 a, .int .i64 i] 23) := by
  go_enter Try.func27, Try.ntmps27
  go_wp2
  all_goals
    go_ret
    refine ⟨ret_b ?_, rfl⟩
    unfold mayB
    first
      | (simp [*]; done)
      | (symm; apply decide_eq_false; omega)
set_option maxRecDepth 100000 in
set_option maxHeartbeats 4000000 in
theorem rfence_any (R : Nat) (g : Int → Peer) (a i : Int) (w : World) (h : Rl R g w) :
    Calls Try.prog 20 #[.pointer (some ⟨R, 0, none⟩), .agg #[.int .i64 a, .int .i64 i]] w fun e w' => e = .returned (.int .i64 (fenceE a i)) ∧ Rl R (fenceF g a i) w' ∧ Keep R w w' := by
  cases hm : mayB a i
  · have HE : fenceE a i = 4 := by unfold fenceE; rw [hm]; rfl
    have HF : fenceF g a i = g := by unfold fenceF; rw [hm]; rfl
    rw [HE, HF]
    clear HE HF
    go_enter Try.func20, Try.ntmps20
    go_wp2_with fail
    refine (ref_may_exact a i _).mono ?_
    rintro e w1 ⟨rfl, rfl⟩
    rw [hm]
    go_wp2_with fail
    go_ret
    exact ⟨rfl, (h.alloc _).alloc _, ((Keep.refl R w).alloc _).alloc _⟩
  · have hd : 1 ≤ a ∧ a ≤ 12 ∧ 1 ≤ i ∧ i ≤ 1048576 := by simpa [mayB] using hm
    obtain ⟨a1, a2, i1, i2⟩ := hd
    obtain ⟨k, rfl⟩ : ∃ k : Nat, a = k := ⟨a.toNat, by omega⟩
    have HE : fenceE k i = 0 := by unfold fenceE; rw [hm]; rfl
    rw [HE]
    clear HE
    have hw := (h.alloc (.cells #[.int .i64 k, .int .i64 i] 23)).alloc (.cells #[.int .i64 k, .int .i64 i] 23)
    have hK := ((Keep.refl R w).alloc (.cells #[.int .i64 k, .int .i64 i] 23)).alloc (.cells #[.int .i64 k, .int .i64 i] 23)
    have hlt := h.lt
    have hb0 : ((w.alloc (.cells #[.int .i64 k, .int .i64 i] 23)).alloc (.cells #[.int .i64 k, .int .i64 i] 23)).heap[w.heap.size]? = some (.cells #[.int .i64 k, .int .i64 i] 23 (0, 0)) := (Below.heap_alloc _ _ _ (by simp)).trans (heap_alloc_new _ _)
    have hqR : w.heap.size ≠ R := by omega
    have hql : w.heap.size < ((w.alloc (.cells #[.int .i64 k, .int .i64 i] 23)).alloc (.cells #[.int .i64 k, .int .i64 i] 23)).heap.size := by simp; omega
    have HM := Lib.hid hm
    go_enter Try.func20, Try.ntmps20
    go_wp2_with fail
    refine (ref_may_exact k i _).mono ?_
    rintro e w1 ⟨rfl, rfl⟩
    rw [HM.out]
    clear hm h hlt
    go_wp2_with fail
    generalize (w.alloc (.cells #[.int .i64 k, .int .i64 i] 23)).alloc (.cells #[.int .i64 k, .int .i64 i] 23) = Y at hw hK hb0 hql ⊢
    have e0 : Y.cell? ⟨w.heap.size, 0, none⟩ = some (.int .i64 k) := (cell_of_row _ _ _ _ _ _ hb0).trans rfl
    have e1 : Y.cell? ⟨w.heap.size, 1, none⟩ = some (.int .i64 i) := (cell_of_row _ _ _ _ _ _ hb0).trans rfl
    generalize w.heap.size = q at e0 e1 hqR ⊢
    clear hb0 hql
    have hk12 : (k : Int) < 13 := by omega
    have hk0 : (0 : Int) ≤ (k : Int) := by omega
    have hc := hw.cell1 k (by omega)
    have hfF : fenceF g k i = set g k ((g k).fence i) := by unfold fenceF; rw [if_pos HM.out]
    have HF := Lib.hid hfF
    clear hfF
    obtain ⟨fe, hfe⟩ : ∃ fe, fe = (g k).fenced := ⟨_, rfl⟩
    rw [← hfe] at hc
    have HFE := Lib.hid hfe
    clear hfe
    by_cases hlt : fe < i
    · go_quiet (fail)
      have hw2 := hw.same (w' := Y.drewN nq) (Nat.le_refl _) rfl
      have hK2 := hK.drewN nq
      have z0 : (Y.drewN nq).cell? ⟨q, 0, none⟩ = some (.int .i64 k) := e0
      have z1 : (Y.drewN nq).cell? ⟨q, 1, none⟩ = some (.int .i64 i) := e1
      clear e0 e1 hc hw hK
      generalize Y.drewN nq = Z at hw2 hK2 z0 z1 ⊢
      have hf := hw2.drew.free (k * 4 + 1) (by omega)
      have hc2 : Z.cell? ⟨R, k * 4 + 1, none⟩ = some (.int .i64 fe) := by rw [HFE.out]; exact hw2.cell1 k (by omega)
      go_wp2_with fail
      go_region_with (fail)
      all_goals
        go_wp2_with fail
        go_ret
        refine ⟨rfl, ?_, ?_⟩
        · rw [HF.out]
          have : (g k).fence i = { g k with fenced := i } := by unfold Peer.fence; rw [← HFE.out, Int.max_eq_right (by omega)]
          rw [this]
          exact (hw2.setFenced k (by omega) i).drew
        · exact (hK2.setCell (.inl rfl) _).drew
    · go_quiet (fail)
      have hw2 := hw.same (w' := Y.drewN nq) (Nat.le_refl _) rfl
      have hK2 := hK.drewN nq
      clear e0 e1 hc hw hK
      generalize Y.drewN nq = Z at hw2 hK2 ⊢
      go_wp2_with fail
      go_ret
      refine ⟨rfl, ?_, hK2⟩
      rw [HF.out]
      have : (g k).fence i = g k := by unfold Peer.fence; rw [← HFE.out, Int.max_eq_left (by omega)]; rw [HFE.out]
      rw [this]
      have : set g k (g k) = g := by funext b; unfold set; split <;> simp_all
      rw [this]
      exact hw2
end Go.Proofs.Ytacmplomahmaiaa
