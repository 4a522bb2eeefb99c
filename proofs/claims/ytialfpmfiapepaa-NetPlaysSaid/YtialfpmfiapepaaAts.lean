/-
  The walks of the small functions, and of what is done to a frame.
-/
import Derived.Test.YtialfpmfiapepaaBend
namespace Go.Proofs.Ytialfpmfiapepaa
open Go.RowKit
set_option linter.unusedVariables false
set_option linter.unusedSimpArgs false
attribute [local go_sem ↓] Go.wp_at_zero Go.wp_at_succ
theorem new_yes (P : Nat) (m : Int) (w : World) (h1 : 1 ≤ m) (h2 : m ≤ 65536) (hP : P ≤ w.heap.size) :
    Calls Try.prog 10 #[.int .i64 m] w fun e w' => e = .returned (.tuple #[.pointer (some ⟨w.heap.size, 0, none⟩), .int .i64 0]) ∧ Nt P w.heap.size (.slice none 0 0) ⟨m, []⟩ w' ∧ Below w.heap.size w w' := by
  go_enter Try.func10, Try.ntmps10
  go_wp2
  go_ret2
  exact ⟨rfl, ⟨heap_alloc_new _ _, World.ownsRow_nil _ _ _ _, by simp [Value.ownBlock], ⟨h1, h2, by simp; omega⟩, hP⟩, (Below.refl _ _).alloc (Nat.le_refl _) _⟩
theorem new_no (m : Int) (w : World) (h : m < 1 ∨ 65536 < m) :
    Calls Try.prog 10 #[.int .i64 m] w fun e w' => e = .returned (.tuple #[.pointer none, .int .i64 1]) ∧ w' = w := by
  have hd : m < 1 ∨ (¬ m < 1 ∧ 65536 < m) := by omega
  clear h
  rcases hd with h | ⟨h, h'⟩
  all_goals
    go_enter Try.func10, Try.ntmps10
    go_wp2
    go_ret2
    exact ⟨rfl, rfl⟩
section
variable {P B : Nat} {v : Value} {n : N} {w : World}
theorem Nt.len_form (h : Nt P B v n w) : ∃ oa cap, v = .slice oa n.l.length cap := by
  rcases h.shape with ⟨rfl, e⟩ | ⟨g, cap, rfl, -⟩
  · exact ⟨none, 0, by rw [e]; rfl⟩
  · exact ⟨_, cap, rfl⟩
theorem Nt.in_form (h : Nt P B v n w) {k : Int} (hk : n.has k = true) : ∃ g cap j : Nat, v = .slice (some ⟨g, 0, none⟩) n.l.length cap ∧ k = (j : Int) ∧ j < n.l.length ∧ g < w.heap.size ∧ g ≠ B ∧ P ≤ g ∧ n.l.length ≤ cap ∧ cap ≤ 9223372036854775807 ∧ n.get k = n.l.getD j .zero := by
  have hk' : 0 ≤ k ∧ k < n.l.length := by simpa [N.has] using hk
  rcases h.shape with ⟨rfl, e⟩ | ⟨g, cap, rfl, hP, hgl, hnc, hcm, hgB⟩
  · rw [e] at hk'; simp at hk'; omega
  · exact ⟨g, cap, k.toNat, rfl, by omega, by omega, hgl, hgB, hP, hnc, hcm, by unfold N.get; rw [if_pos hk]⟩
end
theorem len_any (P B : Nat) (v : Value) (n : N) (w : World) (h : Nt P B v n w) :
    Calls Try.prog 11 #[.pointer (some ⟨B, 0, none⟩)] w fun e w' => e = .returned (.int .i64 n.l.length) ∧ w' = w := by
  obtain ⟨-, c1⟩ := h.reads
  obtain ⟨oa, cap, rfl⟩ := h.len_form
  go_enter Try.func11, Try.ntmps11
  go_wp2
  go_ret
  exact ⟨rfl, rfl⟩
theorem len_nil (w : World) : Calls Try.prog 11 #[.pointer none] w fun e w' => e = .returned (.int .i64 0) ∧ w' = w := by
  go_enter Try.func11, Try.ntmps11
  go_wp2
  go_ret
  exact ⟨rfl, rfl⟩
theorem send_any (P B : Nat) (v : Value) (n : N) (s : ByteArray) (d : Int) (w : World) (h : Nt P B v n w) :
    Calls Try.prog 12 #[.pointer (some ⟨B, 0, none⟩), .string s, .int .i64 d] w fun e w' => e = .returned (.bool n.full) ∧ Did P B v (n.push ⟨s, d, false⟩) w w' := by
  go_enter Try.func12, Try.ntmps12
  go_wp2_with fail
  refine (push_any P B v n ⟨s, d, false⟩ w h).mono ?_
  rintro e w1 ⟨rfl, hd⟩
  go_wp2_with fail
  go_ret
  exact ⟨rfl, hd⟩
theorem send_nil (s : ByteArray) (d : Int) (w : World) : Calls Try.prog 12 #[.pointer none, .string s, .int .i64 d] w fun e w' => e = .returned (.bool false) ∧ w' = w := by
  go_enter Try.func12, Try.ntmps12
  go_wp2
  go_ret
  exact ⟨rfl, rfl⟩
theorem at_nil (k : Int) (F : Value) (w : World) : Calls Try.prog 27 #[.pointer none, .int .i64 k, F] w fun e w' => e = .returned (.int .i64 2) ∧ w' = w := by
  go_enter Try.func27, Try.ntmps27
  go_wp2
  go_ret
  exact ⟨rfl, rfl⟩
theorem at_out (P B : Nat) (v : Value) (n : N) (k : Int) (F : Value) (w : World) (h : Nt P B v n w) (hk : n.has k = false) :
    Calls Try.prog 27 #[.pointer (some ⟨B, 0, none⟩), .int .i64 k, F] w fun e w' => e = .returned (.int .i64 5) ∧ w' = w := by
  obtain ⟨-, c1⟩ := h.reads
  obtain ⟨oa, cap, rfl⟩ := h.len_form
  have hk' : k < 0 ∨ (¬ k < 0 ∧ (n.l.length : Int) ≤ k) := by
    have : ¬ (0 ≤ k ∧ k < n.l.length) := by simpa [N.has] using hk
    omega
  clear h hk
  rcases hk' with hk | ⟨hk, hk2⟩
  all_goals
    go_enter Try.func27, Try.ntmps27
    go_wp2
    go_ret
    exact ⟨rfl, rfl⟩
theorem clo_lose (u : U) (w : World) : Calls Try.prog 28 #[.agg u.cells] w fun e w' => e = .returned (.agg u.cells) ∧ Below w.heap.size w w' := by
  obtain ⟨us, uto, ub⟩ := u
  simp only [U.cells]
  go_enter Try.func28, Try.ntmps28
  go_wp2
  refine bodyPost_ret (v := .agg #[.string us, .int .i64 uto, .bool ub]) (by simp [results, Try.results28, go_sem]) rfl ?_
  exact ⟨rfl, ((Below.refl _ _).alloc (Nat.le_refl _) _).alloc (by simp) _⟩
set_option maxHeartbeats 1000000 in
theorem clo_at (u : U) (B0 Q R : Nat) (x y : Value) (w : World) (hQ : w.heap[Q]? = some (.cells #[x] 9 (0, 0))) (hR : w.heap[R]? = some (.cells #[y] 3 (0, 0))) (h1 : B0 ≤ Q) (h2 : B0 ≤ R) (hne : Q ≠ R) :
    Calls Try.prog 30 #[.agg u.cells, .pointer (some ⟨Q, 0, none⟩), .pointer (some ⟨R, 0, none⟩)] w fun e w' => e = .returned (.agg u.cells) ∧ w'.heap[Q]? = some (.cells #[.string u.s] 9 (0, 0)) ∧ w'.heap[R]? = some (.cells #[.int .i64 u.to] 3 (0, 0)) ∧ w.heap.size ≤ w'.heap.size ∧ Below B0 w w' := by
  obtain ⟨us, uto, ub⟩ := u
  simp only [U.cells]
  have q0 : w.cell? ⟨Q, 0, none⟩ = some x := by rw [cell_of_row _ _ _ _ _ _ hQ]; rfl
  have r0 : w.cell? ⟨R, 0, none⟩ = some y := by rw [cell_of_row _ _ _ _ _ _ hR]; rfl
  have fq : w.frozen? ⟨Q, 0, none⟩ = false := frozen_of_row _ _ _ _ _ hQ
  have fr : w.frozen? ⟨R, 0, none⟩ = false := frozen_of_row _ _ _ _ _ hR
  have lq : Q < w.heap.size := (Array.getElem?_eq_some_iff.1 hQ).1
  have lr : R < w.heap.size := (Array.getElem?_eq_some_iff.1 hR).1
  have HQ := Lib.hid (And.intro hQ hR)
  clear hQ hR
  go_enter Try.func30, Try.ntmps30
  go_wp2
  go_region
  all_goals
    go_wp2
    refine bodyPost_ret (v := .agg #[.string us, .int .i64 uto, .bool ub]) (by simp [results, Try.results30, go_sem]) rfl ?_
    obtain ⟨hQ, hR⟩ := HQ.out
    refine ⟨rfl, ?_, ?_, by simp; omega, (((((Below.refl B0 w).setCell (p := ⟨Q, 0, none⟩) h1 _).setCell (p := ⟨R, 0, none⟩) h2 _).alloc (by simp; omega) _).alloc (by simp; omega) _).drew⟩
    · have e1 : ((w.setCell ⟨Q, 0, none⟩ (.string us)).setCell ⟨R, 0, none⟩ (.int .i64 uto)).heap[Q]? = some (.cells #[.string us] 9 (0, 0)) := by
        rw [Below.heap_setCell _ _ _ _ hne, heap_setCell_same _ _ _ _ _ _ hQ]; rfl
      show ((((w.setCell ⟨Q, 0, none⟩ (.string us)).setCell ⟨R, 0, none⟩ (.int .i64 uto)).alloc _).alloc _).heap[Q]? = _
      rw [Below.heap_alloc _ _ _ (by simp; omega), Below.heap_alloc _ _ _ (by simp; omega), e1]
    · have e1 : ((w.setCell ⟨Q, 0, none⟩ (.string us)).setCell ⟨R, 0, none⟩ (.int .i64 uto)).heap[R]? = some (.cells #[.int .i64 uto] 3 (0, 0)) := by
        have := (Below.heap_setCell w ⟨Q, 0, none⟩ (.string us) R (Ne.symm hne)).trans hR
        rw [heap_setCell_same _ _ _ _ _ _ this]; rfl
      show ((((w.setCell ⟨Q, 0, none⟩ (.string us)).setCell ⟨R, 0, none⟩ (.int .i64 uto)).alloc _).alloc _).heap[R]? = _
      rw [Below.heap_alloc _ _ _ (by simp; omega), Below.heap_alloc _ _ _ (by simp; omega), e1]
set_option maxHeartbeats 1000000 in
theorem clo_twice (u u0 : U) (B0 Q : Nat) (w : World) (hQ : w.heap[Q]? = some (.cells u0.cells 65 (0, 0))) (h1 : B0 ≤ Q) :
    Calls Try.prog 31 #[.agg u.cells, .pointer (some ⟨Q, 0, none⟩)] w fun e w' => e = .returned (.agg u.cells) ∧ w'.heap[Q]? = some (.cells u.cells 65 (0, 0)) ∧ w.heap.size ≤ w'.heap.size ∧ Below B0 w w' := by
  obtain ⟨us, uto, ub⟩ := u
  obtain ⟨vs, vto, vb⟩ := u0
  simp only [U.cells] at hQ ⊢
  have q0 : w.cell? ⟨Q, 0, none⟩ = some (.string vs) := by rw [cell_of_row _ _ _ _ _ _ hQ]; rfl
  have q1 : w.cell? ⟨Q, 1, none⟩ = some (.int .i64 vto) := by rw [cell_of_row _ _ _ _ _ _ hQ]; rfl
  have q2 : w.cell? ⟨Q, 2, none⟩ = some (.bool vb) := by rw [cell_of_row _ _ _ _ _ _ hQ]; rfl
  have fq := fun o => frozen_of_row w Q o _ _ hQ
  have lq : Q < w.heap.size := (Array.getElem?_eq_some_iff.1 hQ).1
  have HQ := Lib.hid hQ
  clear hQ
  go_enter Try.func31, Try.ntmps31
  go_wp2
  refine bodyPost_ret (v := .agg #[.string us, .int .i64 uto, .bool ub]) (by simp [results, Try.results31, go_sem]) rfl ?_
  refine ⟨rfl, ?_, by simp; omega, (((((Below.refl B0 w).setCell (p := ⟨Q, 0, none⟩) h1 _).setCell (p := ⟨Q, 1, none⟩) h1 _).setCell (p := ⟨Q, 2, none⟩) h1 _).alloc (by simp; omega) _).alloc (by simp; omega) _⟩
  rw [Below.heap_alloc _ _ _ (by simp; omega), Below.heap_alloc _ _ _ (by simp; omega), heap_setCell_same _ _ _ _ _ _ (heap_setCell_same _ _ _ _ _ _ (heap_setCell_same _ _ _ _ _ _ HQ.out))]
  rfl
set_option maxRecDepth 100000 in
set_option maxHeartbeats 1000000 in
theorem at_lose (P B : Nat) (v : Value) (n : N) (k : Int) (w : World) (h : Nt P B v n w) (hk : n.has k = true) :
    Calls Try.prog 27 #[.pointer (some ⟨B, 0, none⟩), .int .i64 k, .func (.func 28) #[] #[]] w fun e w' => e = .returned (.int .i64 0) ∧ Below w.heap.size w w' := by
  obtain ⟨-, c1⟩ := h.reads
  have hlt := h.lt
  obtain ⟨g, cap, j, rfl, rfl, hj, hgl, hgB, hPg, hnc, hcm, hget⟩ := h.in_form hk
  obtain ⟨q0, q1, q2⟩ := h.at_ j hj
  generalize n.l[j] = u at q0 q1 q2
  obtain ⟨us, uto, ub⟩ := u
  clear h hk
  go_enter Try.func27, Try.ntmps27
  go_wp2_with fail
  refine (clo_lose ⟨us, uto, ub⟩ w).mono ?_
  rintro e w1 ⟨rfl, hb⟩
  have c1 := (hb.cell (p := ⟨B, 1, none⟩) hlt).trans c1
  have q0 := (hb.cell (p := ⟨g, j * 3, none⟩) hgl).trans q0
  have q1 := (hb.cell (p := ⟨g, j * 3 + 1, none⟩) hgl).trans q1
  have q2 := (hb.cell (p := ⟨g, j * 3 + 2, none⟩) hgl).trans q2
  have hs := hb.size
  have hgl1 : g < w1.heap.size := by omega
  have hlt1 : B < w1.heap.size := by omega
  simp only [U.cells]
  go_wp2_with fail
  go_region
  all_goals
    go_wp2_with fail
    go_ret
    exact ⟨rfl, (hb.alloc hs _).drew⟩
set_option maxRecDepth 100000 in
set_option maxHeartbeats 1000000 in
theorem at_at (P B : Nat) (v : Value) (n : N) (k : Int) (B0 Q R : Nat) (x y : Value) (w : World) (h : Nt P B v n w) (hk : n.has k = true) (hB : B < B0) (hv : ∀ g, v.ownBlock = some g → g < B0)
    (hQ : w.heap[Q]? = some (.cells #[x] 9 (0, 0))) (hR : w.heap[R]? = some (.cells #[y] 3 (0, 0))) (h1 : B0 ≤ Q) (h2 : B0 ≤ R) (hne : Q ≠ R) :
    Calls Try.prog 27 #[.pointer (some ⟨B, 0, none⟩), .int .i64 k, .func (.func 30) #[] #[.pointer (some ⟨Q, 0, none⟩), .pointer (some ⟨R, 0, none⟩)]] w fun e w' => e = .returned (.int .i64 0) ∧ w'.heap[Q]? = some (.cells #[.string (n.get k).s] 9 (0, 0)) ∧ w'.heap[R]? = some (.cells #[.int .i64 (n.get k).to] 3 (0, 0)) ∧ w.heap.size ≤ w'.heap.size ∧ Below B0 w w' := by
  have lq : Q < w.heap.size := (Array.getElem?_eq_some_iff.1 hQ).1
  have lr : R < w.heap.size := (Array.getElem?_eq_some_iff.1 hR).1
  obtain ⟨-, c1⟩ := h.reads
  have hlt := h.lt
  obtain ⟨g, cap, j, rfl, rfl, hj, hgl, hgB, hPg, hnc, hcm, hget⟩ := h.in_form hk
  have hgj : n.get (j : Int) = n.l[j] := by rw [hget, List.getD_eq_getElem?_getD, List.getElem?_eq_getElem hj]; rfl
  rw [hgj]
  have hgB0 : g < B0 := hv g rfl
  obtain ⟨q0, q1, q2⟩ := h.at_ j hj
  generalize n.l[j] = u at q0 q1 q2 ⊢
  obtain ⟨us, uto, ub⟩ := u
  clear h hk hgj hget hv
  go_enter Try.func27, Try.ntmps27
  go_wp2_with fail
  refine (clo_at ⟨us, uto, ub⟩ B0 Q R x y w hQ hR h1 h2 hne).mono ?_
  clear hQ hR
  rintro e w1 ⟨rfl, hQ, hR, hs, hb⟩
  have HX := Lib.hid (And.intro hQ hR)
  clear hQ hR
  have c1 := (hb.cell (p := ⟨B, 1, none⟩) hB).trans c1
  have q0 := (hb.cell (p := ⟨g, j * 3, none⟩) hgB0).trans q0
  have q1 := (hb.cell (p := ⟨g, j * 3 + 1, none⟩) hgB0).trans q1
  have q2 := (hb.cell (p := ⟨g, j * 3 + 2, none⟩) hgB0).trans q2
  have hgl1 : g < w1.heap.size := by omega
  have hlt1 : B < w1.heap.size := by omega
  simp only [U.cells]
  go_wp2_with fail
  go_region
  all_goals
    go_wp2_with fail
    go_ret
    refine ⟨rfl, ?_, ?_, by simp; omega, (hb.alloc (by omega) _).drew⟩
    · show (w1.alloc _).heap[Q]? = _
      rw [Below.heap_alloc _ _ _ (by omega)]; exact HX.out.1
    · show (w1.alloc _).heap[R]? = _
      rw [Below.heap_alloc _ _ _ (by omega)]; exact HX.out.2
set_option maxRecDepth 100000 in
set_option maxHeartbeats 1000000 in
theorem at_twice (P B : Nat) (v : Value) (n : N) (k : Int) (B0 Q : Nat) (u0 : U) (w : World) (h : Nt P B v n w) (hk : n.has k = true) (hB : B < B0) (hv : ∀ g, v.ownBlock = some g → g < B0)
    (hQ : w.heap[Q]? = some (.cells u0.cells 65 (0, 0))) (h1 : B0 ≤ Q) :
    Calls Try.prog 27 #[.pointer (some ⟨B, 0, none⟩), .int .i64 k, .func (.func 31) #[] #[.pointer (some ⟨Q, 0, none⟩)]] w fun e w' => e = .returned (.int .i64 0) ∧ w'.heap[Q]? = some (.cells (n.get k).cells 65 (0, 0)) ∧ w.heap.size ≤ w'.heap.size ∧ Below B0 w w' := by
  have lq : Q < w.heap.size := (Array.getElem?_eq_some_iff.1 hQ).1
  obtain ⟨-, c1⟩ := h.reads
  have hlt := h.lt
  obtain ⟨g, cap, j, rfl, rfl, hj, hgl, hgB, hPg, hnc, hcm, hget⟩ := h.in_form hk
  have hgj : n.get (j : Int) = n.l[j] := by rw [hget, List.getD_eq_getElem?_getD, List.getElem?_eq_getElem hj]; rfl
  rw [hgj]
  have hgB0 : g < B0 := hv g rfl
  obtain ⟨q0, q1, q2⟩ := h.at_ j hj
  generalize n.l[j] = u at q0 q1 q2 ⊢
  obtain ⟨us, uto, ub⟩ := u
  clear h hk hgj hget hv
  go_enter Try.func27, Try.ntmps27
  go_wp2_with fail
  refine (clo_twice ⟨us, uto, ub⟩ u0 B0 Q w hQ h1).mono ?_
  clear hQ
  rintro e w1 ⟨rfl, hQ, hs, hb⟩
  have HX := Lib.hid hQ
  clear hQ
  have c1 := (hb.cell (p := ⟨B, 1, none⟩) hB).trans c1
  have q0 := (hb.cell (p := ⟨g, j * 3, none⟩) hgB0).trans q0
  have q1 := (hb.cell (p := ⟨g, j * 3 + 1, none⟩) hgB0).trans q1
  have q2 := (hb.cell (p := ⟨g, j * 3 + 2, none⟩) hgB0).trans q2
  have hgl1 : g < w1.heap.size := by omega
  have hlt1 : B < w1.heap.size := by omega
  simp only [U.cells]
  go_wp2_with fail
  go_region
  all_goals
    go_wp2_with fail
    go_ret
    refine ⟨rfl, ?_, by simp; omega, (hb.alloc (by omega) _).drew⟩
    show (w1.alloc _).heap[Q]? = _
    rw [Below.heap_alloc _ _ _ (by omega)]; exact HX.out
end Go.Proofs.Ytialfpmfiapepaa
