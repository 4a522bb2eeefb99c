/-
  The walks of the copy of rows.
-/
import Derived.Test.YtjdhdmljchnidaaClones
namespace Go.Proofs.Ytjdhdmljchnidaa
open Go.RowKit
set_option linter.unusedVariables false
set_option linter.unusedSimpArgs false
attribute [local go_sem ↓] Go.wp_at_zero Go.wp_at_succ
theorem both_new (w : World) (a b : Obj) : ((w.alloc a).alloc b).heap[w.heap.size]? = some a ∧ ((w.alloc a).alloc b).heap[w.heap.size + 1]? = some b := by
  constructor
  · rw [Below.heap_alloc _ _ _ (by simp)]; exact heap_alloc_new _ _
  · rw [show w.heap.size + 1 = (w.alloc a).heap.size by simp]; exact heap_alloc_new _ _
set_option maxRecDepth 100000 in
set_option maxHeartbeats 1000000 in
theorem row_own {P lo hi : Nat} (ra ri rv : Int) (a : Option Addr) (n c : Nat) (l : List ID2) (w : World) (h : Rd elI P lo hi ⟨a, n, c⟩ l w) (hl : l.length ≤ 100000) :
    Calls Try.prog 41 #[.agg #[.int .i64 ra, .int .i64 ri, .int .i64 rv, .slice a n c]] w fun e w' => ∃ s' : SL, e = .returned (.agg #[.int .i64 ra, .int .i64 ri, .int .i64 rv, .slice s'.a s'.n s'.c]) ∧ Rd elI P w.heap.size w'.heap.size s' l w' ∧ Below w.heap.size w w' := by
  have hb0 : Below w.heap.size w ((w.alloc (.cells #[.int .i64 ra, .int .i64 ri, .int .i64 rv, .slice a n c] 77)).alloc (.cells #[.int .i64 0, .int .i64 0, .int .i64 0, .slice none 0 0] 77)) := ((Below.refl _ _).alloc (Nat.le_refl _) _).alloc (by simp) _
  have hx := h.below hb0
  have hsz : w.heap.size + 2 ≤ ((w.alloc (.cells #[.int .i64 ra, .int .i64 ri, .int .i64 rv, .slice a n c] 77)).alloc (.cells #[.int .i64 0, .int .i64 0, .int .i64 0, .slice none 0 0] 77)).heap.size := by simp
  obtain ⟨q0, q1⟩ := both_new w (.cells #[.int .i64 ra, .int .i64 ri, .int .i64 rv, .slice a n c] 77) (.cells #[.int .i64 0, .int .i64 0, .int .i64 0, .slice none 0 0] 77)
  clear h
  have HX := Lib.hid (And.intro hb0 (And.intro hx (And.intro hsz (And.intro q0 q1))))
  clear hb0 hx hsz q0 q1
  go_enter Try.func41, Try.ntmps41
  go_wp2_with fail
  obtain ⟨hb0, hx, hsz, q0, q1⟩ := HX.out
  generalize ((w.alloc (.cells #[.int .i64 ra, .int .i64 ri, .int .i64 rv, .slice a n c] 77)).alloc (.cells #[.int .i64 0, .int .i64 0, .int .i64 0, .slice none 0 0] 77)) = Y at hb0 hx hsz q0 q1 ⊢
  clear HX
  refine (clone_ids ⟨a, n, c⟩ l _ hx hl).mono ?_
  rintro e w1 ⟨⟨a1, n1, c1⟩, rfl, hR, hb⟩
  have p0 := (hb.block _ (by omega)).trans q0
  have p1 := (hb.block _ (by omega)).trans q1
  have hR := hR.wide (lo' := w.heap.size + 2) hsz (Nat.le_refl _)
  have hbw := hb0.trans (hb.mono hb0.size)
  have hs1 := Nat.le_trans hsz hb.size
  clear hb hb0 hx hsz q0 q1
  generalize hq : w.heap.size = q at p0 p1 hR hbw hs1 ⊢
  have x0 : w1.cell? ⟨q, 0, none⟩ = some (.int .i64 ra) := (cell_of_row _ _ _ _ _ _ p0).trans rfl
  have x1 : w1.cell? ⟨q, 1, none⟩ = some (.int .i64 ri) := (cell_of_row _ _ _ _ _ _ p0).trans rfl
  have x2 : w1.cell? ⟨q, 2, none⟩ = some (.int .i64 rv) := (cell_of_row _ _ _ _ _ _ p0).trans rfl
  have x3 : w1.cell? ⟨q, 3, none⟩ = some (.slice a n c) := (cell_of_row _ _ _ _ _ _ p0).trans rfl
  have y0 : w1.cell? ⟨q + 1, 0, none⟩ = some (.int .i64 0) := (cell_of_row _ _ _ _ _ _ p1).trans rfl
  have y1 : w1.cell? ⟨q + 1, 1, none⟩ = some (.int .i64 0) := (cell_of_row _ _ _ _ _ _ p1).trans rfl
  have y2 : w1.cell? ⟨q + 1, 2, none⟩ = some (.int .i64 0) := (cell_of_row _ _ _ _ _ _ p1).trans rfl
  have y3 : w1.cell? ⟨q + 1, 3, none⟩ = some (.slice none 0 0) := (cell_of_row _ _ _ _ _ _ p1).trans rfl
  have fz := fun o => frozen_of_row w1 q o _ _ p0
  have fy := fun o => frozen_of_row w1 (q + 1) o _ _ p1
  have hbw : Below w.heap.size w w1 := by rw [hq]; exact hbw
  have hZb : Below w.heap.size w (((((w1.setCell ⟨q, 3, none⟩ (.slice a1 n1 c1)).setCell ⟨q + 1, 0, none⟩ (.int .i64 ra)).setCell ⟨q + 1, 1, none⟩ (.int .i64 ri)).setCell ⟨q + 1, 2, none⟩ (.int .i64 rv)).setCell ⟨q + 1, 3, none⟩ (.slice a1 n1 c1)) :=
    ((((hbw.setCell (p := ⟨q, 3, none⟩) (by simp [hq]) _).setCell (p := ⟨q + 1, 0, none⟩) (by simp [hq]) _).setCell (p := ⟨q + 1, 1, none⟩) (by simp [hq]) _).setCell (p := ⟨q + 1, 2, none⟩) (by simp [hq]) _).setCell (p := ⟨q + 1, 3, none⟩) (by simp [hq]) _
  have hZ1 : (((((w1.setCell ⟨q, 3, none⟩ (.slice a1 n1 c1)).setCell ⟨q + 1, 0, none⟩ (.int .i64 ra)).setCell ⟨q + 1, 1, none⟩ (.int .i64 ri)).setCell ⟨q + 1, 2, none⟩ (.int .i64 rv)).setCell ⟨q + 1, 3, none⟩ (.slice a1 n1 c1)).heap[q + 1]? = some (.cells #[.int .i64 ra, .int .i64 ri, .int .i64 rv, .slice a1 n1 c1] 77 (0, 0)) := by
    have p2 : (w1.setCell ⟨q, 3, none⟩ (.slice a1 n1 c1)).heap[q + 1]? = some (.cells #[.int .i64 0, .int .i64 0, .int .i64 0, .slice none 0 0] 77 (0, 0)) := (Below.heap_setCell w1 ⟨q, 3, none⟩ _ (q + 1) (by simp)).trans p1
    have h0 := heap_setCell_same _ _ 0 _ _ (.int .i64 ra) p2
    have h1 := heap_setCell_same _ _ 1 _ _ (.int .i64 ri) h0
    have h2 := heap_setCell_same _ _ 2 _ _ (.int .i64 rv) h1
    have h3 := heap_setCell_same _ _ 3 _ _ (.slice a1 n1 c1) h2
    exact h3
  have hZR : Rd elI P w.heap.size w1.heap.size ⟨a1, n1, c1⟩ l (((((w1.setCell ⟨q, 3, none⟩ (.slice a1 n1 c1)).setCell ⟨q + 1, 0, none⟩ (.int .i64 ra)).setCell ⟨q + 1, 1, none⟩ (.int .i64 ri)).setCell ⟨q + 1, 2, none⟩ (.int .i64 rv)).setCell ⟨q + 1, 3, none⟩ (.slice a1 n1 c1)) := by
    refine (hR.same (by simp [World.setCell]) ?_).wide (by omega) (Nat.le_refl _)
    intro k k1 k2 k3 k4
    have e1 : k ≠ q := by omega
    have e2 : k ≠ q + 1 := by omega
    rw [Below.heap_setCell _ _ _ _ e2, Below.heap_setCell _ _ _ _ e2, Below.heap_setCell _ _ _ _ e2, Below.heap_setCell _ _ _ _ e2, Below.heap_setCell _ _ _ _ e1]
  have hZs : w1.heap.size ≤ (((((w1.setCell ⟨q, 3, none⟩ (.slice a1 n1 c1)).setCell ⟨q + 1, 0, none⟩ (.int .i64 ra)).setCell ⟨q + 1, 1, none⟩ (.int .i64 ri)).setCell ⟨q + 1, 2, none⟩ (.int .i64 rv)).setCell ⟨q + 1, 3, none⟩ (.slice a1 n1 c1)).heap.size := by simp [World.setCell]
  have HW := Lib.hid (And.intro hZb (And.intro hZ1 (And.intro hZR hZs)))
  clear hR hbw p0 p1 hs1 hq hZb hZ1 hZR hZs
  simp only [SL.val]
  go_wp2_with fail
  obtain ⟨hZb, hZ1, hZR, hZs⟩ := HW.out
  clear HW x0 x1 x2 x3 y0 y1 y2 y3 fz fy
  generalize (((((w1.setCell ⟨q, 3, none⟩ (.slice a1 n1 c1)).setCell ⟨q + 1, 0, none⟩ (.int .i64 ra)).setCell ⟨q + 1, 1, none⟩ (.int .i64 ri)).setCell ⟨q + 1, 2, none⟩ (.int .i64 rv)).setCell ⟨q + 1, 3, none⟩ (.slice a1 n1 c1)) = Z at hZb hZ1 hZR hZs ⊢
  have y0 : Z.cell? ⟨q + 1, 0, none⟩ = some (.int .i64 ra) := (cell_of_row _ _ _ _ _ _ hZ1).trans rfl
  have y1 : Z.cell? ⟨q + 1, 1, none⟩ = some (.int .i64 ri) := (cell_of_row _ _ _ _ _ _ hZ1).trans rfl
  have y2 : Z.cell? ⟨q + 1, 2, none⟩ = some (.int .i64 rv) := (cell_of_row _ _ _ _ _ _ hZ1).trans rfl
  have y3 : Z.cell? ⟨q + 1, 3, none⟩ = some (.slice a1 n1 c1) := (cell_of_row _ _ _ _ _ _ hZ1).trans rfl
  exact bodyPost_ret (v := .agg #[.int .i64 ra, .int .i64 ri, .int .i64 rv, .slice a1 n1 c1]) (by simp [results, Try.results41, go_sem, y0, y1, y2, y3]) rfl ⟨⟨a1, n1, c1⟩, rfl, hZR.wide (Nat.le_refl _) hZs, hZb⟩
theorem info77 : (Try.prog.info? 77).map (fun i => (i.zero, i.size, i.bytes)) = some (some (.agg #[.int .i64 0, .int .i64 0, .int .i64 0, .slice none 0 0]), 4, 48) := by kernel_rfl
/-- The rows copied till here. -/
structure RowsTo (P base : Nat) (ls : List RowD) (raw : List RowR) (w : World) : Prop where
  len : raw.length ≤ ls.length
  ok : ∀ j (h1 : j < raw.length) (h2 : j < ls.length), RowOk P base w.heap.size raw[j] ls[j] w
theorem RowsTo.same {P base : Nat} {ls : List RowD} {raw : List RowR} {w w' : World} (h : RowsTo P base ls raw w) (hs : w.heap.size ≤ w'.heap.size) (hb : ∀ k, base ≤ k → k < w.heap.size → (k < P ∨ Of 30 k w) → w'.heap[k]? = w.heap[k]?) : RowsTo P base ls raw w' :=
  ⟨h.len, fun j h1 h2 => ⟨(h.ok j h1 h2).a, (h.ok j h1 h2).i, (h.ok j h1 h2).v, (h.ok j h1 h2).small, ((h.ok j h1 h2).not.same hs fun k a b c d => hb k a c d).wide (Nat.le_refl _) hs⟩⟩
set_option maxRecDepth 100000 in
set_option maxHeartbeats 4000000 in
theorem rows_own {P lo hi : Nat} (s : SL) (ls : List RowD) (w : World) (h : Rws P lo hi s ls w) (hl : ls.length ≤ 100000) (hP : P ≤ w.heap.size) :
    Calls Try.prog 40 #[s.val, .func (.func 41) #[] #[]] w fun e w' => ∃ s' : SL, e = .returned s'.val ∧ Rws P w.heap.size w'.heap.size s' ls w' ∧ Below w.heap.size w w' := by
  obtain ⟨raw0, hraw, hrd, hrok⟩ := h.has
  obtain ⟨a, n, c⟩ := s
  have hn : n = ls.length := hrd.n.trans hraw
  subst hn
  obtain ⟨i0, hi0, hz0, hz1, hz2⟩ := info_parts info77
  have H0 := Lib.hid (And.intro hrd hrok)
  clear h hrd hrok
  simp only [SL.val]
  go_enter Try.func40, Try.ntmps40
  go_wp2_with fail
  go_loopw [5, 7, 10] (fun v _ i wr => ∃ (k : Nat) (raw : List RowR) (ob : Option Addr) (cb : Nat), k ≤ ls.length ∧ i = .int .i64 k ∧ v = .slice ob k cb ∧ raw.length = k ∧ Below w.heap.size w wr ∧ Hid (wr.ownsRow w.heap.size 77 4 (.slice ob k cb) k (elR.rows raw)) ∧ Hid (RowsTo P w.heap.size ls raw wr)) (fun _ _ i _ => ls.length - (intOf i).toNat)
  case atStart => exact ⟨0, [], none, 0, by omega, rfl, rfl, rfl, Below.refl _ _, Lib.hid (World.ownsRow_nil _ _ _ _), Lib.hid ⟨by simp, fun j h => by simp at h⟩⟩
  case round =>
    obtain ⟨k, raw, ob, cb, hk, rfl, rfl, hlen, hbel, HR, HI⟩ := hrel
    by_cases hlt : k < ls.length
    · obtain ⟨b, o, he, -, -, hbl, -, hcells⟩ := (H0.out.1.below hbel).cell (j := k) (by omega)
      have hOk := (H0.out.2 k (by omega) hlt)
      simp only at he
      subst he
      have hkr : k < raw0.length := by omega
      generalize hr0 : raw0[k] = r0 at hcells hOk
      clear hr0
      obtain ⟨ra, ri, rv, ⟨ga, gn, gc⟩⟩ := r0
      have x0 : wr.cell? ⟨b, o + k * 4, none⟩ = some (.int .i64 ra) := hcells 0 (by decide)
      have x1 : wr.cell? ⟨b, o + k * 4 + 1, none⟩ = some (.int .i64 ri) := by have := hcells 1 (by decide); rwa [← Nat.add_assoc] at this
      have x2 : wr.cell? ⟨b, o + k * 4 + 2, none⟩ = some (.int .i64 rv) := by have := hcells 2 (by decide); rwa [← Nat.add_assoc] at this
      have x3 : wr.cell? ⟨b, o + k * 4 + 3, none⟩ = some (.slice ga gn gc) := by have := hcells 3 (by decide); rwa [← Nat.add_assoc] at this
      clear hcells
      have hbA : Below wr.heap.size wr (wr.alloc (.cells #[.int .i64 ra, .int .i64 ri, .int .i64 rv, .slice ga gn gc] 77)) := (Below.refl _ _).alloc (Nat.le_refl _) _
      have hN := (hOk.not.below hbel).below hbA
      have HS := Lib.hid (And.intro hOk hbA)
      have hsm := hOk.small
      clear hOk hbA
      go_wp2_with fail
      refine (row_own ra ri rv ga gn gc ls[k].not _ hN hsm).mono ?_
      rintro e w1 ⟨s2, rfl, hN2, hb2⟩
      obtain ⟨hOk, hbA⟩ := HS.out
      have hb1 := hbA.trans (hb2.mono hbA.size)
      have hbel1 := hbel.trans (hb1.mono hbel.size)
      have hRok : RowOk P wr.heap.size w1.heap.size ⟨ra, ri, rv, s2⟩ ls[k] w1 := ⟨hOk.a, hOk.i, hOk.v, hOk.small, hN2.wide hbA.size (Nat.le_refl _)⟩
      have hrow : (w1.alloc (.cells #[.int .i64 ra, .int .i64 ri, .int .i64 rv, .slice s2.a s2.n s2.c] 77)).ownsRow w.heap.size 77 4 (.slice ob k cb) k (elR.rows raw) :=
        World.ownsRow.kept HR.out (row := none) ⟨(hb1.alloc hb1.size _).os, (hb1.alloc hb1.size _).tape, (hb1.alloc hb1.size _).output, (hb1.alloc hb1.size _).size, fun i hi _ => (hb1.alloc hb1.size _).block i hi⟩ (by cases (Value.slice ob k cb).ownBlock <;> simp)
      have hn1 : k + 1 ≤ maxLen := by unfold maxLen; omega
      have hn2 : (k + 1) * 48 ≤ 140737488355328 := by omega
      have hP1 : w.heap.size ≤ (w1.alloc (.cells #[.int .i64 ra, .int .i64 ri, .int .i64 rv, .slice s2.a s2.n s2.c] 77)).heap.size := Nat.le_trans hbel1.size (by simp)
      have HROW := Lib.hid (And.intro hrow (And.intro hRok (And.intro hb1 hbel1)))
      clear hrow hRok hb1 hbel1 hb2 hbA hN hN2 hOk HS x0 x1 x2 x3
      go_wp2_with (first | (at_builtin; (refine wpList_append_lies _ rfl _ _ 33 rfl w.heap.size 77 i0 _ 4 48 Try.underlying33 hi0 hz0 hz1 hz2 rfl (by decide) (.slice ob k cb) k (elR.rows raw) rfl HROW.out.1 ⟨w1.heap.size, 0, none⟩ 1 1 [.int .i64 ra, .int .i64 ri, .int .i64 rv, .slice s2.a s2.n s2.c] rfl rfl (World.news_of_block (cs := #[.int .i64 ra, .int .i64 ri, .int .i64 rv, .slice s2.a s2.n s2.c]) (t := 77) (fr := (0, 0)) (heap_alloc_new _ _)) (elR.one ⟨ra, ri, rv, s2⟩) (by decide) hn1 hn2 hP1 (w1.heap.size + 1) (by simp) ?_); intro gg cap3 w3 hown1 hgrow hat hl1) | fail)
      have hI2 : Hid (RowsTo P w.heap.size ls (raw ++ [⟨ra, ri, rv, s2⟩]) w3) := Lib.hid (by
        obtain ⟨hrow, hRok, hb1, hbel1⟩ := HROW.out
        have hA : (w1.alloc (.cells #[.int .i64 ra, .int .i64 ri, .int .i64 rv, .slice s2.a s2.n s2.c] 77)).heap.size ≤ w3.heap.size := hgrow.size
        have hA0 : w1.heap.size ≤ (w1.alloc (.cells #[.int .i64 ra, .int .i64 ri, .int .i64 rv, .slice s2.a s2.n s2.c] 77)).heap.size := by simp
        have hkeep : ∀ j, w.heap.size ≤ j → j < w1.heap.size → (j < P ∨ Of 30 j w1) → w3.heap[j]? = w1.heap[j]? := by
          intro j h1 h2 h3
          have e1 : (w1.alloc (.cells #[.int .i64 ra, .int .i64 ri, .int .i64 rv, .slice s2.a s2.n s2.c] 77)).heap[j]? = w1.heap[j]? := Below.heap_alloc _ _ _ h2
          refine (hgrow.block j (by omega) (fun e => ?_)).trans e1
          rcases h3 with h3 | ⟨cur, h3⟩
          · omega
          · rcases hrow.2 with ⟨hq, -⟩ | ⟨g, cap', cur', hq, -, hg, -⟩
            · rw [hq] at e; cases e
            · rw [hq] at e
              have e : j = g := by simpa [Value.ownBlock] using e
              subst e
              rw [e1, h3] at hg
              simp at hg
        have hT := (HI.out.same hb1.size (fun j _ hj _ => hb1.block j hj)).same (Nat.le_trans hA0 hA) hkeep
        refine ⟨by simp; omega, fun j h1 h2 => ?_⟩
        by_cases hj : j < raw.length
        · rw [List.getElem_append_left hj]
          exact hT.ok j hj h2
        · have hj : j = raw.length := by simp at h1; omega
          subst hj
          rw [List.getElem_append_right (Nat.le_refl _)]
          simp only [Nat.sub_self, List.getElem_cons_zero]
          have e0 : ls[raw.length] = ls[k] := by congr
          rw [e0]
          exact ⟨hRok.a, hRok.i, hRok.v, hRok.small, (hRok.not.same (Nat.le_trans hA0 hA) (fun x y _ z u => hkeep x (Nat.le_trans hbel.size y) z u)).wide hbel.size (Nat.le_trans hA0 hA)⟩)
      have hbel3 : Hid (Below w.heap.size w w3) := Lib.hid (Below.grow (HROW.out.2.2.2.alloc HROW.out.2.2.2.size _) hgrow (fun j hj => (World.ownsRow.lt HROW.out.1 j hj).1) hP1)
      have hR3 : Hid (w3.ownsRow w.heap.size 77 4 (.slice (some ⟨gg, 0, none⟩) (k + 1) cap3) (k + 1) (elR.rows (raw ++ [⟨ra, ri, rv, s2⟩]))) := Lib.hid (by rw [El.rows_append]; simpa [El.rows, elR] using hown1)
      clear hown1 hgrow hat hl1 HROW hn1 hn2 hP1
      refine ⟨⟨k + 1, raw ++ [⟨ra, ri, rv, s2⟩], some ⟨gg, 0, none⟩, cap3, by omega, by go_num, rfl, by simp [hlen], hbel3.out, hR3, hI2⟩, ?_⟩
      simp only [intOf]; omega
    · obtain rfl : k = ls.length := by omega
      go_wp2_with fail
      go_ret
      have hR := HR.out
      rw [← hlen] at hR
      obtain ⟨a', c', e, hRd⟩ := rd_of_row (E := elR) (P := P) hR
      simp only [Value.slice.injEq] at e
      obtain ⟨rfl, -, rfl⟩ := e
      refine ⟨⟨ob, ls.length, cb⟩, rfl, ⟨raw, hlen, ?_, HI.out.ok⟩, hbel⟩
      rw [← hlen]
      exact hRd
end Go.Proofs.Ytjdhdmljchnidaa
