/-
  The document's push, Send.
-/
import Derived.Test.YtialfpmfiapepaaRefNet
namespace Go.Proofs.Ytialfpmfiapepaa
open Go.RowKit
set_option linter.unusedVariables false
set_option linter.unusedSimpArgs false
attribute [local go_sem ↓] Go.wp_at_zero Go.wp_at_succ
theorem push_eq {n : N} (h : n.Ok) (u : U) : n.push u = ⟨n.max, if n.full = true then (n.l ++ [u]).tail else n.l ++ [u]⟩ := by
  unfold N.push N.full
  by_cases e : (n.l.length : Int) = n.max
  · have : n.l ≠ [] := by intro h0; have := h.m1; rw [h0] at e; simp at e; omega
    simp only [e, decide_true, if_true]
    cases hl : n.l with
    | nil => exact absurd hl this
    | cons a l => rfl
  · simp [e]
theorem Rd.mono {P P' R : Nat} {v : Value} {l : List U} {w : World} (h : Rd P' R v l w) (hP : P ≤ P') : Rd P R v l w := by
  obtain ⟨oa, c, e, h1, h2, h3⟩ := h
  refine ⟨oa, c, e, h1, h2, ?_⟩
  rcases h3 with h3 | ⟨b, off, e2, hb, rest⟩
  · exact .inl h3
  · exact .inr ⟨b, off, e2, Nat.le_trans hP hb, rest⟩
/-- A slice without its first. -/
theorem rd_tail {P R g cap : Nat} {l : List U} {r : Nat} {w : World} (h : Rd P R (.slice (some ⟨g, 0, none⟩) l.length cap) l w) (hr : l.length = r + 1) :
    Rd P R (.slice (if cap = 1 then some (⟨g, 0, none⟩ : Addr) else some ⟨g, 3, none⟩) r (cap - 1)) l.tail w := by
  obtain ⟨oa, c, e, h1, h2, h3⟩ := h
  simp only [Value.slice.injEq] at e
  obtain ⟨rfl, -, rfl⟩ := e
  rcases h3 with ⟨h3, -⟩ | ⟨b, off, e2, hP, hlt, hR, ht, hc⟩
  · cases h3
  · simp only [Option.some.injEq, Addr.mk.injEq, and_true] at e2
    obtain ⟨rfl, rfl⟩ := e2
    have hlt2 : l.tail.length = r := by rw [List.length_tail]; omega
    by_cases hc1 : cap = 1
    · have h0 : l.tail = [] := List.eq_nil_of_length_eq_zero (by omega)
      refine ⟨some ⟨g, 0, none⟩, cap - 1, by rw [if_pos hc1, hlt2], by omega, by omega, .inr ⟨g, 0, rfl, hP, hlt, hR, ht, fun j u hj => ?_⟩⟩
      rw [h0] at hj; simp [rows] at hj
    · refine ⟨some ⟨g, 3, none⟩, cap - 1, by rw [if_neg hc1, hlt2], by omega, by omega, .inr ⟨g, 3, rfl, hP, hlt, hR, ht, fun j u hj => ?_⟩⟩
      have := hc (3 + j) u (by
        cases l with
        | nil => simp at hr
        | cons a l =>
          simp only [List.tail_cons] at hj
          simp only [rows]
          rw [List.getElem?_append_right (by simp [U.cells])]
          simpa [U.cells, Nat.add_comm] using hj)
      simpa using this
theorem rd_one {P R C : Nat} {u : U} {w : World} (hC : w.heap[C]? = some (.cells u.cells 53 (0, 0))) (hP : P ≤ C) (hR : C ≠ R) : Rd P R (.slice (some ⟨C, 0, none⟩) 1 1) [u] w :=
  ⟨_, 1, rfl, Nat.le_refl _, by decide, .inr ⟨C, 0, rfl, hP, (Array.getElem?_eq_some_iff.1 hC).1, hR, ⟨_, _, hC⟩, fun j v hj => by
    rw [Nat.zero_add, cell_of_row _ _ _ _ _ _ hC]
    simpa [rows] using hj⟩⟩
/-- What the two appends leave. -/
def Made (B0 : Nat) (l : List U) (w w' : World) (a5 : Value) : Prop := ∃ g cap, a5 = .slice (some ⟨g, 0, none⟩) l.length cap ∧ w'.ownsRow B0 53 3 (.slice (some ⟨g, 0, none⟩) l.length cap) l.length (rows l) ∧ Below B0 w w'
theorem Made.of {B0 : Nat} {l : List U} {w w' : World} {r : Value} (h : w'.ownsRow B0 53 3 r l.length (rows l)) (hl : l ≠ []) (hb : Below B0 w w') : Made B0 l w w' r := by
  obtain ⟨g, cap, rfl, -, -⟩ := World.ownsRow.form h (List.length_pos_iff.2 hl)
  exact ⟨g, cap, rfl, h, hb⟩
theorem Below.grow {B0 : Nat} {a w w' : World} (hb : Below B0 a w) {row : Option Nat} (hg : w.grownBy w' row) (hr : ∀ k, row = some k → B0 ≤ k) (hs : B0 ≤ w.heap.size) : Below B0 a w' :=
  ⟨hg.os.trans hb.os, hg.tape.trans hb.tape, hg.output.trans hb.output, Nat.le_trans hb.size hg.size, fun k hk => (hg.block k (Nat.lt_of_lt_of_le hk hs) (fun e => by have := hr k e.symm; omega)).trans (hb.block k hk)⟩
set_option maxRecDepth 100000 in
set_option maxHeartbeats 4000000 in
theorem rpush_any (P R : Nat) (v : Value) (n : N) (us : ByteArray) (uto : Int) (ub : Bool) (w : World) (h : Doc P R v n w) :
    Calls Try.prog 35 #[.pointer (some ⟨R, 0, none⟩), .agg #[.string us, .int .i64 uto, .bool ub]] w fun e w' => e = .returned (.bool n.full) ∧ DidD P R (n.push ⟨us, uto, ub⟩) w w' := by
  have hR := h.lt
  have hm1 := h.ok.m1
  have hm2 := h.ok.m2
  have hle := h.ok.le
  obtain ⟨oa, c, rfl⟩ := h.form
  have hDY := (h.alloc (.cells #[.string us, .int .i64 uto, .bool ub] 53)).drew
  have hq : (w.alloc (.cells #[.string us, .int .i64 uto, .bool ub] 53)).drew.heap[w.heap.size]? = some (.cells #[.string us, .int .i64 uto, .bool ub] 53 (0, 0)) := heap_alloc_new _ _
  have hbY0 : Below w.heap.size w (w.alloc (.cells #[.string us, .int .i64 uto, .bool ub] 53)) := (Below.refl _ _).alloc (Nat.le_refl _) _
  have hbY : Below w.heap.size w (w.alloc (.cells #[.string us, .int .i64 uto, .bool ub] 53)).drew := ⟨hbY0.os, hbY0.tape, hbY0.output, hbY0.size, hbY0.block⟩
  clear hbY0
  have hsY : (w.alloc (.cells #[.string us, .int .i64 uto, .bool ub] 53)).drew.heap.size = w.heap.size + 1 := by simp
  obtain ⟨B0, hB0'⟩ : ∃ B0, B0 = w.heap.size + 1 := ⟨_, rfl⟩
  go_enter Try.func35, Try.ntmps35
  go_wp2_with fail
  go_cut [5] (fun a5 wx => Made B0 (n.l ++ [⟨us, uto, ub⟩]) (w.alloc (.cells #[.string us, .int .i64 uto, .bool ub] 53)).drew wx a5)
  case first =>
    have c1 := hDY.reads.2
    have z0 : (w.alloc (.cells #[.string us, .int .i64 uto, .bool ub] 53)).drew.cell? ⟨w.heap.size, 0, none⟩ = some (.string us) := (cell_of_row _ _ _ _ _ _ hq).trans rfl
    have z1 : (w.alloc (.cells #[.string us, .int .i64 uto, .bool ub] 53)).drew.cell? ⟨w.heap.size, 1, none⟩ = some (.int .i64 uto) := (cell_of_row _ _ _ _ _ _ hq).trans rfl
    have z2 : (w.alloc (.cells #[.string us, .int .i64 uto, .bool ub] 53)).drew.cell? ⟨w.heap.size, 2, none⟩ = some (.bool ub) := (cell_of_row _ _ _ _ _ _ hq).trans rfl
    refine wp_region_any (by kernel_rfl) ?_
    try (change wpAny _ _ _ _ _ _ _ (World.drew _))
    refine wpAny_take (i := 1) (v := ?_) rfl (by kernel_rfl) (by kernel_rfl) (by kernel_rfl) (fun _ _ _ h => h) (Or.inl ⟨by rfl, ?_⟩) ?_
    rotate_left
    · (intro w; go_simp) <;> with_reducible rfl
    refine wpAny_take (i := 2) (v := ?_) rfl (by kernel_rfl) (by kernel_rfl) (by kernel_rfl) (fun _ _ _ h => h) (Or.inl ⟨by rfl, ?_⟩) ?_
    rotate_left
    · (intro w; go_simp) <;> with_reducible rfl
    refine wpAny_take (i := 3) (v := ?_) rfl (by kernel_rfl) (by kernel_rfl) (by kernel_rfl) (fun _ _ _ h => h) (Or.inl ⟨by rfl, ?_⟩) ?_
    rotate_left
    · (intro w; go_simp) <;> with_reducible rfl
    have hB0 : B0 = (w.alloc (.cells #[.string us, .int .i64 uto, .bool ub] 53)).drew.heap.size := by rw [hsY]; exact hB0'
    have hD := hDY
    generalize hYd : (w.alloc (.cells #[.string us, .int .i64 uto, .bool ub] 53)).drew = Yd at c1 z0 z1 z2 hB0 hD ⊢
    have hRB : R < B0 := by omega
    have hqB : w.heap.size < B0 := by omega
    clear hDY hq hbY hsY h
    refine wpAny_of_till (S := fun x => x.cell? ⟨R, 1, none⟩ = some (.slice oa n.l.length c) ∧ x.cell? ⟨w.heap.size, 0, none⟩ = some (.string us) ∧ x.cell? ⟨w.heap.size, 1, none⟩ = some (.int .i64 uto) ∧ x.cell? ⟨w.heap.size, 2, none⟩ = some (.bool ub)) (k := 9) _ _ _ _ ?_
    have hS : (fun x : World => x.cell? ⟨R, 1, none⟩ = some (.slice oa n.l.length c) ∧ x.cell? ⟨w.heap.size, 0, none⟩ = some (.string us) ∧ x.cell? ⟨w.heap.size, 1, none⟩ = some (.int .i64 uto) ∧ x.cell? ⟨w.heap.size, 2, none⟩ = some (.bool ub)) _ := ⟨c1, z0, z1, z2⟩
    refine wpTill_take (i := 4) (v := .slice oa n.l.length c) rfl (by kernel_rfl) (by kernel_rfl) (by kernel_rfl) (by kernel_rfl) (fun _ _ _ h => h) (Or.inl ⟨by rfl, ?_⟩) hS ?_
    · intro w hSw; (try dsimp only at hSw); (try obtain ⟨x0, x1, x2, x3⟩ := hSw); go_simp
    try simp only [Act.put, List.setIfInBounds_toArray, List.set_cons_zero, List.set_cons_succ]
    refine wpTill_take (i := 6) (v := .agg #[.string us, .int .i64 uto, .bool ub]) rfl (by kernel_rfl) (by kernel_rfl) (by kernel_rfl) (by kernel_rfl) (fun _ _ _ h => h) (Or.inl ⟨by rfl, ?_⟩) hS ?_
    · intro w hSw; (try dsimp only at hSw); (try obtain ⟨x0, x1, x2, x3⟩ := hSw); go_simp
    try simp only [Act.put, List.setIfInBounds_toArray, List.set_cons_zero, List.set_cons_succ]
    refine wpTill_two (i := 0) (j := 7) (by kernel_rfl) rfl rfl (by kernel_rfl) (fun K hK => ?_) (fun K hK => ?_)
    · have hb : Below B0 Yd Yd := Below.refl _ _
      go_simp
      have hrow := World.ownsRow_made (base := B0) (e := 53) (size := 3) Yd #[] 0 (Nat.le_trans (Nat.le_of_eq hB0) hb.size) (by decide) rfl
      have hb := hb.alloc (Nat.le_trans (Nat.le_of_eq hB0) hb.size) (.cells #[] 53)
      have hS : (fun x : World => x.cell? ⟨R, 1, none⟩ = some (.slice oa n.l.length c) ∧ x.cell? ⟨w.heap.size, 0, none⟩ = some (.string us) ∧ x.cell? ⟨w.heap.size, 1, none⟩ = some (.int .i64 uto) ∧ x.cell? ⟨w.heap.size, 2, none⟩ = some (.bool ub)) (Yd.alloc (.cells #[] 53)) := ⟨(hb.cell (p := ⟨R, 1, none⟩) hRB).trans c1, (hb.cell (p := ⟨w.heap.size, 0, none⟩) hqB).trans z0, (hb.cell (p := ⟨w.heap.size, 1, none⟩) hqB).trans z1, (hb.cell (p := ⟨w.heap.size, 2, none⟩) hqB).trans z2⟩
      refine hK.out _ _ hS ?_; clear hK K
      try simp only [Act.put, List.setIfInBounds_toArray, List.set_cons_zero, List.set_cons_succ]
      refine wpTill_two (i := 5) (j := 7) (by kernel_rfl) rfl rfl (by kernel_rfl) (fun K hK => ?_) (fun K hK => ?_)
      · have hx := hD.rd.same hb.size (fun k _ hk _ => hb.block k (by rw [hB0]; exact hk))
        obtain ⟨r1, w1, hrun1, hown1, hg1, hne1⟩ := app_run hrow hx 56 (by omega) (Nat.le_trans (Nat.le_of_eq hB0) hb.size)
        refine step_append_run rfl (.tmp 7) (.tmp 11) 56 rfl hrun1 ?_
        try go_simp
        have hb := Below.grow hb hg1 (fun k hk => (World.ownsRow.lt hrow k hk).1) (Nat.le_trans (Nat.le_of_eq hB0) hb.size)
        have hrow := hown1
        rw [Nat.zero_add, List.nil_append] at hrow
        clear hown1 hg1 hrun1
        have hS : (fun x : World => x.cell? ⟨R, 1, none⟩ = some (.slice oa n.l.length c) ∧ x.cell? ⟨w.heap.size, 0, none⟩ = some (.string us) ∧ x.cell? ⟨w.heap.size, 1, none⟩ = some (.int .i64 uto) ∧ x.cell? ⟨w.heap.size, 2, none⟩ = some (.bool ub)) w1 := ⟨(hb.cell (p := ⟨R, 1, none⟩) hRB).trans c1, (hb.cell (p := ⟨w.heap.size, 0, none⟩) hqB).trans z0, (hb.cell (p := ⟨w.heap.size, 1, none⟩) hqB).trans z1, (hb.cell (p := ⟨w.heap.size, 2, none⟩) hqB).trans z2⟩
        refine hK.out _ _ hS ?_; clear hK K
        try simp only [Act.put, List.setIfInBounds_toArray, List.set_cons_zero, List.set_cons_succ]
        refine wpTill_one (i := 7) (by kernel_rfl) rfl (by kernel_rfl) (fun K hK => ?_)
        go_simp
        have hC : (w1.alloc (.cells #[.string us, .int .i64 uto, .bool ub] 53)).heap[w1.heap.size]? = some (.cells #[.string us, .int .i64 uto, .bool ub] 53 (0, 0)) := heap_alloc_new _ _
        obtain ⟨C, hCd⟩ : ∃ C, C = w1.heap.size := ⟨_, rfl⟩
        rw [← hCd] at hC
        have hCd2 : C = w1.heap.size := by rw [hCd]; try simp
        have hCB : B0 ≤ C := by rw [hCd]; exact Nat.le_trans (Nat.le_of_eq hB0) hb.size
        have hrow := hrow.alloc (.cells #[.string us, .int .i64 uto, .bool ub] 53)
        have hb := hb.alloc (Nat.le_trans (Nat.le_of_eq hB0) hb.size) (.cells #[.string us, .int .i64 uto, .bool ub] 53)
        have hCl : C < (w1.alloc (.cells #[.string us, .int .i64 uto, .bool ub] 53)).heap.size := (Array.getElem?_eq_some_iff.1 hC).1
        have hS : (fun x : World => x.cell? ⟨R, 1, none⟩ = some (.slice oa n.l.length c) ∧ x.cell? ⟨w.heap.size, 0, none⟩ = some (.string us) ∧ x.cell? ⟨w.heap.size, 1, none⟩ = some (.int .i64 uto) ∧ x.cell? ⟨w.heap.size, 2, none⟩ = some (.bool ub)) (w1.alloc (.cells #[.string us, .int .i64 uto, .bool ub] 53)) := ⟨(hb.cell (p := ⟨R, 1, none⟩) hRB).trans c1, (hb.cell (p := ⟨w.heap.size, 0, none⟩) hqB).trans z0, (hb.cell (p := ⟨w.heap.size, 1, none⟩) hqB).trans z1, (hb.cell (p := ⟨w.heap.size, 2, none⟩) hqB).trans z2⟩
        refine hK.out _ _ hS ?_; clear hK K
        try simp only [Act.put, List.setIfInBounds_toArray, List.set_cons_zero, List.set_cons_succ]
        have hx := rd_one (P := B0) (R := R) (u := ⟨us, uto, ub⟩) hC hCB (by omega)
        obtain ⟨r2, w2, hrun2, hown2, hg2, -⟩ := app_run hrow hx 56 (by simp; omega) (Nat.le_trans (Nat.le_of_eq hB0) hb.size)
        rw [hCd2] at hrun2
        refine wpTill_one (i := 8) (by kernel_rfl) rfl (by kernel_rfl) (fun K hK => ?_)
        refine step_append_run rfl (.tmp 12) (.tmp 14) 56 rfl hrun2 ?_
        try go_simp
        have hb := Below.grow hb hg2 (fun k hk => (World.ownsRow.lt hrow k hk).1) (Nat.le_trans (Nat.le_of_eq hB0) hb.size)
        have hM : Made B0 (n.l ++ [⟨us, uto, ub⟩]) Yd w2 r2 := Made.of (by simpa [rows_append, rows] using hown2) (by simp) hb
        clear hown2 hg2 hrun2 hrow
        have hS : (fun x : World => x.cell? ⟨R, 1, none⟩ = some (.slice oa n.l.length c) ∧ x.cell? ⟨w.heap.size, 0, none⟩ = some (.string us) ∧ x.cell? ⟨w.heap.size, 1, none⟩ = some (.int .i64 uto) ∧ x.cell? ⟨w.heap.size, 2, none⟩ = some (.bool ub)) w2 := ⟨(hb.cell (p := ⟨R, 1, none⟩) hRB).trans c1, (hb.cell (p := ⟨w.heap.size, 0, none⟩) hqB).trans z0, (hb.cell (p := ⟨w.heap.size, 1, none⟩) hqB).trans z1, (hb.cell (p := ⟨w.heap.size, 2, none⟩) hqB).trans z2⟩
        refine hK.out _ _ hS ?_; clear hK K
        try simp only [Act.put, List.setIfInBounds_toArray, List.set_cons_zero, List.set_cons_succ]
        refine wpTill_end (by kernel_rfl) rfl (fun K hK => ?_)
        go_simp
        refine hK.out _ _ ?_; clear hK K
        refine wpAny_done (by kernel_rfl) ?_ _
        go_simp
        go_wp2_with fail
        go_meet
        case rel => rw [hYd]; exact hM
      · go_simp
        have hC : ((Yd.alloc (.cells #[] 53)).alloc (.cells #[.string us, .int .i64 uto, .bool ub] 53)).heap[(Yd.alloc (.cells #[] 53)).heap.size]? = some (.cells #[.string us, .int .i64 uto, .bool ub] 53 (0, 0)) := heap_alloc_new _ _
        obtain ⟨C, hCd⟩ : ∃ C, C = (Yd.alloc (.cells #[] 53)).heap.size := ⟨_, rfl⟩
        rw [← hCd] at hC
        have hCd2 : C = Yd.heap.size + 1 := by rw [hCd]; try simp
        have hCB : B0 ≤ C := by rw [hCd]; exact Nat.le_trans (Nat.le_of_eq hB0) hb.size
        have hrow := hrow.alloc (.cells #[.string us, .int .i64 uto, .bool ub] 53)
        have hb := hb.alloc (Nat.le_trans (Nat.le_of_eq hB0) hb.size) (.cells #[.string us, .int .i64 uto, .bool ub] 53)
        have hCl : C < ((Yd.alloc (.cells #[] 53)).alloc (.cells #[.string us, .int .i64 uto, .bool ub] 53)).heap.size := (Array.getElem?_eq_some_iff.1 hC).1
        have hS : (fun x : World => x.cell? ⟨R, 1, none⟩ = some (.slice oa n.l.length c) ∧ x.cell? ⟨w.heap.size, 0, none⟩ = some (.string us) ∧ x.cell? ⟨w.heap.size, 1, none⟩ = some (.int .i64 uto) ∧ x.cell? ⟨w.heap.size, 2, none⟩ = some (.bool ub)) ((Yd.alloc (.cells #[] 53)).alloc (.cells #[.string us, .int .i64 uto, .bool ub] 53)) := ⟨(hb.cell (p := ⟨R, 1, none⟩) hRB).trans c1, (hb.cell (p := ⟨w.heap.size, 0, none⟩) hqB).trans z0, (hb.cell (p := ⟨w.heap.size, 1, none⟩) hqB).trans z1, (hb.cell (p := ⟨w.heap.size, 2, none⟩) hqB).trans z2⟩
        refine hK.out _ _ hS ?_; clear hK K
        try simp only [Act.put, List.setIfInBounds_toArray, List.set_cons_zero, List.set_cons_succ]
        refine wpTill_one (i := 5) (by kernel_rfl) rfl (by kernel_rfl) (fun K hK => ?_)
        have hx := hD.rd.same hb.size (fun k _ hk _ => hb.block k (by rw [hB0]; exact hk))
        obtain ⟨r1, w1, hrun1, hown1, hg1, hne1⟩ := app_run hrow hx 56 (by omega) (Nat.le_trans (Nat.le_of_eq hB0) hb.size)
        refine step_append_run rfl (.tmp 7) (.tmp 11) 56 rfl hrun1 ?_
        try go_simp
        have hC := (hg1.block C hCl (fun e => by have h9 : C = Yd.heap.size := Option.some.inj e; omega)).trans hC
        have hCl := Nat.lt_of_lt_of_le hCl hg1.size
        have hb := Below.grow hb hg1 (fun k hk => (World.ownsRow.lt hrow k hk).1) (Nat.le_trans (Nat.le_of_eq hB0) hb.size)
        have hrow := hown1
        rw [Nat.zero_add, List.nil_append] at hrow
        clear hown1 hg1 hrun1
        have hS : (fun x : World => x.cell? ⟨R, 1, none⟩ = some (.slice oa n.l.length c) ∧ x.cell? ⟨w.heap.size, 0, none⟩ = some (.string us) ∧ x.cell? ⟨w.heap.size, 1, none⟩ = some (.int .i64 uto) ∧ x.cell? ⟨w.heap.size, 2, none⟩ = some (.bool ub)) w1 := ⟨(hb.cell (p := ⟨R, 1, none⟩) hRB).trans c1, (hb.cell (p := ⟨w.heap.size, 0, none⟩) hqB).trans z0, (hb.cell (p := ⟨w.heap.size, 1, none⟩) hqB).trans z1, (hb.cell (p := ⟨w.heap.size, 2, none⟩) hqB).trans z2⟩
        refine hK.out _ _ hS ?_; clear hK K
        try simp only [Act.put, List.setIfInBounds_toArray, List.set_cons_zero, List.set_cons_succ]
        have hx := rd_one (P := B0) (R := R) (u := ⟨us, uto, ub⟩) hC hCB (by omega)
        obtain ⟨r2, w2, hrun2, hown2, hg2, -⟩ := app_run hrow hx 56 (by simp; omega) (Nat.le_trans (Nat.le_of_eq hB0) hb.size)
        rw [hCd2] at hrun2
        refine wpTill_one (i := 8) (by kernel_rfl) rfl (by kernel_rfl) (fun K hK => ?_)
        refine step_append_run rfl (.tmp 12) (.tmp 14) 56 rfl hrun2 ?_
        try go_simp
        have hb := Below.grow hb hg2 (fun k hk => (World.ownsRow.lt hrow k hk).1) (Nat.le_trans (Nat.le_of_eq hB0) hb.size)
        have hM : Made B0 (n.l ++ [⟨us, uto, ub⟩]) Yd w2 r2 := Made.of (by simpa [rows_append, rows] using hown2) (by simp) hb
        clear hown2 hg2 hrun2 hrow
        have hS : (fun x : World => x.cell? ⟨R, 1, none⟩ = some (.slice oa n.l.length c) ∧ x.cell? ⟨w.heap.size, 0, none⟩ = some (.string us) ∧ x.cell? ⟨w.heap.size, 1, none⟩ = some (.int .i64 uto) ∧ x.cell? ⟨w.heap.size, 2, none⟩ = some (.bool ub)) w2 := ⟨(hb.cell (p := ⟨R, 1, none⟩) hRB).trans c1, (hb.cell (p := ⟨w.heap.size, 0, none⟩) hqB).trans z0, (hb.cell (p := ⟨w.heap.size, 1, none⟩) hqB).trans z1, (hb.cell (p := ⟨w.heap.size, 2, none⟩) hqB).trans z2⟩
        refine hK.out _ _ hS ?_; clear hK K
        try simp only [Act.put, List.setIfInBounds_toArray, List.set_cons_zero, List.set_cons_succ]
        refine wpTill_end (by kernel_rfl) rfl (fun K hK => ?_)
        go_simp
        refine hK.out _ _ ?_; clear hK K
        refine wpAny_done (by kernel_rfl) ?_ _
        go_simp
        go_wp2_with fail
        go_meet
        case rel => rw [hYd]; exact hM
    · have hb : Below B0 Yd Yd := Below.refl _ _
      go_simp
      have hC : (Yd.alloc (.cells #[.string us, .int .i64 uto, .bool ub] 53)).heap[Yd.heap.size]? = some (.cells #[.string us, .int .i64 uto, .bool ub] 53 (0, 0)) := heap_alloc_new _ _
      obtain ⟨C, hCd⟩ : ∃ C, C = Yd.heap.size := ⟨_, rfl⟩
      rw [← hCd] at hC
      have hCd2 : C = Yd.heap.size := by rw [hCd]; try simp
      have hCB : B0 ≤ C := by rw [hCd]; exact Nat.le_trans (Nat.le_of_eq hB0) hb.size
      have hb := hb.alloc (Nat.le_trans (Nat.le_of_eq hB0) hb.size) (.cells #[.string us, .int .i64 uto, .bool ub] 53)
      have hCl : C < (Yd.alloc (.cells #[.string us, .int .i64 uto, .bool ub] 53)).heap.size := (Array.getElem?_eq_some_iff.1 hC).1
      have hS : (fun x : World => x.cell? ⟨R, 1, none⟩ = some (.slice oa n.l.length c) ∧ x.cell? ⟨w.heap.size, 0, none⟩ = some (.string us) ∧ x.cell? ⟨w.heap.size, 1, none⟩ = some (.int .i64 uto) ∧ x.cell? ⟨w.heap.size, 2, none⟩ = some (.bool ub)) (Yd.alloc (.cells #[.string us, .int .i64 uto, .bool ub] 53)) := ⟨(hb.cell (p := ⟨R, 1, none⟩) hRB).trans c1, (hb.cell (p := ⟨w.heap.size, 0, none⟩) hqB).trans z0, (hb.cell (p := ⟨w.heap.size, 1, none⟩) hqB).trans z1, (hb.cell (p := ⟨w.heap.size, 2, none⟩) hqB).trans z2⟩
      refine hK.out _ _ hS ?_; clear hK K
      try simp only [Act.put, List.setIfInBounds_toArray, List.set_cons_zero, List.set_cons_succ]
      refine wpTill_one (i := 0) (by kernel_rfl) rfl (by kernel_rfl) (fun K hK => ?_)
      go_simp
      have hrow := World.ownsRow_made (base := B0) (e := 53) (size := 3) (Yd.alloc (.cells #[.string us, .int .i64 uto, .bool ub] 53)) #[] 0 (Nat.le_trans (Nat.le_of_eq hB0) hb.size) (by decide) rfl
      have hb := hb.alloc (Nat.le_trans (Nat.le_of_eq hB0) hb.size) (.cells #[] 53)
      have hEs : (Yd.alloc (.cells #[.string us, .int .i64 uto, .bool ub] 53)).heap.size = Yd.heap.size + 1 := by simp
      rw [hEs] at hrow
      have hC := (Below.heap_alloc _ (.cells #[] 53) _ hCl).trans hC
      have hCe : some C ≠ some (Yd.heap.size + 1) := fun e => by have := Option.some.inj e; omega
      have hCl : C < ((Yd.alloc (.cells #[.string us, .int .i64 uto, .bool ub] 53)).alloc (.cells #[] 53)).heap.size := Nat.lt_of_lt_of_le hCl (by simp)
      have hS : (fun x : World => x.cell? ⟨R, 1, none⟩ = some (.slice oa n.l.length c) ∧ x.cell? ⟨w.heap.size, 0, none⟩ = some (.string us) ∧ x.cell? ⟨w.heap.size, 1, none⟩ = some (.int .i64 uto) ∧ x.cell? ⟨w.heap.size, 2, none⟩ = some (.bool ub)) ((Yd.alloc (.cells #[.string us, .int .i64 uto, .bool ub] 53)).alloc (.cells #[] 53)) := ⟨(hb.cell (p := ⟨R, 1, none⟩) hRB).trans c1, (hb.cell (p := ⟨w.heap.size, 0, none⟩) hqB).trans z0, (hb.cell (p := ⟨w.heap.size, 1, none⟩) hqB).trans z1, (hb.cell (p := ⟨w.heap.size, 2, none⟩) hqB).trans z2⟩
      refine hK.out _ _ hS ?_; clear hK K
      try simp only [Act.put, List.setIfInBounds_toArray, List.set_cons_zero, List.set_cons_succ]
      refine wpTill_one (i := 5) (by kernel_rfl) rfl (by kernel_rfl) (fun K hK => ?_)
      have hx := hD.rd.same hb.size (fun k _ hk _ => hb.block k (by rw [hB0]; exact hk))
      obtain ⟨r1, w1, hrun1, hown1, hg1, hne1⟩ := app_run hrow hx 56 (by omega) (Nat.le_trans (Nat.le_of_eq hB0) hb.size)
      refine step_append_run rfl (.tmp 7) (.tmp 11) 56 rfl hrun1 ?_
      try go_simp
      have hC := (hg1.block C hCl (fun e => hCe e)).trans hC
      have hCl := Nat.lt_of_lt_of_le hCl hg1.size
      have hb := Below.grow hb hg1 (fun k hk => (World.ownsRow.lt hrow k hk).1) (Nat.le_trans (Nat.le_of_eq hB0) hb.size)
      have hrow := hown1
      rw [Nat.zero_add, List.nil_append] at hrow
      clear hown1 hg1 hrun1
      have hS : (fun x : World => x.cell? ⟨R, 1, none⟩ = some (.slice oa n.l.length c) ∧ x.cell? ⟨w.heap.size, 0, none⟩ = some (.string us) ∧ x.cell? ⟨w.heap.size, 1, none⟩ = some (.int .i64 uto) ∧ x.cell? ⟨w.heap.size, 2, none⟩ = some (.bool ub)) w1 := ⟨(hb.cell (p := ⟨R, 1, none⟩) hRB).trans c1, (hb.cell (p := ⟨w.heap.size, 0, none⟩) hqB).trans z0, (hb.cell (p := ⟨w.heap.size, 1, none⟩) hqB).trans z1, (hb.cell (p := ⟨w.heap.size, 2, none⟩) hqB).trans z2⟩
      refine hK.out _ _ hS ?_; clear hK K
      try simp only [Act.put, List.setIfInBounds_toArray, List.set_cons_zero, List.set_cons_succ]
      have hx := rd_one (P := B0) (R := R) (u := ⟨us, uto, ub⟩) hC hCB (by omega)
      obtain ⟨r2, w2, hrun2, hown2, hg2, -⟩ := app_run hrow hx 56 (by simp; omega) (Nat.le_trans (Nat.le_of_eq hB0) hb.size)
      rw [hCd2] at hrun2
      refine wpTill_one (i := 8) (by kernel_rfl) rfl (by kernel_rfl) (fun K hK => ?_)
      refine step_append_run rfl (.tmp 12) (.tmp 14) 56 rfl hrun2 ?_
      try go_simp
      have hb := Below.grow hb hg2 (fun k hk => (World.ownsRow.lt hrow k hk).1) (Nat.le_trans (Nat.le_of_eq hB0) hb.size)
      have hM : Made B0 (n.l ++ [⟨us, uto, ub⟩]) Yd w2 r2 := Made.of (by simpa [rows_append, rows] using hown2) (by simp) hb
      clear hown2 hg2 hrun2 hrow
      have hS : (fun x : World => x.cell? ⟨R, 1, none⟩ = some (.slice oa n.l.length c) ∧ x.cell? ⟨w.heap.size, 0, none⟩ = some (.string us) ∧ x.cell? ⟨w.heap.size, 1, none⟩ = some (.int .i64 uto) ∧ x.cell? ⟨w.heap.size, 2, none⟩ = some (.bool ub)) w2 := ⟨(hb.cell (p := ⟨R, 1, none⟩) hRB).trans c1, (hb.cell (p := ⟨w.heap.size, 0, none⟩) hqB).trans z0, (hb.cell (p := ⟨w.heap.size, 1, none⟩) hqB).trans z1, (hb.cell (p := ⟨w.heap.size, 2, none⟩) hqB).trans z2⟩
      refine hK.out _ _ hS ?_; clear hK K
      try simp only [Act.put, List.setIfInBounds_toArray, List.set_cons_zero, List.set_cons_succ]
      refine wpTill_end (by kernel_rfl) rfl (fun K hK => ?_)
      go_simp
      refine hK.out _ _ ?_; clear hK K
      refine wpAny_done (by kernel_rfl) ?_ _
      go_simp
      go_wp2_with fail
      go_meet
      case rel => rw [hYd]; exact hM
  case rest =>
    subst hB0'
    obtain ⟨g, cap, rfl, hrow, hb⟩ := hcut
    have hbw : Below w.heap.size w wc := hbY.trans (hb.mono (Nat.le_succ _))
    have hD2 := h.kept hbw
    obtain ⟨c0, c1⟩ := hD2.reads
    have fR := hD2.free 1
    have hlen : (n.l ++ [(⟨us, uto, ub⟩ : U)]).length = n.l.length + 1 := by simp
    have hrd := rd_of_row (R := R) hrow (by omega)
    rw [hlen] at hrd ⊢
    have hcap : n.l.length + 1 ≤ cap ∧ cap ≤ 9223372036854775807 := by
      obtain ⟨oa2, c2, e2, h1, h2, -⟩ := rd_of_row (R := R) hrow (by omega)
      simp only [Value.slice.injEq] at e2
      obtain ⟨-, -, rfl⟩ := e2
      rw [hlen] at h1
      exact ⟨h1, by unfold maxLen at h2; omega⟩
    obtain ⟨hcap1, hcap2⟩ := hcap
    have HD := Lib.hid (And.intro h (And.intro hbw hrd))
    clear hDY hq hbY hsY hrow hb hD2 hrd hbw h
    cases hf : n.full
    · have hne : (n.l.length : Int) ≠ n.max := by simpa [N.full] using hf
      have HF := Lib.hid hf
      have hd : decide (n.max < (n.l.length : Int) + 1) = false := by rw [decide_eq_false_iff_not]; omega
      clear hf hne
      go_wp2_with fail
      go_ret
      have hne2 : (n.l.length : Int) ≠ n.max := by simpa [N.full] using HF.out
      have hs := HD.out.1.set HD.out.2.1 (n.l ++ [(⟨us, uto, ub⟩ : U)]) ⟨hm1, hm2, by rw [hlen]; push_cast; omega⟩ (v' := .slice (some ⟨g, 0, none⟩) (n.l.length + 1) cap) (HD.out.2.2.mono (Nat.le_succ _))
      refine ⟨by rw [HF.out]; rfl, .slice (some ⟨g, 0, none⟩) (n.l.length + 1) cap, ?_, hs.2⟩
      rw [push_eq HD.out.1.ok, HF.out]
      exact hs.1
    · have hfe : (n.l.length : Int) = n.max := by simpa [N.full] using hf
      have HF := Lib.hid hf
      have hd : decide (n.max < (n.l.length : Int) + 1) = true := by rw [decide_eq_true_iff]; omega
      have h1c : (1 : Int) ≤ (n.l.length : Int) + 1 := by omega
      have hc1 : ¬ cap = 1 := by omega
      have HC1 := Lib.hid hc1
      clear hf hfe
      go_wp2_with fail
      go_ret
      have htl : (n.l ++ [(⟨us, uto, ub⟩ : U)]).tail.length = n.l.length := by rw [List.length_tail, hlen]; rfl
      have hrd2 := rd_tail (l := n.l ++ [(⟨us, uto, ub⟩ : U)]) (r := n.l.length) (by rw [hlen]; exact HD.out.2.2) hlen
      rw [if_neg HC1.out] at hrd2
      have hs := HD.out.1.set HD.out.2.1 (n.l ++ [(⟨us, uto, ub⟩ : U)]).tail ⟨hm1, hm2, by rw [htl]; exact hle⟩ (hrd2.mono (Nat.le_succ _))
      refine ⟨by rw [HF.out]; rfl, .slice (some ⟨g, 3, none⟩) n.l.length (cap - 1), ?_, hs.2⟩
      rw [push_eq HD.out.1.ok, HF.out]
      exact hs.1
end Go.Proofs.Ytialfpmfiapepaa
