/-
  The document's Give, Lose.
-/
import Derived.Test.YtialfpmfiapepaaRefTwice
namespace Go.Proofs.Ytialfpmfiapepaa
open Go.RowKit
set_option linter.unusedVariables false
set_option linter.unusedSimpArgs false
attribute [local go_sem ↓] Go.wp_at_zero Go.wp_at_succ
set_option maxRecDepth 100000 in
set_option maxHeartbeats 4000000 in
theorem rgive_no (P R : Nat) (v : Value) (n : N) (k : Int) (w : World) (h : Doc P R v n w) (hk : n.has k = false) :
    Calls Try.prog 22 #[.pointer (some ⟨R, 0, none⟩), .int .i64 k] w fun e w' => e = .returned (.tuple #[.agg #[.string ⟨#[]⟩, .int .i64 0, .bool false], .int .i64 5]) ∧ Below w.heap.size w w' := by
  have HK := Lib.hid hk
  have hA := h.alloc (.cells #[.string ⟨#[]⟩, .int .i64 0, .bool false] 53)
  have HA := Lib.hid hA
  clear hk hA h
  go_enter Try.func22, Try.ntmps22
  go_wp2_with fail
  refine (ris_any P R v n k _ HA.out).mono ?_
  rintro e w1 ⟨rfl, rfl⟩
  rw [HK.out]
  go_wp2_with fail
  refine bodyPost_ret (v := .tuple #[.agg #[.string ⟨#[]⟩, .int .i64 0, .bool false], .int .i64 5]) (by simp [results, Try.results22, go_sem]) rfl ⟨rfl, ?_⟩
  exact (Below.refl _ _).alloc (Nat.le_refl _) _
set_option maxRecDepth 100000 in
set_option maxHeartbeats 4000000 in
theorem rgive_yes (P R : Nat) (v : Value) (n : N) (k : Int) (w : World) (h : Doc P R v n w) (hk : n.has k = true) :
    Calls Try.prog 22 #[.pointer (some ⟨R, 0, none⟩), .int .i64 k] w fun e w' => e = .returned (.tuple #[.agg (n.get k).cells, .int .i64 0]) ∧ DidD P R (n.lose k) w w' := by
  obtain ⟨j, b, off, c, rfl, rfl, hj, hPb, hlt, hbR, hnc, hcm, e0, e1, e2⟩ := h.has hk
  have hRw := h.lt
  have hm1 := h.ok.m1
  have hm2 := h.ok.m2
  have hle := h.ok.le
  have hlose : n.lose (j : Int) = ⟨n.max, n.l.eraseIdx j⟩ := by unfold N.lose; rw [if_pos hk]; rfl
  have HL := Lib.hid hlose
  have HK := Lib.hid hk
  obtain ⟨u, hu⟩ : ∃ u, u = n.get (j : Int) := ⟨_, rfl⟩
  rw [← hu] at e0 e1 e2 ⊢
  clear hk hu hlose
  obtain ⟨us, uto, ub⟩ := u
  simp only at e0 e1 e2
  simp only [U.cells]
  have hj0 : (0 : Int) ≤ (j : Int) := by omega
  have hjl : (j : Int) < (n.l.length : Int) := by omega
  have hj1 : (0 : Int) ≤ (j : Int) + 1 := by omega
  have hjl1 : (j : Int) + 1 ≤ (n.l.length : Int) := by omega
  have hjc : j ≤ c := by omega
  have hj1l : j + 1 ≤ n.l.length := by omega
  have hj1c : j + 1 ≤ c := by omega
  have hDY := h.alloc (.cells #[.string ⟨#[]⟩, .int .i64 0, .bool false] 53)
  have hDYY := hDY.alloc (.cells #[.string us, .int .i64 uto, .bool ub] 53)
  have hq0 : ((w.alloc (.cells #[.string ⟨#[]⟩, .int .i64 0, .bool false] 53)).alloc (.cells #[.string us, .int .i64 uto, .bool ub] 53)).heap[w.heap.size]? = some (.cells #[.string ⟨#[]⟩, .int .i64 0, .bool false] 53 (0, 0)) := (two_new w _ _).1
  have hq1 : ((w.alloc (.cells #[.string ⟨#[]⟩, .int .i64 0, .bool false] 53)).alloc (.cells #[.string us, .int .i64 uto, .bool ub] 53)).heap[w.heap.size + 1]? = some (.cells #[.string us, .int .i64 uto, .bool ub] 53 (0, 0)) := (two_new w _ _).2
  have hsY : ((w.alloc (.cells #[.string ⟨#[]⟩, .int .i64 0, .bool false] 53)).alloc (.cells #[.string us, .int .i64 uto, .bool ub] 53)).heap.size = w.heap.size + 2 := by simp
  have hbY : Below w.heap.size w ((w.alloc (.cells #[.string ⟨#[]⟩, .int .i64 0, .bool false] 53)).alloc (.cells #[.string us, .int .i64 uto, .bool ub] 53)) := ((Below.refl _ _).alloc (Nat.le_refl _) _).alloc (by simp) _
  have HY := Lib.hid (And.intro hDYY (And.intro hq0 (And.intro hq1 (And.intro hsY (And.intro hbY h)))))
  have HD1 := Lib.hid hDY
  obtain ⟨-, c1⟩ := h.reads
  clear hDY hDYY hq0 hq1 hsY hbY h
  go_enter Try.func22, Try.ntmps22
  go_wp2_with fail
  refine (ris_any P R _ n j _ HD1.out).mono ?_
  rintro e w1 ⟨rfl, rfl⟩
  rw [HK.out]
  go_wp2_with fail
  obtain ⟨hDYY, hq0, hq1, hsY, hbY, h⟩ := HY.out
  have hDd := hDYY.drew
  have hsd : ((w.alloc (.cells #[.string ⟨#[]⟩, .int .i64 0, .bool false] 53)).alloc (.cells #[.string us, .int .i64 uto, .bool ub] 53)).drew.heap.size = w.heap.size + 2 := hsY
  have hqd0 : ((w.alloc (.cells #[.string ⟨#[]⟩, .int .i64 0, .bool false] 53)).alloc (.cells #[.string us, .int .i64 uto, .bool ub] 53)).drew.heap[w.heap.size]? = _ := hq0
  have hqd1 : ((w.alloc (.cells #[.string ⟨#[]⟩, .int .i64 0, .bool false] 53)).alloc (.cells #[.string us, .int .i64 uto, .bool ub] 53)).drew.heap[w.heap.size + 1]? = _ := hq1
  have hKd : Keep R w ((w.alloc (.cells #[.string ⟨#[]⟩, .int .i64 0, .bool false] 53)).alloc (.cells #[.string us, .int .i64 uto, .bool ub] 53)).drew := ⟨hbY.os, hbY.tape, hbY.output, hbY.size, fun i hi _ => hbY.block i hi⟩
  clear hDYY hq0 hq1 hsY hbY HY HD1 c1
  refine wp_region_any (by kernel_rfl) ?_
  try (change wpAny _ _ _ _ _ _ _ (World.drew _))
  refine wpAny_take (i := 0) (v := ?_) rfl (by kernel_rfl) (by kernel_rfl) (by kernel_rfl) (fun _ _ _ h => h) (Or.inl ⟨by rfl, ?_⟩) ?_
  rotate_left
  · (intro w; go_simp) <;> with_reducible rfl
  refine wpAny_take (i := 2) (v := ?_) rfl (by kernel_rfl) (by kernel_rfl) (by kernel_rfl) (fun _ _ _ h => h) (Or.inl ⟨by rfl, ?_⟩) ?_
  rotate_left
  · (intro w; go_simp) <;> with_reducible rfl
  refine wpAny_take (i := 3) (v := ?_) rfl (by kernel_rfl) (by kernel_rfl) (by kernel_rfl) (fun _ _ _ h => h) (Or.inl ⟨by rfl, ?_⟩) ?_
  rotate_left
  · (intro w; go_simp) <;> with_reducible rfl
  refine wpAny_take (i := 4) (v := ?_) rfl (by kernel_rfl) (by kernel_rfl) (by kernel_rfl) (fun _ _ _ h => h) (Or.inl ⟨by rfl, ?_⟩) ?_
  rotate_left
  · (intro w; go_simp) <;> with_reducible rfl
  refine wpAny_take (i := 6) (v := ?_) rfl (by kernel_rfl) (by kernel_rfl) (by kernel_rfl) (fun _ _ _ h => h) (Or.inl ⟨by rfl, ?_⟩) ?_
  rotate_left
  · (intro w; go_simp) <;> with_reducible rfl
  refine wpAny_take (i := 9) (v := ?_) rfl (by kernel_rfl) (by kernel_rfl) (by kernel_rfl) (fun _ _ _ h => h) (Or.inl ⟨by rfl, ?_⟩) ?_
  rotate_left
  · (intro w; go_simp) <;> with_reducible rfl
  refine wpAny_take (i := 10) (v := ?_) rfl (by kernel_rfl) (by kernel_rfl) (by kernel_rfl) (fun _ _ _ h => h) (Or.inl ⟨by rfl, ?_⟩) ?_
  rotate_left
  · (intro w; go_simp) <;> with_reducible rfl
  refine wpAny_take (i := 11) (v := ?_) rfl (by kernel_rfl) (by kernel_rfl) (by kernel_rfl) (fun _ _ _ h => h) (Or.inl ⟨by rfl, ?_⟩) ?_
  rotate_left
  · (intro w; go_simp) <;> with_reducible rfl
  refine wpAny_take (i := 13) (v := ?_) rfl (by kernel_rfl) (by kernel_rfl) (by kernel_rfl) (fun _ _ _ h => h) (Or.inl ⟨by rfl, ?_⟩) ?_
  rotate_left
  · (intro w; go_simp) <;> with_reducible rfl
  refine wpAny_take (i := 14) (v := ?_) rfl (by kernel_rfl) (by kernel_rfl) (by kernel_rfl) (fun _ _ _ h => h) (Or.inl ⟨by rfl, ?_⟩) ?_
  rotate_left
  · (intro w; go_simp) <;> with_reducible rfl
  generalize ((w.alloc (.cells #[.string ⟨#[]⟩, .int .i64 0, .bool false] 53)).alloc (.cells #[.string us, .int .i64 uto, .bool ub] 53)).drew = Yd at hDd hsd hqd0 hqd1 hKd ⊢
  have c1 := hDd.reads.2
  have hRY := hDd.lt
  obtain ⟨A, hA⟩ : ∃ A : Option Addr, (if c = j + 1 then some (⟨b, off, none⟩ : Addr) else some ⟨b, off + (j + 1) * 3, none⟩) = A := ⟨_, rfl⟩
  have hxd := rd_drop hDd.rd hj1l
  rw [hA] at hxd
  have HXD := Lib.hid hxd
  clear hxd
  have HSD := Lib.hid hsd
  clear hsd
  have hwr : IntKind.i64.wrap ((j : Int) + 1) = (j : Int) + 1 := IntWalk.i64_in _ (by omega)
  refine wpAny_of_till (S := fun x => x.cell? ⟨R, 1, none⟩ = some (.slice (some ⟨b, off, none⟩) n.l.length c)) (k := 19) _ _ _ _ ?_
  have hS : (fun x : World => x.cell? ⟨R, 1, none⟩ = some (.slice (some ⟨b, off, none⟩) n.l.length c)) _ := c1
  refine wpTill_take (i := 5) (v := .slice (some ⟨b, off, none⟩) n.l.length c) rfl (by kernel_rfl) (by kernel_rfl) (by kernel_rfl) (by kernel_rfl) (fun _ _ _ h => h) (Or.inl ⟨by rfl, ?_⟩) hS ?_
  · intro w hSw; (try dsimp only at hSw); (try obtain ⟨x0⟩ := hSw); go_simp
  try simp only [Act.put, List.setIfInBounds_toArray, List.set_cons_zero, List.set_cons_succ]
  refine wpTill_take (i := 12) (v := .slice (some ⟨b, off, none⟩) n.l.length c) rfl (by kernel_rfl) (by kernel_rfl) (by kernel_rfl) (by kernel_rfl) (fun _ _ _ h => h) (Or.inl ⟨by rfl, ?_⟩) hS ?_
  · intro w hSw; (try dsimp only at hSw); (try obtain ⟨x0⟩ := hSw); go_simp
  try simp only [Act.put, List.setIfInBounds_toArray, List.set_cons_zero, List.set_cons_succ]
  refine wpTill_take (i := 7) (v := .slice (some ⟨b, off, none⟩) j c) rfl (by kernel_rfl) (by kernel_rfl) (by kernel_rfl) (by kernel_rfl) (fun _ _ _ h => h) (Or.inl ⟨by rfl, ?_⟩) hS ?_
  · intro w hSw; go_simp
  try simp only [Act.put, List.setIfInBounds_toArray, List.set_cons_zero, List.set_cons_succ]
  refine wpTill_take (i := 15) (v := .slice A (n.l.length - (j + 1)) (c - (j + 1))) rfl (by kernel_rfl) (by kernel_rfl) (by kernel_rfl) (by kernel_rfl) (fun _ _ _ h => h) (Or.inl ⟨by rfl, ?_⟩) hS ?_
  · intro w hSw; go_simp
  try simp only [Act.put, List.setIfInBounds_toArray, List.set_cons_zero, List.set_cons_succ]
  have hb : Below Yd.heap.size Yd Yd := Below.refl _ _
  refine wpTill_one (i := 1) (by kernel_rfl) rfl (by kernel_rfl) (fun K hK => ?_)
  go_simp
  have hrow := World.ownsRow_made (base := Yd.heap.size) (e := 53) (size := 3) Yd #[] 0 (Nat.le_refl _) (by decide) rfl
  have hb := hb.alloc (Nat.le_refl _) (.cells #[] 53)
  clear hS
  have hS : (fun x : World => x.cell? ⟨R, 1, none⟩ = some (.slice (some ⟨b, off, none⟩) n.l.length c)) (Yd.alloc (.cells #[] 53)) := (hb.cell (p := ⟨R, 1, none⟩) hRY).trans c1
  refine hK.out _ _ hS ?_; clear hK K
  try simp only [Act.put, List.setIfInBounds_toArray, List.set_cons_zero, List.set_cons_succ]
  refine wpTill_one (i := 8) (by kernel_rfl) rfl (by kernel_rfl) (fun K hK => ?_)
  have hx := (rd_take hDd.rd (Nat.le_of_lt hj)).same hb.size (fun k _ hk _ => hb.block k hk)
  have hlt1 : (n.l.take j).length = j := by rw [List.length_take]; omega
  obtain ⟨r1, w1, hrun1, hown1, hg1, -⟩ := app_run hrow hx 56 (by omega) hb.size
  refine step_append_run rfl (.tmp 20) (.tmp 26) 56 rfl hrun1 ?_
  try go_simp
  have hb := Below.grow hb hg1 (fun k hk => (World.ownsRow.lt hrow k hk).1) hb.size
  rw [hlt1, Nat.zero_add, List.nil_append] at hown1
  clear hrow hg1 hrun1 hx hS
  have hS : (fun x : World => x.cell? ⟨R, 1, none⟩ = some (.slice (some ⟨b, off, none⟩) n.l.length c)) w1 := (hb.cell (p := ⟨R, 1, none⟩) hRY).trans c1
  refine hK.out _ _ hS ?_; clear hK K
  try simp only [Act.put, List.setIfInBounds_toArray, List.set_cons_zero, List.set_cons_succ]
  refine wpTill_one (i := 16) (by kernel_rfl) rfl (by kernel_rfl) (fun K hK => ?_)
  have hx := HXD.out.same hb.size (fun k _ hk _ => hb.block k hk)
  have hlt2 : (n.l.drop (j + 1)).length = n.l.length - (j + 1) := List.length_drop
  obtain ⟨r2, w2, hrun2, hown2, hg2, -⟩ := app_run hown1 hx 56 (by rw [hlt2]; omega) hb.size
  rw [hlt2] at hown2
  obtain ⟨ob2, cb2, rfl⟩ : ∃ ob cb, r2 = .slice ob (j + (n.l.length - (j + 1))) cb := by
    rcases hown2.2 with ⟨rfl, h0⟩ | ⟨g, cap, cur, rfl, -⟩
    · exact ⟨none, 0, by rw [h0]⟩
    · exact ⟨_, _, rfl⟩
  refine step_append_run rfl (.tmp 27) (.tmp 34) 56 rfl hrun2 ?_
  try go_simp
  have hb := Below.grow hb hg2 (fun k hk => (World.ownsRow.lt hown1 k hk).1) hb.size
  clear hg2 hrun2 hx hS
  have hS : (fun x : World => x.cell? ⟨R, 1, none⟩ = some (.slice (some ⟨b, off, none⟩) n.l.length c)) w2 := (hb.cell (p := ⟨R, 1, none⟩) hRY).trans c1
  refine hK.out _ _ hS ?_; clear hK K
  try simp only [Act.put, List.setIfInBounds_toArray, List.set_cons_zero, List.set_cons_succ]
  refine wpTill_one (i := 17) (by kernel_rfl) rfl (by kernel_rfl) (fun K hK => ?_)
  go_simp
  refine hK.out _ _ hS ?_; clear hK K
  try simp only [Act.put, List.setIfInBounds_toArray, List.set_cons_zero, List.set_cons_succ]
  refine wpTill_one (i := 18) (by kernel_rfl) rfl (by kernel_rfl) (fun K hK => ?_)
  go_simp
  refine hK.out _ _ hS ?_; clear hK K
  try simp only [Act.put, List.setIfInBounds_toArray, List.set_cons_zero, List.set_cons_succ]
  have cB : w2.cell? ⟨R, 1, none⟩ = _ := hS
  have fB : w2.frozen? ⟨R, 1, none⟩ = false := (hb.frozen (p := ⟨R, 1, none⟩) hRY).trans (hDd.free 1)
  refine wpTill_end (by kernel_rfl) rfl (fun K hK => ?_)
  go_simp
  refine hK.out _ _ ?_; clear hK K
  refine wpAny_done (by kernel_rfl) ?_ _
  go_simp
  have hsd := HSD.out
  have hel : (n.l.eraseIdx j).length = j + (n.l.length - (j + 1)) := by rw [List.length_eraseIdx, if_pos hj]; omega
  have her : rows (n.l.eraseIdx j) = rows (n.l.take j) ++ rows (n.l.drop (j + 1)) := by rw [List.eraseIdx_eq_take_drop_succ, rows_append]
  rw [← her] at hown2
  have hown2 : w2.ownsRow Yd.heap.size 53 3 (.slice ob2 (j + (n.l.length - (j + 1))) cb2) (n.l.eraseIdx j).length (rows (n.l.eraseIdx j)) := by rw [hel]; exact hown2
  have hrd := rd_of_row (R := R) hown2 (by omega)
  have hset := hDd.set hb (n.l.eraseIdx j) ⟨hm1, hm2, by show ((n.l.eraseIdx j).length : Int) ≤ n.max; rw [hel]; omega⟩ hrd
  have hrV : Rd Yd.heap.size R (.slice ob2 (j + (n.l.length - (j + 1))) cb2) (n.l.eraseIdx j) (w2.setCell ⟨R, 1, none⟩ (.slice ob2 (j + (n.l.length - (j + 1))) cb2)) := hrd.same (by simp) (fun k _ _ hk => Below.heap_setCell _ _ _ _ hk)
  have hqV0 : (w2.setCell ⟨R, 1, none⟩ (.slice ob2 (j + (n.l.length - (j + 1))) cb2)).heap[w.heap.size]? = some (.cells #[.string ⟨#[]⟩, .int .i64 0, .bool false] 53 (0, 0)) := by
    rw [Below.heap_setCell _ _ _ _ (by show w.heap.size ≠ R; omega)]
    exact (hb.block _ (by omega)).trans hqd0
  have hqV1 : (w2.setCell ⟨R, 1, none⟩ (.slice ob2 (j + (n.l.length - (j + 1))) cb2)).heap[w.heap.size + 1]? = some (.cells #[.string us, .int .i64 uto, .bool ub] 53 (0, 0)) := by
    rw [Below.heap_setCell _ _ _ _ (by show w.heap.size + 1 ≠ R; omega)]
    exact (hb.block _ (by omega)).trans hqd1
  have hKV : Keep R w (w2.setCell ⟨R, 1, none⟩ (.slice ob2 (j + (n.l.length - (j + 1))) cb2)) := hKd.trans hset.2
  have HV := Lib.hid (And.intro hset.1 (And.intro hrV hKV))
  clear hset hrV hKV hrd hown2 hown1 hb hS cB fB hDd hKd hqd0 hqd1 c1
  generalize w2.setCell ⟨R, 1, none⟩ (.slice ob2 (j + (n.l.length - (j + 1))) cb2) = V at HV hqV0 hqV1 ⊢
  have z0 : V.cell? ⟨w.heap.size + 1, 0, none⟩ = some (.string us) := (cell_of_row _ _ _ _ _ _ hqV1).trans rfl
  have z1 : V.cell? ⟨w.heap.size + 1, 1, none⟩ = some (.int .i64 uto) := (cell_of_row _ _ _ _ _ _ hqV1).trans rfl
  have z2 : V.cell? ⟨w.heap.size + 1, 2, none⟩ = some (.bool ub) := (cell_of_row _ _ _ _ _ _ hqV1).trans rfl
  have y0 : V.cell? ⟨w.heap.size, 0, none⟩ = some (.string ⟨#[]⟩) := (cell_of_row _ _ _ _ _ _ hqV0).trans rfl
  have y1 : V.cell? ⟨w.heap.size, 1, none⟩ = some (.int .i64 0) := (cell_of_row _ _ _ _ _ _ hqV0).trans rfl
  have y2 : V.cell? ⟨w.heap.size, 2, none⟩ = some (.bool false) := (cell_of_row _ _ _ _ _ _ hqV0).trans rfl
  have g0 : V.frozen? ⟨w.heap.size, 0, none⟩ = false := frozen_of_row _ _ _ _ _ hqV0
  have g1 : V.frozen? ⟨w.heap.size, 1, none⟩ = false := frozen_of_row _ _ _ _ _ hqV0
  have g2 : V.frozen? ⟨w.heap.size, 2, none⟩ = false := frozen_of_row _ _ _ _ _ hqV0
  clear hqV0 hqV1
  go_wp2_with fail
  refine bodyPost_ret (v := .tuple #[.agg #[.string us, .int .i64 uto, .bool ub], .int .i64 0]) (by simp [results, Try.results22, go_sem, *]) rfl ?_
  have l1 := Doc.lay (q := w.heap.size) (o := 0) (x := .string us) HV.out.1 HV.out.2.1 (by omega) (by omega)
  have l2 := Doc.lay (q := w.heap.size) (o := 1) (x := .int .i64 uto) l1.1 l1.2 (by omega) (by omega)
  have l3 := Doc.lay (q := w.heap.size) (o := 2) (x := .bool ub) l2.1 l2.2 (by omega) (by omega)
  refine ⟨rfl, _, by rw [HL.out]; exact l3.1, ((HV.out.2.2.setCell (p := ⟨w.heap.size, 0, none⟩) (.inr (Nat.le_refl _)) _).setCell (p := ⟨w.heap.size, 1, none⟩) (.inr (Nat.le_refl _)) _).setCell (p := ⟨w.heap.size, 2, none⟩) (.inr (Nat.le_refl _)) _⟩
theorem rgive_any (P R : Nat) (v : Value) (n : N) (k : Int) (w : World) (h : Doc P R v n w) :
    Calls Try.prog 22 #[.pointer (some ⟨R, 0, none⟩), .int .i64 k] w fun e w' => e = .returned (.tuple #[.agg (n.get k).cells, .int .i64 (n.noneE k)]) ∧ DidD P R (n.lose k) w w' := by
  cases hk : n.has k
  · rw [show n.noneE k = 5 by simp [N.noneE, hk], N.lose_out hk, not_has hk]
    exact (rgive_no P R v n k w h hk).mono fun e w' ⟨he, hb⟩ => ⟨he, v, h.kept hb, Keep.of_below hb⟩
  · rw [show n.noneE k = 0 by simp [N.noneE, hk]]
    exact rgive_yes P R v n k w h hk
theorem rlose_any (P R : Nat) (v : Value) (n : N) (k : Int) (w : World) (h : Doc P R v n w) :
    Calls Try.prog 23 #[.pointer (some ⟨R, 0, none⟩), .int .i64 k] w fun e w' => e = .returned (.int .i64 (n.noneE k)) ∧ DidD P R (n.lose k) w w' := by
  have hg := rgive_any P R v n k w h
  go_enter Try.func23, Try.ntmps23
  go_wp2_with fail
  refine hg.mono ?_
  rintro e w1 ⟨rfl, hD⟩
  have HD : Hid (DidD P R (n.lose k) w (w1.alloc (.cells (n.get k).cells 53))) := Lib.hid (by
    obtain ⟨v', h1, h2⟩ := hD
    exact ⟨v', h1.alloc _, h2.trans (Keep.of_below ((Below.refl _ _).alloc (Nat.le_refl _) _))⟩)
  clear hD hg
  simp only [U.cells] at HD ⊢
  go_wp2_with fail
  go_ret
  exact ⟨rfl, HD.out⟩
end Go.Proofs.Ytialfpmfiapepaa
