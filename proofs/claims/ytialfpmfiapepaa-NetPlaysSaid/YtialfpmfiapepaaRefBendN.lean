/-
  The document's Bend.
-/
import Derived.Test.YtialfpmfiapepaaRefGive
namespace Go.Proofs.Ytialfpmfiapepaa
open Go.RowKit
set_option linter.unusedVariables false
set_option linter.unusedSimpArgs false
attribute [local go_sem ↓] Go.wp_at_zero Go.wp_at_succ
theorem wpList_append_run {P : Program} {ops : Array Oper} {rest : List Oper} {o : Oper} {a : Act} {w w' : World} {Q : Exit → Act → World → Prop} {r : Value} (hgd : o.guard = none) (s x : Operand) (t : TypeId)
    (ho : o.op = .call { callee := .builtin .append, args := #[s, x], argTypes := #[t, t] }) (hrun : (Builtin.append_ #[t, t] o.type #[a.eval s, a.eval x]).run P w = .ok r w') (h : wpList P ops Q rest (a.put o.dst r) w') : wpList P ops Q (o :: rest) a w :=
  wpList_plain hgd fun _ hK => by
    unfold Oper.wp execOp
    simp only [ho, resolve, invoke, builtin, Sem.run_bind, Sem.run_pure, Result.andThen_ok, List.map_toArray, List.map_cons, List.map_nil, hrun]
    exact hK _ _ h
theorem rows_set2 (l : List U) (j : Nat) (s : ByteArray) (hj : j < l.length) : ((rows l).set (j * 3 + 2) (.bool true)).set (j * 3) (.string s) = rows (l.set j ⟨s, (l[j]).to, true⟩) := by
  induction l generalizing j with
  | nil => simp at hj
  | cons f a ih =>
    cases j with
    | zero => simp [rows, U.cells]
    | succ j =>
      have := ih j (by simpa using hj)
      simp only [rows, List.set_cons_succ, U.cells, List.getElem_cons_succ]
      rw [← this]
      simp only [List.cons_append, List.nil_append, show (j + 1) * 3 = j * 3 + 1 + 1 + 1 by omega, show (j + 1) * 3 + 2 = j * 3 + 2 + 1 + 1 + 1 by omega, List.set_cons_succ]
/-- The slice is a new one, of the call's own. -/
structure Fresh (R g c1 : Nat) (n : N) (w V : World) : Prop where
  here : V.heap[R]? = some (.cells #[.int .i64 n.max, .slice (some ⟨g, 0, none⟩) n.l.length c1] 58 (0, 0))
  row : V.ownsRow w.heap.size 53 3 (.slice (some ⟨g, 0, none⟩) n.l.length c1) n.l.length (rows n.l)
  keep : Keep R w V
  ne : g ≠ R
  gw : w.heap.size ≤ g
theorem Fresh.of {P R g c1 : Nat} {v : Value} {n : N} {w w1 : World} (h : Doc P R v n w) (hb : Below w.heap.size w w1) (hr : w1.ownsRow w.heap.size 53 3 (.slice (some ⟨g, 0, none⟩) n.l.length c1) n.l.length (rows n.l)) :
    Fresh R g c1 n w (w1.setCell ⟨R, 1, none⟩ (.slice (some ⟨g, 0, none⟩) n.l.length c1)) := by
  have hlt := h.lt
  have hg := (World.ownsRow.lt hr g rfl).1
  have hB := (hb.block _ hlt).trans h.here
  refine ⟨?_, ⟨hr.1, ?_⟩, (Keep.of_below hb).setCell (p := ⟨R, 1, none⟩) (.inl rfl) _, by omega, hg⟩
  · rw [heap_setCell_same _ _ _ _ _ _ hB]; rfl
  · rcases hr.2 with hn | ⟨g', cap, cur, e, hP, hgg, rest⟩
    · exact .inl hn
    · simp only [Value.slice.injEq, Option.some.injEq, Addr.mk.injEq, and_true, true_and] at e
      obtain ⟨rfl, rfl⟩ := e
      exact .inr ⟨g, c1, cur, rfl, hP, by rw [Below.heap_setCell _ _ _ _ (by show g ≠ R; omega)]; exact hgg, rest⟩
/-- Behind the stores. -/
theorem Fresh.bent {P R g c1 j : Nat} {v : Value} {n : N} {w V V2 : World} {s : ByteArray} (h : Fresh R g c1 n w V) (hd : Doc P R v n w) (hj : j < n.l.length) (hb : Below (V.setCell ⟨g, j * 3 + 2, none⟩ (.bool true)).heap.size (V.setCell ⟨g, j * 3 + 2, none⟩ (.bool true)) V2) :
    DidD P R ⟨n.max, n.l.set j ⟨s, (n.l[j]).to, true⟩⟩ w (V2.setCell ⟨g, j * 3, none⟩ (.string s)) := by
  obtain ⟨r1, g1⟩ := World.ownsRow.stored h.row (j * 3 + 2) (.bool true)
  have hRV : R < V.heap.size := (Array.getElem?_eq_some_iff.1 h.here).1
  have hgR := h.ne
  have hs1 : (V.setCell ⟨g, j * 3 + 2, none⟩ (.bool true)).heap.size = V.heap.size := by simp
  have hgl := (World.ownsRow.lt r1 g rfl).2
  have hR1 : (V.setCell ⟨g, j * 3 + 2, none⟩ (.bool true)).heap[R]? = _ := (Below.heap_setCell _ _ _ _ (by show R ≠ g; omega)).trans h.here
  have r2 : V2.ownsRow w.heap.size 53 3 (.slice (some ⟨g, 0, none⟩) n.l.length c1) n.l.length _ := World.ownsRow.kept r1 (row := none) ⟨hb.os, hb.tape, hb.output, hb.size, fun k hk _ => hb.block k hk⟩ (by right; simp [Value.ownBlock])
  obtain ⟨r3, g3⟩ := World.ownsRow.stored r2 (j * 3) (.string s)
  rw [rows_set2 _ _ _ hj] at r3
  have hlen : (n.l.set j ⟨s, (n.l[j]).to, true⟩).length = n.l.length := List.length_set ..
  have hlt := hd.lt
  have hR3 : (V2.setCell ⟨g, j * 3, none⟩ (.string s)).heap[R]? = some (.cells #[.int .i64 n.max, .slice (some ⟨g, 0, none⟩) n.l.length c1] 58 (0, 0)) := by
    rw [Below.heap_setCell _ _ _ _ (by show R ≠ g; omega)]
    exact (hb.block _ (by omega)).trans hR1
  have hK : Keep R w (V2.setCell ⟨g, j * 3, none⟩ (.string s)) := (((h.keep.setCell (p := ⟨g, j * 3 + 2, none⟩) (.inr h.gw) (.bool true)).trans (Keep.of_below hb)).setCell (p := ⟨g, j * 3, none⟩) (.inr h.gw) (.string s))
  refine ⟨.slice (some ⟨g, 0, none⟩) n.l.length c1, ⟨hR3, ?_, ⟨hd.ok.m1, hd.ok.m2, by show ((n.l.set j _).length : Int) ≤ n.max; rw [hlen]; exact hd.ok.le⟩, hd.pR⟩, hK⟩
  have hrow : (V2.setCell ⟨g, j * 3, none⟩ (.string s)).ownsRow w.heap.size 53 3 (.slice (some ⟨g, 0, none⟩) (n.l.set j ⟨s, (n.l[j]).to, true⟩).length c1) (n.l.set j ⟨s, (n.l[j]).to, true⟩).length (rows (n.l.set j ⟨s, (n.l[j]).to, true⟩)) := by rw [hlen]; exact r3
  have := (rd_of_row (R := R) hrow hlt).mono (Nat.le_trans hd.pR (Nat.le_of_lt hlt))
  rw [hlen] at this
  exact this
set_option maxRecDepth 100000 in
set_option maxHeartbeats 4000000 in
theorem rbend_yes (P R : Nat) (v : Value) (n : N) (k a : Int) (x : BitVec 32) (w : World) (h : Doc P R v n w) (hk : n.has k = true) (hbt : (n.get k).bent = false) (hsm : (n.get k).s.size ≤ 100000) (ha0 : -9223372036854775808 ≤ a) (ha1 : a ≤ 9223372036854775807) :
    Calls Try.prog 25 #[.pointer (some ⟨R, 0, none⟩), .int .i64 k, .int .i64 a, .int .u32 (u x)] w fun e w' => e = .returned (.int .i64 0) ∧ DidD P R (n.put k ⟨⟨(bend (n.get k).s.data.toList a x).toArray⟩, (n.get k).to, true⟩) w w' := by
  obtain ⟨j, b, off, c, rfl, rfl, hj, hPb, hlt, hbR, hnc, hcm, e0, e1, e2⟩ := h.has hk
  have hRw := h.lt
  have hm2 := h.ok.m2
  have hle := h.ok.le
  obtain ⟨hjg, hgg⟩ := N.get_of hk
  have hput : ∀ q : U, n.put (j : Int) q = ⟨n.max, n.l.set j q⟩ := fun q => by unfold N.put; rw [if_pos hk]; rfl
  have hto : (n.get (j : Int)).to = (n.l[j]'hj).to := by rw [hgg]; rfl
  have hts : (n.get (j : Int)).s = (n.l[j]'hj).s := by rw [hgg]; rfl
  have HTS := Lib.hid hts
  rw [hput]
  rw [hbt] at e2
  have HK := Lib.hid hk
  have HTO := Lib.hid hto
  obtain ⟨us, hus⟩ : ∃ us, us = (n.get (j : Int)).s := ⟨_, rfl⟩
  have HUS := Lib.hid hus
  rw [← hus] at e0 hsm ⊢
  have hj0 : (0 : Int) ≤ (j : Int) := by omega
  have hjl : (j : Int) < (n.l.length : Int) := by omega
  obtain ⟨-, c1⟩ := h.reads
  have HH := Lib.hid h
  have hDd := h.drew
  have hRd : R < w.drew.heap.size := hRw
  have c1d : w.drew.cell? ⟨R, 1, none⟩ = _ := c1
  clear hk hput hgg hjg hto hts hus hbt h e1
  go_enter Try.func25, Try.ntmps25
  go_wp2_with fail
  refine (ris_any P R _ n j _ HH.out).mono ?_
  rintro e w1 ⟨rfl, rfl⟩
  rw [HK.out]
  go_upto_region 5 with fail
  go_cut [8] (fun a8 wx => a8 = .int .i64 0 ∧ ∃ g c1, Fresh R g c1 n w1 wx)
  case first =>
    have hrow := World.ownsRow_made (base := w1.heap.size) (e := 53) (size := 3) w1 #[] 0 (Nat.le_refl _) (by decide) rfl
    have hb := (Below.refl w1.heap.size w1).alloc (Nat.le_refl _) (.cells #[] 53)
    have hx := HH.out.rd.same hb.size (fun k _ hk _ => hb.block k hk)
    obtain ⟨r1, w2, hrun1, hown1, hg1, hne1⟩ := app_run hrow hx 56 (by omega) hb.size
    rw [Nat.zero_add, List.nil_append] at hown1
    obtain ⟨g, cg, rfl, -, -⟩ := World.ownsRow.form hown1 (by omega)
    have hb2 := Below.grow hb hg1 (fun k hk => (World.ownsRow.lt hrow k hk).1) hb.size
    have cB : w2.cell? ⟨R, 1, none⟩ = _ := (hb2.cell (p := ⟨R, 1, none⟩) hRw).trans c1
    have fB : w2.frozen? ⟨R, 1, none⟩ = false := (hb2.frozen (p := ⟨R, 1, none⟩) hRw).trans (HH.out.free 1)
    have hF := Lib.hid (Fresh.of HH.out hb2 hown1)
    clear hown1 hb2 hg1 hne1 hx hb hrow hDd c1d hRd
    go_wp2_with (first | (at_builtin; refine wpList_append_run rfl (.tmp 22) (.tmp 26) 56 rfl hrun1 ?_) | fail)
    go_meet
    case rel => exact ⟨rfl, g, cg, hF.out⟩
  case rest =>
    obtain ⟨rfl, g, cg, hF⟩ := hcut
    have hgl := (World.ownsRow.lt hF.row g rfl).2
    have hgR := hF.ne
    have hcR : wc.cell? ⟨R, 1, none⟩ = some (.slice (some ⟨g, 0, none⟩) n.l.length cg) := (cell_of_row _ _ _ _ _ _ hF.here).trans rfl
    have q0 : wc.cell? ⟨g, j * 3, none⟩ = some (.string us) := by
      have := World.ownsRow.cellAt hF.row (j * 3 + 0) (by omega)
      rw [rows_get _ _ _ hj (by omega)] at this
      rw [HUS.out, HTS.out]
      exact this
    have q2s : (wc.cell? ⟨g, j * 3 + 2, none⟩).isSome = true := by
      have := World.ownsRow.cellAt hF.row (j * 3 + 2) (by omega)
      rw [rows_get _ _ _ hj (by omega)] at this
      rw [this]; rfl
    obtain ⟨q2v, q2⟩ := Option.isSome_iff_exists.1 q2s
    clear q2s
    have f2 : wc.frozen? ⟨g, j * 3 + 2, none⟩ = false := World.ownsRow.frozenAt hF.row _
    have f0 : (wc.setCell ⟨g, j * 3 + 2, none⟩ (.bool true)).frozen? ⟨g, j * 3, none⟩ = false := World.ownsRow.frozenAt (World.ownsRow.stored hF.row (j * 3 + 2) (.bool true)).1 _
    have q0' : (wc.setCell ⟨g, j * 3 + 2, none⟩ (.bool true)).cell? ⟨g, j * 3, none⟩ = some (.string us) := by
      rw [World.cell?_setCell_other _ _ _ _ (by simp)]; exact q0
    have hcR' : (wc.setCell ⟨g, j * 3 + 2, none⟩ (.bool true)).cell? ⟨R, 1, none⟩ = some (.slice (some ⟨g, 0, none⟩) n.l.length cg) := by
      rw [World.cell?_setCell_other _ _ _ _ (by simp; try omega)]; exact hcR
    have hgl' : g < (wc.setCell ⟨g, j * 3 + 2, none⟩ (.bool true)).heap.size := by simpa using hgl
    have hRl' : R < (wc.setCell ⟨g, j * 3 + 2, none⟩ (.bool true)).heap.size := by have := (Array.getElem?_eq_some_iff.1 hF.here).1; simpa using this
    have HF := Lib.hid hF
    clear hF c1 c1d e0 e2 hDd
    go_wp2_with fail
    refine wp_region_any (by kernel_rfl) ?_
    try (change wpAny _ _ _ _ _ _ _ (World.drew _))
    refine wpAny_take (i := 0) (v := ?_) rfl (by kernel_rfl) (by kernel_rfl) (by kernel_rfl) (fun _ _ _ h => h) (Or.inl ⟨by rfl, ?_⟩) ?_
    rotate_left
    · (intro w; go_simp) <;> with_reducible rfl
    refine wpAny_take (i := 1) (v := ?_) rfl (by kernel_rfl) (by kernel_rfl) (by kernel_rfl) (fun _ _ _ h => h) (Or.inl ⟨by rfl, ?_⟩) ?_
    rotate_left
    · (intro w; go_simp) <;> with_reducible rfl
    refine wpAny_take (i := 2) (v := ?_) rfl (by kernel_rfl) (by kernel_rfl) (by kernel_rfl) (fun _ _ _ h => h) (Or.inl ⟨by rfl, ?_⟩) ?_
    rotate_left
    · (intro w; go_simp) <;> with_reducible rfl
    refine wpAny_take (i := 4) (v := ?_) rfl (by kernel_rfl) (by kernel_rfl) (by kernel_rfl) (fun _ _ _ h => h) (Or.inl ⟨by rfl, ?_⟩) ?_
    rotate_left
    · (intro w; go_simp) <;> with_reducible rfl
    refine wpAny_take (i := 5) (v := ?_) rfl (by kernel_rfl) (by kernel_rfl) (by kernel_rfl) (fun _ _ _ h => h) (Or.inl ⟨by rfl, ?_⟩) ?_
    rotate_left
    · (intro w; go_simp) <;> with_reducible rfl
    refine wpAny_take (i := 6) (v := ?_) rfl (by kernel_rfl) (by kernel_rfl) (by kernel_rfl) (fun _ _ _ h => h) (Or.inl ⟨by rfl, ?_⟩) ?_
    rotate_left
    · (intro w; go_simp) <;> with_reducible rfl
    refine wpAny_take (i := 7) (v := ?_) rfl (by kernel_rfl) (by kernel_rfl) (by kernel_rfl) (fun _ _ _ h => h) (Or.inl ⟨by rfl, ?_⟩) ?_
    rotate_left
    · (intro w; go_simp) <;> with_reducible rfl
    refine wpAny_take (i := 9) (v := ?_) rfl (by kernel_rfl) (by kernel_rfl) (by kernel_rfl) (fun _ _ _ h => h) (Or.inl ⟨by rfl, ?_⟩) ?_
    rotate_left
    · (intro w; go_simp) <;> with_reducible rfl
    refine wpAny_take (i := 13) (v := ?_) rfl (by kernel_rfl) (by kernel_rfl) (by kernel_rfl) (fun _ _ _ h => h) (Or.inl ⟨by rfl, ?_⟩) ?_
    rotate_left
    · (intro w; go_simp) <;> with_reducible rfl
    refine wpAny_take (i := 14) (v := ?_) rfl (by kernel_rfl) (by kernel_rfl) (by kernel_rfl) (fun _ _ _ h => h) (Or.inl ⟨by rfl, ?_⟩) ?_
    rotate_left
    · (intro w; go_simp) <;> with_reducible rfl
    generalize hVd : (wc.setCell ⟨g, j * 3 + 2, none⟩ (.bool true)).drew = Vd
    have hcV : Vd.cell? ⟨R, 1, none⟩ = some (.slice (some ⟨g, 0, none⟩) n.l.length cg) := by rw [← hVd]; exact hcR'
    have hqV : Vd.cell? ⟨g, j * 3, none⟩ = some (.string us) := by rw [← hVd]; exact q0'
    have hfV : Vd.frozen? ⟨g, j * 3, none⟩ = false := by rw [← hVd]; exact f0
    have hgV : g < Vd.heap.size := by rw [← hVd]; exact hgl'
    have hRV : R < Vd.heap.size := by rw [← hVd]; exact hRl'
    have HVd := Lib.hid hVd
    clear hVd hcR q0 q2 f2 hcR' q0' f0 hgl' hRl' hgl
    refine wpAny_of_till (S := fun x => x.cell? ⟨R, 1, none⟩ = some (.slice (some ⟨g, 0, none⟩) n.l.length cg) ∧ x.cell? ⟨g, j * 3, none⟩ = some (.string us)) (k := 18) _ _ _ _ ?_
    have hS : (fun x : World => x.cell? ⟨R, 1, none⟩ = some (.slice (some ⟨g, 0, none⟩) n.l.length cg) ∧ x.cell? ⟨g, j * 3, none⟩ = some (.string us)) _ := ⟨hcV, hqV⟩
    refine wpTill_take (i := 3) (v := .slice (some ⟨g, 0, none⟩) n.l.length cg) rfl (by kernel_rfl) (by kernel_rfl) (by kernel_rfl) (by kernel_rfl) (fun _ _ _ h => h) (Or.inl ⟨by rfl, ?_⟩) hS ?_
    · intro w hSw; (try dsimp only at hSw); (try obtain ⟨x0, x1⟩ := hSw); go_simp
    try simp only [Act.put, List.setIfInBounds_toArray, List.set_cons_zero, List.set_cons_succ]
    refine wpTill_take (i := 8) (v := .slice (some ⟨g, 0, none⟩) n.l.length cg) rfl (by kernel_rfl) (by kernel_rfl) (by kernel_rfl) (by kernel_rfl) (fun _ _ _ h => h) (Or.inl ⟨by rfl, ?_⟩) hS ?_
    · intro w hSw; (try dsimp only at hSw); (try obtain ⟨x0, x1⟩ := hSw); go_simp
    try simp only [Act.put, List.setIfInBounds_toArray, List.set_cons_zero, List.set_cons_succ]
    refine wpTill_take (i := 10) (v := ?_) rfl (by kernel_rfl) (by kernel_rfl) (by kernel_rfl) (by kernel_rfl) (fun _ _ _ h => h) (Or.inl ⟨by rfl, ?_⟩) hS ?_
    rotate_left
    · (intro w hSw; go_simp) <;> with_reducible rfl
    try simp only [Act.put, List.setIfInBounds_toArray, List.set_cons_zero, List.set_cons_succ]
    refine wpTill_take (i := 11) (v := ?_) rfl (by kernel_rfl) (by kernel_rfl) (by kernel_rfl) (by kernel_rfl) (fun _ _ _ h => h) (Or.inl ⟨by rfl, ?_⟩) hS ?_
    rotate_left
    · (intro w hSw; go_simp) <;> with_reducible rfl
    try simp only [Act.put, List.setIfInBounds_toArray, List.set_cons_zero, List.set_cons_succ]
    refine wpTill_take (i := 12) (v := .string us) rfl (by kernel_rfl) (by kernel_rfl) (by kernel_rfl) (by kernel_rfl) (fun _ _ _ h => h) (Or.inl ⟨by rfl, ?_⟩) hS ?_
    · intro w hSw; (try dsimp only at hSw); (try obtain ⟨x0, x1⟩ := hSw); go_simp
    try simp only [Act.put, List.setIfInBounds_toArray, List.set_cons_zero, List.set_cons_succ]
    refine wpTill_one (i := 15) (by kernel_rfl) rfl (by kernel_rfl) (fun K hK => ?_)
    go_simp
    refine (refbend_any us a x _ hsm ha0 ha1).mono ?_
    rintro e w3 ⟨rfl, hb3⟩
    clear hS
    have hS : (fun x : World => x.cell? ⟨R, 1, none⟩ = some (.slice (some ⟨g, 0, none⟩) n.l.length cg) ∧ x.cell? ⟨g, j * 3, none⟩ = some (.string us)) w3 := ⟨(hb3.cell (p := ⟨R, 1, none⟩) hRV).trans hcV, (hb3.cell (p := ⟨g, j * 3, none⟩) hgV).trans hqV⟩
    go_wp2_with fail
    refine hK.out _ _ hS ?_; clear hK K
    try simp only [Act.put, List.setIfInBounds_toArray, List.set_cons_zero, List.set_cons_succ]
    refine wpTill_one (i := 16) (by kernel_rfl) rfl (by kernel_rfl) (fun K hK => ?_)
    go_simp
    refine hK.out _ _ hS ?_; clear hK K
    try simp only [Act.put, List.setIfInBounds_toArray, List.set_cons_zero, List.set_cons_succ]
    refine wpTill_one (i := 17) (by kernel_rfl) rfl (by kernel_rfl) (fun K hK => ?_)
    go_simp
    refine hK.out _ _ hS ?_; clear hK K
    try simp only [Act.put, List.setIfInBounds_toArray, List.set_cons_zero, List.set_cons_succ]
    have cB : w3.cell? ⟨g, j * 3, none⟩ = _ := hS.2
    have fB : w3.frozen? ⟨g, j * 3, none⟩ = false := (hb3.frozen (p := ⟨g, j * 3, none⟩) hgV).trans hfV
    refine wpTill_end (by kernel_rfl) rfl (fun K hK => ?_)
    go_simp
    refine hK.out _ _ ?_; clear hK K
    refine wpAny_done (by kernel_rfl) ?_ _
    go_simp
    have hb4 : Below (wc.setCell ⟨g, j * 3 + 2, none⟩ (.bool true)).heap.size (wc.setCell ⟨g, j * 3 + 2, none⟩ (.bool true)) w3 := by
      have h1 := HVd.out
      subst h1
      exact ⟨hb3.os, hb3.tape, hb3.output, hb3.size, hb3.block⟩
    have hD := Lib.hid (HF.out.bent (s := ⟨(bend us.data.toList a x).toArray⟩) HH.out hj hb4)
    clear hb3 hb4 hS cB fB hcV hqV hfV hgV hRV HF
    go_wp2_with fail
    go_ret
    refine ⟨rfl, ?_⟩
    rw [HTO.out]
    exact hD.out
theorem rbend_any (P R : Nat) (v : Value) (n : N) (k a : Int) (x : BitVec 32) (w : World) (h : Doc P R v n w) (hsm : n.Small) (ha0 : -9223372036854775808 ≤ a) (ha1 : a ≤ 9223372036854775807) :
    Calls Try.prog 25 #[.pointer (some ⟨R, 0, none⟩), .int .i64 k, .int .i64 a, .int .u32 (u x)] w fun e w' => e = .returned (.int .i64 (n.bendE k)) ∧ DidD P R (n.bend k a x) w w' := by
  cases hk : n.has k
  · have HE := Lib.hid (show n.bendE k = 5 ∧ n.bend k a x = n from ⟨by simp [N.bendE, hk], N.put_out hk _⟩)
    have HK := Lib.hid hk
    have HH := Lib.hid h
    clear hk h
    go_enter Try.func25, Try.ntmps25
    go_wp2_with fail
    refine (ris_any P R v n k _ HH.out).mono ?_
    rintro e w1 ⟨rfl, rfl⟩
    rw [HK.out]
    go_wp2_with fail
    go_ret
    exact ⟨ret_i (by rw [HE.out.1]), v, by rw [HE.out.2]; exact HH.out, Keep.refl _ _⟩
  · cases hbt : (n.get k).bent
    · rw [show n.bendE k = 0 by simp [N.bendE, hk, hbt], show n.bend k a x = n.put k ⟨⟨(bend (n.get k).s.data.toList a x).toArray⟩, (n.get k).to, true⟩ by simp [N.bend, U.bend, hbt]]
      exact rbend_yes P R v n k a x w h hk hbt (hsm.get k) ha0 ha1
    · have HE := Lib.hid (show n.bendE k = 7 ∧ n.bend k a x = n from ⟨by simp [N.bendE, hk, hbt], N.bend_bent hbt a x⟩)
      obtain ⟨j, b, off, c, rfl, rfl, hj, hPb, hlt, hbR, hnc, hcm, e0, e1, e2⟩ := h.has hk
      rw [hbt] at e2
      obtain ⟨-, c1⟩ := h.reads
      have hj0 : (0 : Int) ≤ (j : Int) := by omega
      have hjl : (j : Int) < (n.l.length : Int) := by omega
      have HK := Lib.hid hk
      have HH := Lib.hid h
      clear hk h hbt e0 e1
      go_enter Try.func25, Try.ntmps25
      go_wp2_with fail
      refine (ris_any P R _ n j _ HH.out).mono ?_
      rintro e w1 ⟨rfl, rfl⟩
      rw [HK.out]
      go_wp2_with fail
      go_ret
      exact ⟨ret_i (by rw [HE.out.1]), _, by rw [HE.out.2]; exact HH.out, Keep.refl _ _⟩
end Go.Proofs.Ytialfpmfiapepaa
