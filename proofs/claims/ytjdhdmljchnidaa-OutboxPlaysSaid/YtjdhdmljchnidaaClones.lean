/-
  The walks of slices.Clone at the lists of a frame.
-/
import Derived.Test.YtjdhdmljchnidaaDeep
namespace Go.Proofs.Ytjdhdmljchnidaa
open Go.RowKit
set_option linter.unusedVariables false
set_option linter.unusedSimpArgs false
attribute [local go_sem ↓] Go.wp_at_zero Go.wp_at_succ
theorem wpList_append_run {P : Program} {ops : Array Oper} {rest : List Oper} {o : Oper} {a : Act} {w w' : World} {Q : Exit → Act → World → Prop} {r : Value} (hgd : o.guard = none) (s x : Operand) (t : TypeId)
    (ho : o.op = .call { callee := .builtin .append, args := #[s, x], argTypes := #[t, t] }) (hrun : (Builtin.append_ #[t, t] o.type #[a.eval s, a.eval x]).run P w = .ok r w') (h : wpList P ops Q rest (a.put o.dst r) w') : wpList P ops Q (o :: rest) a w :=
  wpList_plain hgd fun _ hK => by
    unfold Oper.wp execOp
    simp only [ho, resolve, invoke, builtin, Sem.run_bind, Sem.run_pure, Result.andThen_ok, List.map_toArray, List.map_cons, List.map_nil, hrun]
    exact hK _ _ h
theorem Below.grow {B : Nat} {a w w' : World} {r : Option Nat} (h : Below B a w) (g : w.grownBy w' r) (hr : ∀ k, r = some k → B ≤ k) (hs : B ≤ w.heap.size) : Below B a w' :=
  ⟨g.os.trans h.os, g.tape.trans h.tape, g.output.trans h.output, Nat.le_trans h.size g.size, fun k hk => (g.block k (Nat.lt_of_lt_of_le hk hs) (fun e => by have := hr k e.symm; omega)).trans (h.block k hk)⟩
section
variable {α : Type} {E : El α} {P lo hi : Nat}
/-- append to a row of the call's own, of what reads l. -/
theorem app_run {base : Nat} {w : World} {v0 : Value} {n0 : Nat} {xs : List Value} {a : Option Addr} {n c : Nat} {l : List α} (h : Rd E P lo hi ⟨a, n, c⟩ l w) (i : TypeInfo) (z : Value) (t e k : Nat) (hEe : E.e = e) (hEk : E.k = k) (hown : w.ownsRow base e k v0 n0 xs) (ht : Try.prog.underlying t = some (.slice e)) (hi : Try.prog.info? e = some i) (hz : i.zero = some z)
    (hs : i.size = k) (hzs : z.cells.size = k) (hby : i.bytes ≤ 1000) (hl : n0 + l.length ≤ 1000000) (hbase : base ≤ w.heap.size) (ty : TypeId) :
    ∃ (r : Value) (w' : World), (Builtin.append_ #[t, t] ty #[v0, .slice a n c]).run Try.prog w = .ok r w' ∧ w'.ownsRow base e k r (n0 + l.length) (xs ++ E.rows l) ∧ w.grownBy w' v0.ownBlock ∧ (r.ownBlock = v0.ownBlock ∨ r.ownBlock = some w.heap.size) ∧ (v0.ownBlock ≠ none → r.ownBlock ≠ none) := by
  subst hEe hEk
  have hn : n = l.length := h.n
  by_cases h0 : l.length = 0
  · have e0 : l = [] := List.eq_nil_of_length_eq_zero h0
    subst e0
    rw [h0] at hn
    subst hn
    refine ⟨v0, w, ?_, by simpa [El.rows] using hown, World.grownBy.refl _ _, .inl rfl, id⟩
    rcases hown.2 with ⟨rfl, rfl⟩ | ⟨g, cap, cur, rfl, _, _, hnc, _⟩
    · cases a <;> simp [Builtin.append_, run_underlying ht, sizeOf, typeInfo, hi, Builtin.lenOf, Builtin.firstCells, loadCells, loadCellsFrom, storeCells]
    · cases a <;> simp [Builtin.append_, run_underlying ht, sizeOf, typeInfo, hi, Builtin.lenOf, Builtin.firstCells, hnc, storeCells, loadCells, loadCellsFrom]
  · obtain ⟨b, o, e, h1, h2, h3, h4, h5⟩ := h.at_ (by omega)
    simp only at e
    subst e
    have hby2 : (n0 + l.length) * i.bytes ≤ 140737488355328 := by
      have := Nat.mul_le_mul hl hby
      omega
    subst hn
    obtain ⟨r, w', hr, h5, h6, -, h8⟩ := run_append_own_at (P := Try.prog) w base t ty E.e i z E.k i.bytes ht hi hz hs rfl hzs E.pos v0 n0 xs hown ⟨b, o, none⟩ l.length c (E.rows l) (E.rows_length l) (fun j u hj => by rw [Addr.add_lit]; exact h5 j u hj) (E.rows_one l) (by unfold maxLen; omega) hby2 hbase
    refine ⟨r, w', hr, h5, h6, h8, fun hne => ?_⟩
    rcases h8 with h8 | h8
    · rw [h8]; exact hne
    · rw [h8]; simp
/-- A row of the call's own reads so. -/
theorem rd_of_row {base : Nat} {w : World} {v : Value} {l : List α} (h : w.ownsRow base E.e E.k v l.length (E.rows l)) : ∃ (a : Option Addr) (c : Nat), v = .slice a l.length c ∧ Rd E P base w.heap.size ⟨a, l.length, c⟩ l w := by
  rcases h.2 with ⟨rfl, h0⟩ | ⟨g, cap, cur, rfl, hb, hg, hnc, hcm, hcs, htake⟩
  · have : l = [] := List.eq_nil_of_length_eq_zero h0
    subst this
    exact ⟨none, 0, rfl, Rd.empty _ _ _ _ _⟩
  · refine ⟨some ⟨g, 0, none⟩, cap, rfl, ⟨rfl, hnc, hcm, (fun e => by cases e), fun _ => ⟨g, 0, rfl, hb, (Array.getElem?_eq_some_iff.1 hg).1, (Array.getElem?_eq_some_iff.1 hg).1, .inr ⟨cur, hg⟩, fun j u hj => ?_⟩⟩⟩
    have := World.ownsRow.cells h (g := g) rfl j u hj
    rwa [Addr.add_lit] at this
end
theorem info80 : (Try.prog.info? 80).map (fun i => (i.zero, i.size, i.bytes)) = some (some (.agg #[.int .i64 0, .int .i64 0, .int .u8 0, .int .i64 0]), 4, 32) := by kernel_rfl
set_option maxRecDepth 100000 in
set_option maxHeartbeats 1000000 in
theorem clone_ms {P lo hi : Nat} (s : SL) (l : List Mem) (w : World) (h : Rd elM P lo hi s l w) (hl : l.length ≤ 100000) :
    Calls Try.prog 37 #[s.val] w fun e w' => ∃ s' : SL, e = .returned s'.val ∧ Rd elM P w.heap.size w'.heap.size s' l w' ∧ Below w.heap.size w w' := by
  obtain ⟨a, n, c⟩ := s
  rcases a with _ | A
  · obtain ⟨h1, h2⟩ := h.nil rfl
    simp only at h1 h2
    subst h1 h2
    have h0 : l = [] := List.eq_nil_of_length_eq_zero h.n.symm
    subst h0
    refine (clone_ms_nil w).mono ?_
    rintro e w' ⟨rfl, rfl⟩
    exact ⟨.nil, rfl, Rd.empty _ _ _ _ _, Below.refl _ _⟩
  · obtain ⟨i0, hi0, hz0, hz1, hz2⟩ := info_parts info80
    have hx := h.below ((Below.refl w.heap.size w).alloc (Nat.le_refl _) (.cells #[] 80))
    have hrow := World.ownsRow_made (base := w.heap.size) (e := 80) (size := 4) w #[] 0 (Nat.le_refl _) (by decide) rfl
    obtain ⟨r, w', hrun, hown, hgrow, -, -⟩ := app_run hx i0 _ 31 80 4 rfl rfl hrow Try.underlying31 hi0 hz0 hz1 rfl (by rw [hz2]; decide) (by omega) (by simp) 31
    have hq := fun (w : World) (a : Option Addr) (n c : Nat) => Lib.run_eql_slice_nil (P := Try.prog) w 31 80 a n c 0 0 Try.underlying31
    have hb := Below.grow ((Below.refl w.heap.size w).alloc (Nat.le_refl _) (.cells #[] 80)) hgrow (fun k hk => (World.ownsRow.lt hrow k hk).1) (by simp)
    rw [Nat.zero_add, List.nil_append] at hown
    obtain ⟨B, d, rfl, hR⟩ := rd_of_row (E := elM) (P := P) hown
    have HR := Lib.hid (And.intro hR hb)
    have hnc : n ≤ c := h.le
    have hcm : c ≤ 9223372036854775807 := h.c
    clear hR hb h hx hown hgrow hrow
    simp only [SL.val]
    go_enter Try.func37, Try.ntmps37
    go_wp2_with (first | (at_builtin; refine wpList_append_run rfl (.tmp 5) (.tmp 6) 31 rfl hrun ?_) | fail)
    go_ret
    exact ⟨⟨B, l.length, d⟩, rfl, HR.out.1, HR.out.2⟩
theorem info30 : (Try.prog.info? 30).map (fun i => (i.zero, i.size, i.bytes)) = some (some (.agg #[.int .i64 0, .int .i64 0]), 2, 16) := by kernel_rfl
set_option maxRecDepth 100000 in
set_option maxHeartbeats 1000000 in
theorem clone_ids {P lo hi : Nat} (s : SL) (l : List ID2) (w : World) (h : Rd elI P lo hi s l w) (hl : l.length ≤ 100000) :
    Calls Try.prog 38 #[s.val] w fun e w' => ∃ s' : SL, e = .returned s'.val ∧ Rd elI P w.heap.size w'.heap.size s' l w' ∧ Below w.heap.size w w' := by
  obtain ⟨a, n, c⟩ := s
  rcases a with _ | A
  · obtain ⟨h1, h2⟩ := h.nil rfl
    simp only at h1 h2
    subst h1 h2
    have h0 : l = [] := List.eq_nil_of_length_eq_zero h.n.symm
    subst h0
    refine (clone_ids_nil w).mono ?_
    rintro e w' ⟨rfl, rfl⟩
    exact ⟨.nil, rfl, Rd.empty _ _ _ _ _, Below.refl _ _⟩
  · obtain ⟨i0, hi0, hz0, hz1, hz2⟩ := info_parts info30
    have hx := h.below ((Below.refl w.heap.size w).alloc (Nat.le_refl _) (.cells #[] 30))
    have hrow := World.ownsRow_made (base := w.heap.size) (e := 30) (size := 2) w #[] 0 (Nat.le_refl _) (by decide) rfl
    obtain ⟨r, w', hrun, hown, hgrow, -, -⟩ := app_run hx i0 _ 32 30 2 rfl rfl hrow Try.underlying32 hi0 hz0 hz1 rfl (by rw [hz2]; decide) (by omega) (by simp) 32
    have hq := fun (w : World) (a : Option Addr) (n c : Nat) => Lib.run_eql_slice_nil (P := Try.prog) w 32 30 a n c 0 0 Try.underlying32
    have hb := Below.grow ((Below.refl w.heap.size w).alloc (Nat.le_refl _) (.cells #[] 30)) hgrow (fun k hk => (World.ownsRow.lt hrow k hk).1) (by simp)
    rw [Nat.zero_add, List.nil_append] at hown
    obtain ⟨B, d, rfl, hR⟩ := rd_of_row (E := elI) (P := P) hown
    have HR := Lib.hid (And.intro hR hb)
    have hnc : n ≤ c := h.le
    have hcm : c ≤ 9223372036854775807 := h.c
    clear hR hb h hx hown hgrow hrow
    simp only [SL.val]
    go_enter Try.func38, Try.ntmps38
    go_wp2_with (first | (at_builtin; refine wpList_append_run rfl (.tmp 5) (.tmp 6) 32 rfl hrun ?_) | fail)
    go_ret
    exact ⟨⟨B, l.length, d⟩, rfl, HR.out.1, HR.out.2⟩
theorem info82 : (Try.prog.info? 82).map (fun i => (i.zero, i.size, i.bytes)) = some (some (.agg #[.int .i64 0, .int .i64 0, .int .i64 0]), 3, 24) := by kernel_rfl
set_option maxRecDepth 100000 in
set_option maxHeartbeats 1000000 in
theorem clone_ts {P lo hi : Nat} (s : SL) (l : List Tk) (w : World) (h : Rd elT P lo hi s l w) (hl : l.length ≤ 100000) :
    Calls Try.prog 39 #[s.val] w fun e w' => ∃ s' : SL, e = .returned s'.val ∧ Rd elT P w.heap.size w'.heap.size s' l w' ∧ Below w.heap.size w w' := by
  obtain ⟨a, n, c⟩ := s
  rcases a with _ | A
  · obtain ⟨h1, h2⟩ := h.nil rfl
    simp only at h1 h2
    subst h1 h2
    have h0 : l = [] := List.eq_nil_of_length_eq_zero h.n.symm
    subst h0
    refine (clone_ts_nil w).mono ?_
    rintro e w' ⟨rfl, rfl⟩
    exact ⟨.nil, rfl, Rd.empty _ _ _ _ _, Below.refl _ _⟩
  · obtain ⟨i0, hi0, hz0, hz1, hz2⟩ := info_parts info82
    have hx := h.below ((Below.refl w.heap.size w).alloc (Nat.le_refl _) (.cells #[] 82))
    have hrow := World.ownsRow_made (base := w.heap.size) (e := 82) (size := 3) w #[] 0 (Nat.le_refl _) (by decide) rfl
    obtain ⟨r, w', hrun, hown, hgrow, -, -⟩ := app_run hx i0 _ 34 82 3 rfl rfl hrow Try.underlying34 hi0 hz0 hz1 rfl (by rw [hz2]; decide) (by omega) (by simp) 34
    have hq := fun (w : World) (a : Option Addr) (n c : Nat) => Lib.run_eql_slice_nil (P := Try.prog) w 34 82 a n c 0 0 Try.underlying34
    have hb := Below.grow ((Below.refl w.heap.size w).alloc (Nat.le_refl _) (.cells #[] 82)) hgrow (fun k hk => (World.ownsRow.lt hrow k hk).1) (by simp)
    rw [Nat.zero_add, List.nil_append] at hown
    obtain ⟨B, d, rfl, hR⟩ := rd_of_row (E := elT) (P := P) hown
    have HR := Lib.hid (And.intro hR hb)
    have hnc : n ≤ c := h.le
    have hcm : c ≤ 9223372036854775807 := h.c
    clear hR hb h hx hown hgrow hrow
    simp only [SL.val]
    go_enter Try.func39, Try.ntmps39
    go_wp2_with (first | (at_builtin; refine wpList_append_run rfl (.tmp 5) (.tmp 6) 34 rfl hrun ?_) | fail)
    go_ret
    exact ⟨⟨B, l.length, d⟩, rfl, HR.out.1, HR.out.2⟩
end Go.Proofs.Ytjdhdmljchnidaa
