/-
  The document's frames under way: a struct of a bound and a slice that is made anew by each act.
-/
import Derived.Test.YtialfpmfiapepaaOrd
import Derived.Test.YtialfpmfiapepaaRefBend
namespace Go.Proofs.Ytialfpmfiapepaa
open Go.RowKit
set_option linter.unusedVariables false
set_option linter.unusedSimpArgs false
attribute [local go_sem ↓] Go.wp_at_zero Go.wp_at_succ
theorem info53 : (Try.prog.info? 53).map (fun i => (i.zero, i.size, i.bytes)) = some (some (.agg #[.string .empty, .int .i64 0, .bool false]), 3, 32) := by kernel_rfl
/-- One block of the old ones alone may have turned. -/
structure Keep (B : Nat) (w w' : World) : Prop where
  os : w'.os = w.os
  tape : w'.tape = w.tape
  output : w'.output = w.output
  size : w.heap.size ≤ w'.heap.size
  block : ∀ k, k < w.heap.size → k ≠ B → w'.heap[k]? = w.heap[k]?
theorem Keep.refl (B : Nat) (w : World) : Keep B w w := ⟨rfl, rfl, rfl, Nat.le_refl _, fun _ _ _ => rfl⟩
theorem Keep.of_below {B : Nat} {w w' : World} (h : Below w.heap.size w w') : Keep B w w' := ⟨h.os, h.tape, h.output, h.size, fun k hk _ => h.block k hk⟩
theorem Keep.trans {B : Nat} {a b c : World} (h : Keep B a b) (k : Keep B b c) : Keep B a c :=
  ⟨k.os.trans h.os, k.tape.trans h.tape, k.output.trans h.output, Nat.le_trans h.size k.size, fun i hi hB => (k.block i (Nat.lt_of_lt_of_le hi h.size) hB).trans (h.block i hi hB)⟩
theorem Keep.setCell {B : Nat} {a w : World} (h : Keep B a w) {p : Addr} (hp : p.block = B ∨ a.heap.size ≤ p.block) (u : Value) : Keep B a (w.setCell p u) :=
  ⟨h.os, h.tape, h.output, by simp only [World.setCell, Array.size_modify]; exact h.size, fun k hk hB => by
    rw [Below.heap_setCell _ _ _ _ (by rcases hp with e | e <;> omega)]; exact h.block k hk hB⟩
/-- A row of the document's. -/
def Of53 (b : Nat) (w : World) : Prop := ∃ (cur : Array Value) (fz : Nat × Nat), w.heap[b]? = some (.cells cur 53 fz)
/-- v reads l; its block lies from P on, and is not R. -/
def Rd (P R : Nat) (v : Value) (l : List U) (w : World) : Prop :=
  ∃ (oa : Option Addr) (c : Nat), v = .slice oa l.length c ∧ l.length ≤ c ∧ c ≤ maxLen ∧ ((oa = none ∧ l = [] ∧ c = 0) ∨
    ∃ b off, oa = some ⟨b, off, none⟩ ∧ P ≤ b ∧ b < w.heap.size ∧ b ≠ R ∧ Of53 b w ∧ ∀ j u, (rows l)[j]? = some u → w.cell? ⟨b, off + j, none⟩ = some u)
theorem Rd.same {P R : Nat} {v : Value} {l : List U} {w w' : World} (h : Rd P R v l w) (hs : w.heap.size ≤ w'.heap.size) (hb : ∀ k, P ≤ k → k < w.heap.size → k ≠ R → w'.heap[k]? = w.heap[k]?) : Rd P R v l w' := by
  obtain ⟨oa, c, e, h1, h2, h3⟩ := h
  refine ⟨oa, c, e, h1, h2, ?_⟩
  rcases h3 with h3 | ⟨b, off, e2, hP, hlt, hR, ht, hc⟩
  · exact .inl h3
  · exact .inr ⟨b, off, e2, hP, Nat.lt_of_lt_of_le hlt hs, hR, (by obtain ⟨cur, fz, e⟩ := ht; exact ⟨cur, fz, (hb b hP hlt hR).trans e⟩), fun j u hj => (World.cell?_of_block (a := ⟨b, off + j, none⟩) (hb b hP hlt hR)).trans (hc j u hj)⟩
/-- The document's net. -/
structure Doc (P R : Nat) (v : Value) (n : N) (w : World) : Prop where
  here : w.heap[R]? = some (.cells #[.int .i64 n.max, v] 58 (0, 0))
  rd : Rd P R v n.l w
  ok : n.Ok
  pR : P ≤ R
section
variable {P R : Nat} {v v' : Value} {n n' : N} {w w' : World}
theorem Doc.lt (h : Doc P R v n w) : R < w.heap.size := (Array.getElem?_eq_some_iff.1 h.here).1
theorem Doc.reads (h : Doc P R v n w) : w.cell? ⟨R, 0, none⟩ = some (.int .i64 n.max) ∧ w.cell? ⟨R, 1, none⟩ = some v := by
  refine ⟨?_, ?_⟩ <;> (rw [cell_of_row _ _ _ _ _ _ h.here]; rfl)
theorem Doc.free (h : Doc P R v n w) (o : Nat) : w.frozen? ⟨R, o, none⟩ = false := frozen_of_row _ _ _ _ _ h.here
theorem Doc.kept (h : Doc P R v n w) (hb : Below w.heap.size w w') : Doc P R v n w' := ⟨(hb.block _ h.lt).trans h.here, h.rd.same hb.size (fun k _ hk _ => hb.block k hk), h.ok, h.pR⟩
theorem Doc.alloc (h : Doc P R v n w) (o : Obj) : Doc P R v n (w.alloc o) := h.kept ((Below.refl _ _).alloc (Nat.le_refl _) _)
theorem Doc.drew (h : Doc P R v n w) : Doc P R v n w.drew := ⟨h.here, h.rd.same (Nat.le_refl _) (fun _ _ _ _ => rfl), h.ok, h.pR⟩
theorem Doc.drewN (h : Doc P R v n w) (k : Nat) : Doc P R v n (w.drewN k) := ⟨h.here, h.rd.same (Nat.le_refl _) (fun _ _ _ _ => rfl), h.ok, h.pR⟩
theorem Doc.form (h : Doc P R v n w) : ∃ oa c, v = .slice oa n.l.length c := by obtain ⟨oa, c, e, -⟩ := h.rd; exact ⟨oa, c, e⟩
/-- What an act makes of it. -/
def DidD (P R : Nat) (n' : N) (w w' : World) : Prop := ∃ v', Doc P R v' n' w' ∧ Keep R w w'
/-- The slice is set into its field: it lies in a row of the call's own. -/
theorem Doc.set {w0 : World} (h : Doc P R v n w0) (hK : Below w0.heap.size w0 w) (l : List U) (hok : N.Ok ⟨n.max, l⟩) (hr : Rd w0.heap.size R v' l w) : Doc P R v' ⟨n.max, l⟩ (w.setCell ⟨R, 1, none⟩ v') ∧ Keep R w0 (w.setCell ⟨R, 1, none⟩ v') := by
  have hB := (hK.block _ h.lt).trans h.here
  refine ⟨⟨?_, ?_, hok, h.pR⟩, (Keep.of_below hK).setCell (p := ⟨R, 1, none⟩) (.inl rfl) _⟩
  · rw [heap_setCell_same _ _ _ _ _ _ hB]; rfl
  · obtain ⟨oa, c, e, h1, h2, h3⟩ := hr
    refine ⟨oa, c, e, h1, h2, ?_⟩
    rcases h3 with h3 | ⟨b, off, e2, hP, hlt, hR, ht, hc⟩
    · exact .inl h3
    · refine .inr ⟨b, off, e2, Nat.le_trans (Nat.le_trans h.pR (Nat.le_of_lt h.lt)) hP, by simpa using hlt, hR, (by obtain ⟨cur, fz, e⟩ := ht; exact ⟨cur, fz, (Below.heap_setCell _ _ _ _ hR).trans e⟩), fun j u hj => ?_⟩
      rw [World.cell?_setCell_other _ _ _ _ (by simp; try omega)]
      exact hc j u hj
end
/-- append of what reads l to a row of the call's own. -/
theorem app_run {P R base : Nat} {w : World} {v0 x : Value} {n0 : Nat} {xs : List Value} {l : List U} (hown : w.ownsRow base 53 3 v0 n0 xs) (hx : Rd P R x l w) (ty : TypeId) (hn : n0 + l.length ≤ 100000) (hbase : base ≤ w.heap.size) :
    ∃ r w', (Builtin.append_ #[56, 56] ty #[v0, x]).run Try.prog w = .ok r w' ∧ w'.ownsRow base 53 3 r (n0 + l.length) (xs ++ rows l) ∧ w.grownBy w' v0.ownBlock ∧ (v0.ownBlock ≠ none → r.ownBlock ≠ none) := by
  obtain ⟨i0, hi0, hz0, hz1, hz2⟩ := info_parts info53
  obtain ⟨oa, c, rfl, h1, h2, h3⟩ := hx
  rcases h3 with ⟨rfl, rfl, rfl⟩ | ⟨b, off, rfl, hP, hlt, hR, ht, hc⟩
  · have hr := run_append_owned_none (P := Try.prog) w base 56 ty 53 i0 3 Try.underlying56 hi0 v0 n0 xs hown
    exact ⟨v0, w, hr, by simpa [rows] using hown, World.grownBy.refl _ _, id⟩
  · obtain ⟨r, w', hr, h5, h6, -, h8⟩ := run_append_own_at (P := Try.prog) w base 56 ty 53 i0 _ 3 32 Try.underlying56 hi0 hz0 hz1 hz2 rfl (by decide) v0 n0 xs hown ⟨b, off, none⟩ l.length c (rows l) (rows_length l) (fun j u hj => by rw [Addr.add_lit]; exact hc j u hj) (rows_one l) (by unfold maxLen; omega) (by omega) hbase
    refine ⟨r, w', hr, h5, h6, fun hne => ?_⟩
    rcases h8 with h8 | h8
    · rw [h8]; exact hne
    · rw [h8]; simp
/-- A row of the call's own reads so. -/
theorem rd_of_row {base R : Nat} {w : World} {r : Value} {l : List U} (h : w.ownsRow base 53 3 r l.length (rows l)) (hR : R < base) : Rd base R r l w := by
  rcases h.2 with ⟨rfl, h0⟩ | ⟨g, cap, cur, rfl, hb, hg, hnc, hcm, hcs, htake⟩
  · have : l = [] := List.eq_nil_of_length_eq_zero h0
    subst this
    exact ⟨none, 0, rfl, Nat.le_refl _, by decide, .inl ⟨rfl, rfl, rfl⟩⟩
  · refine ⟨some ⟨g, 0, none⟩, cap, rfl, hnc, hcm, .inr ⟨g, 0, rfl, hb, (Array.getElem?_eq_some_iff.1 hg).1, by omega, ⟨cur, _, hg⟩, fun j u hj => ?_⟩⟩
    have := World.ownsRow.cells h (g := g) rfl j u hj
    rwa [Addr.add_lit] at this
theorem rnew_yes (P : Nat) (m : Int) (w : World) (h1 : 1 ≤ m) (h2 : m ≤ 65536) (hP : P ≤ w.heap.size) :
    Calls Try.prog 20 #[.int .i64 m] w fun e w' => e = .returned (.tuple #[.pointer (some ⟨w.heap.size, 0, none⟩), .int .i64 0]) ∧ Doc P w.heap.size (.slice none 0 0) ⟨m, []⟩ w' ∧ Below w.heap.size w w' := by
  go_enter Try.func20, Try.ntmps20
  go_wp2
  go_ret2
  exact ⟨rfl, ⟨heap_alloc_new _ _, ⟨none, 0, rfl, Nat.le_refl _, by decide, .inl ⟨rfl, rfl, rfl⟩⟩, ⟨h1, h2, by simp; omega⟩, hP⟩, (Below.refl _ _).alloc (Nat.le_refl _) _⟩
theorem rnew_no (m : Int) (w : World) (h : m < 1 ∨ 65536 < m) :
    Calls Try.prog 20 #[.int .i64 m] w fun e w' => e = .returned (.tuple #[.pointer none, .int .i64 1]) ∧ w' = w := by
  by_cases h1 : m < 1
  · go_enter Try.func20, Try.ntmps20
    go_wp2
    go_ret2
    exact ⟨rfl, rfl⟩
  · have h2 : 65536 < m := by omega
    clear h
    go_enter Try.func20, Try.ntmps20
    go_wp2
    go_ret2
    exact ⟨rfl, rfl⟩
theorem ris_any (P R : Nat) (v : Value) (n : N) (k : Int) (w : World) (h : Doc P R v n w) :
    Calls Try.prog 36 #[.pointer (some ⟨R, 0, none⟩), .int .i64 k] w fun e w' => e = .returned (.bool (n.has k)) ∧ w' = w := by
  obtain ⟨c0, c1⟩ := h.reads
  obtain ⟨oa, c, rfl⟩ := h.form
  unfold N.has
  by_cases h0 : 0 ≤ k
  · by_cases h1 : k < n.l.length
    · go_enter Try.func36, Try.ntmps36
      go_wp2_with fail
      go_ret
      exact ⟨ret_b (by simp [h0, h1]), rfl⟩
    · go_enter Try.func36, Try.ntmps36
      go_wp2_with fail
      go_ret
      exact ⟨ret_b (by simp [h0, h1]), rfl⟩
  · go_enter Try.func36, Try.ntmps36
    go_wp2_with fail
    go_ret
    exact ⟨ret_b (by simp [h0]; try omega), rfl⟩
end Go.Proofs.Ytialfpmfiapepaa
