/-
  The box in memory, and what a call of it leaves alone.
-/
import Derived.Test.YtjdhdmljchnidaaDel
import Derived.Test.YtjdhdmljchnidaaPlain
namespace Go.Proofs.Ytjdhdmljchnidaa
open Go.RowKit
set_option linter.unusedVariables false
set_option linter.unusedSimpArgs false
/-- Block B holds the box n, whose frames are v's (in a block from P on). -/
structure Nt (P B : Nat) (v : Value) (n : N) (w : World) : Prop where
  here : w.heap[B]? = some (.cells #[.int .i64 n.max, v] 71 (0, 0))
  row : w.ownsRow P 38 14 v n.l.length (rows n.l)
  ne : v.ownBlock ≠ some B
  ok : n.Ok
  pB : P ≤ B
/-- Only the block B, and that of the slice v, have turned. -/
structure Turn (B : Nat) (v v' : Value) (w w' : World) : Prop where
  os : w'.os = w.os
  tape : w'.tape = w.tape
  output : w'.output = w.output
  size : w.heap.size ≤ w'.heap.size
  block : ∀ k, k < w.heap.size → k ≠ B → v.ownBlock ≠ some k → w'.heap[k]? = w.heap[k]?
  own : ∀ k, v'.ownBlock = some k → v.ownBlock = some k ∨ w.heap.size ≤ k
section
variable {P B C : Nat} {v v' v'' u : Value} {n n' m : N} {W w w' w'' : World}
theorem Turn.refl (B : Nat) (v : Value) (w : World) : Turn B v v w w := ⟨rfl, rfl, rfl, Nat.le_refl _, fun _ _ _ _ => rfl, fun _ h => .inl h⟩
theorem Turn.of_below (h : Below w.heap.size w w') : Turn B v v w w' := ⟨h.os, h.tape, h.output, h.size, fun k hk _ _ => h.block k hk, fun _ h => .inl h⟩
theorem Turn.trans (h : Turn B v v' w w') (g : Turn B v' v'' w' w'') : Turn B v v'' w w'' :=
  ⟨g.os.trans h.os, g.tape.trans h.tape, g.output.trans h.output, Nat.le_trans h.size g.size, fun k hk hB hv => (g.block k (Nat.lt_of_lt_of_le hk h.size) hB (fun e => by
      rcases h.own k e with e | e
      · exact hv e
      · omega)).trans (h.block k hk hB hv),
    fun k hk => by
      rcases g.own k hk with e | e
      · exact h.own k e
      · exact .inr (Nat.le_trans h.size e)⟩
theorem Turn.drew (h : Turn B v v' w w') : Turn B v v' w w'.drew := ⟨h.os, h.tape, h.output, h.size, h.block, h.own⟩
theorem Turn.drewN (h : Turn B v v' w w') (k : Nat) : Turn B v v' w (w'.drewN k) := ⟨h.os, h.tape, h.output, h.size, h.block, h.own⟩
theorem Turn.alloc (h : Turn B v v' w w') (o : Obj) : Turn B v v' w (w'.alloc o) := h.trans (Turn.of_below ((Below.refl _ _).alloc (Nat.le_refl _) o))
/-- A store into the block, or into a new one. -/
theorem Turn.setCell (h : Turn B v v' w w') {p : Addr} (hp : p.block = B ∨ w.heap.size ≤ p.block) (x : Value) : Turn B v v' w (w'.setCell p x) :=
  ⟨h.os, h.tape, h.output, by simp only [World.setCell, Array.size_modify]; exact h.size, fun k hk hB hv => by
    rw [Below.heap_setCell _ _ _ _ (by rcases hp with e | e <;> omega)]; exact h.block k hk hB hv, h.own⟩
/-- The slice is another one now. -/
theorem Turn.grown (h : Turn B v v' w w') (g : w'.grownBy w'' v'.ownBlock) (hown : ∀ k, v''.ownBlock = some k → v'.ownBlock = some k ∨ w'.heap.size ≤ k) : Turn B v v'' w w'' :=
  h.trans ⟨g.os, g.tape, g.output, g.size, fun k hk _ hv => g.block k hk (fun e => hv e.symm), hown⟩
theorem Turn.cell (h : Turn B v v' w w') {p : Addr} (hp : p.block < w.heap.size) (hB : p.block ≠ B) (hv : v.ownBlock ≠ some p.block) : w'.cell? p = w.cell? p :=
  World.cell?_of_block (w := w) (h.block p.block hp hB hv)
theorem Turn.frozen (h : Turn B v v' w w') {p : Addr} (hp : p.block < w.heap.size) (hB : p.block ≠ B) (hv : v.ownBlock ≠ some p.block) : w'.frozen? p = w.frozen? p :=
  World.frozen?_of_block (w := w) (h.block p.block hp hB hv)
theorem Nt.lt (h : Nt P B v n w) : B < w.heap.size := (Array.getElem?_eq_some_iff.1 h.here).1
theorem Nt.vlt (h : Nt P B v n w) : ∀ k, v.ownBlock = some k → P ≤ k ∧ k < w.heap.size := World.ownsRow.lt h.row
theorem Nt.free (h : Nt P B v n w) (o : Nat) : w.frozen? ⟨B, o, none⟩ = false := frozen_of_row _ _ _ _ _ h.here
theorem Nt.reads (h : Nt P B v n w) : w.cell? ⟨B, 0, none⟩ = some (.int .i64 n.max) ∧ w.cell? ⟨B, 1, none⟩ = some v := by
  refine ⟨?_, ?_⟩ <;> (rw [cell_of_row _ _ _ _ _ _ h.here]; rfl)
theorem Nt.kept (h : Nt P B v n w) (hb : Below w.heap.size w w') : Nt P B v n w' :=
  ⟨(hb.block _ h.lt).trans h.here, World.ownsRow.kept h.row (row := none) ⟨hb.os, hb.tape, hb.output, hb.size, fun k hk _ => hb.block k hk⟩ (by cases v.ownBlock <;> simp), h.ne, h.ok, h.pB⟩
theorem Nt.alloc (h : Nt P B v n w) (o : Obj) : Nt P B v n (w.alloc o) := h.kept ((Below.refl _ _).alloc (Nat.le_refl _) _)
theorem Nt.drewN (h : Nt P B v n w) (k : Nat) : Nt P B v n (w.drewN k) := ⟨h.here, h.row, h.ne, h.ok, h.pB⟩
theorem Nt.drew (h : Nt P B v n w) : Nt P B v n w.drew := ⟨h.here, h.row, h.ne, h.ok, h.pB⟩
/-- Another net, which lies apart, has turned. -/
structure Apart (B : Nat) (v : Value) (C : Nat) (u : Value) : Prop where
  bc : B ≠ C
  bu : u.ownBlock ≠ some B
  vc : v.ownBlock ≠ some C
  vu : ∀ k, v.ownBlock = some k → u.ownBlock ≠ some k
theorem Apart.symm (h : Apart B v C u) : Apart C u B v := ⟨Ne.symm h.bc, h.vc, h.bu, fun k hk e => h.vu k e hk⟩
theorem Nt.beside (h : Nt P C u m w) (ht : Turn B v v' w w') (ha : Apart B v C u) : Nt P C u m w' := by
  refine ⟨(ht.block _ h.lt (Ne.symm ha.bc) ha.vc).trans h.here, ⟨h.row.1, ?_⟩, h.ne, h.ok, h.pB⟩
  rcases h.row.2 with hn | ⟨g, cap, cur, rfl, hb, hgg, rest⟩
  · exact .inl hn
  · refine .inr ⟨g, cap, cur, rfl, hb, ?_, rest⟩
    rw [ht.block g (Array.getElem?_eq_some_iff.1 hgg).1 (fun e => ha.bu (by rw [← e]; rfl)) (fun e => ha.vu g e rfl)]
    exact hgg
theorem Apart.turn (ha : Apart B v C u) (ht : Turn B v v' w w') (hC : C < w.heap.size) (hu : ∀ k, u.ownBlock = some k → k < w.heap.size) : Apart B v' C u :=
  ⟨ha.bc, ha.bu, fun e => by rcases ht.own _ e with e | e; exact ha.vc e; omega, fun k hk e => by
    rcases ht.own _ hk with e' | e'
    · exact ha.vu k e' e
    · have := hu k e; omega⟩
/-- What a call leaves of the net. -/
def Did (P B : Nat) (v : Value) (n' : N) (w w' : World) : Prop := ∃ v', Nt P B v' n' w' ∧ Turn B v v' w w'
/-- The slice is set into its field. -/
theorem Nt.set (h : w.heap[B]? = some (.cells #[.int .i64 n.max, u] 71 (0, 0))) (hr : w.ownsRow P 38 14 v n.l.length (rows n.l)) (hne : v.ownBlock ≠ some B) (ok : n.Ok) (pB : P ≤ B) : Nt P B v n (w.setCell ⟨B, 1, none⟩ v) := by
  refine ⟨?_, ⟨hr.1, ?_⟩, hne, ok, pB⟩
  · rw [heap_setCell_same _ _ _ _ _ _ h]; rfl
  · rcases hr.2 with hn | ⟨g, cap, cur, rfl, hb, hgg, rest⟩
    · exact .inl hn
    · refine .inr ⟨g, cap, cur, rfl, hb, ?_, rest⟩
      rw [Below.heap_setCell _ _ _ _ (by intro e; exact hne (by show some g = some B; rw [e]))]
      exact hgg
theorem Nt.shape (h : Nt P B v n w) : (v = .slice none 0 0 ∧ n.l = []) ∨ ∃ g cap, v = .slice (some ⟨g, 0, none⟩) n.l.length cap ∧ P ≤ g ∧ g < w.heap.size ∧ n.l.length ≤ cap ∧ cap ≤ 9223372036854775807 ∧ g ≠ B := by
  rcases h.row.2 with ⟨h1, h2⟩ | ⟨g, cap, cur, h1, h2, h3, h4, h5, -⟩
  · exact .inl ⟨h1, List.eq_nil_of_length_eq_zero h2⟩
  · refine .inr ⟨g, cap, h1, h2, (Array.getElem?_eq_some_iff.1 h3).1, h4, by unfold maxLen at h5; omega, ?_⟩
    intro e; apply h.ne; rw [h1, e]; rfl
/-- The frame in place k, its cells. -/
theorem Nt.at_ {g cap : Nat} (h : Nt P B (.slice (some ⟨g, 0, none⟩) n.l.length cap) n w) (k : Nat) (hk : k < n.l.length) :
    w.cell? ⟨g, k * 14, none⟩ = some (.int .u8 n.l[k].kind) ∧ w.cell? ⟨g, k * 14 + 1, none⟩ = some (.int .i64 n.l[k].fa) ∧ w.cell? ⟨g, k * 14 + 2, none⟩ = some (.int .i64 n.l[k].fi) ∧ w.cell? ⟨g, k * 14 + 3, none⟩ = some (.int .i64 n.l[k].ta) ∧ w.cell? ⟨g, k * 14 + 4, none⟩ = some (.int .i64 n.l[k].ti) ∧ w.cell? ⟨g, k * 14 + 5, none⟩ = some (.int .i64 n.l[k].n) ∧ w.cell? ⟨g, k * 14 + 6, none⟩ = some (.int .i64 n.l[k].token) ∧ w.cell? ⟨g, k * 14 + 7, none⟩ = some (.int .i64 n.l[k].ba) ∧ w.cell? ⟨g, k * 14 + 8, none⟩ = some (.int .i64 n.l[k].bi) ∧ w.cell? ⟨g, k * 14 + 9, none⟩ = some (.slice n.l[k].ms.a n.l[k].ms.n n.l[k].ms.c) ∧ w.cell? ⟨g, k * 14 + 10, none⟩ = some (.slice n.l[k].fs.a n.l[k].fs.n n.l[k].fs.c) ∧ w.cell? ⟨g, k * 14 + 11, none⟩ = some (.slice n.l[k].rs.a n.l[k].rs.n n.l[k].rs.c) ∧ w.cell? ⟨g, k * 14 + 12, none⟩ = some (.slice n.l[k].cs.a n.l[k].cs.n n.l[k].cs.c) ∧ w.cell? ⟨g, k * 14 + 13, none⟩ = some (.slice n.l[k].ss.a n.l[k].ss.n n.l[k].ss.c) := by
  have hc : ∀ o, o < 14 → w.cell? ⟨g, k * 14 + o, none⟩ = n.l[k].cells[o]? := fun o ho => by
    rw [World.ownsRow.cellAt h.row _ (by omega), rows_get _ _ _ hk ho]
  exact ⟨hc 0 (by omega), hc 1 (by omega), hc 2 (by omega), hc 3 (by omega), hc 4 (by omega), hc 5 (by omega), hc 6 (by omega), hc 7 (by omega), hc 8 (by omega), hc 9 (by omega), hc 10 (by omega), hc 11 (by omega), hc 12 (by omega), hc 13 (by omega)⟩
end
/-- The cells of a frame that lies in a block of its own. -/
theorem Fr.reads {f : Fr} {w : World} {g : Nat} (h : w.heap[g]? = some (.cells f.cells 38 (0, 0))) :
    w.cell? ⟨g, 0, none⟩ = some (.int .u8 f.kind) ∧ w.cell? ⟨g, 1, none⟩ = some (.int .i64 f.fa) ∧ w.cell? ⟨g, 2, none⟩ = some (.int .i64 f.fi) ∧ w.cell? ⟨g, 3, none⟩ = some (.int .i64 f.ta) ∧ w.cell? ⟨g, 4, none⟩ = some (.int .i64 f.ti) ∧ w.cell? ⟨g, 5, none⟩ = some (.int .i64 f.n) ∧ w.cell? ⟨g, 6, none⟩ = some (.int .i64 f.token) ∧ w.cell? ⟨g, 7, none⟩ = some (.int .i64 f.ba) ∧ w.cell? ⟨g, 8, none⟩ = some (.int .i64 f.bi) ∧ w.cell? ⟨g, 9, none⟩ = some (.slice f.ms.a f.ms.n f.ms.c) ∧ w.cell? ⟨g, 10, none⟩ = some (.slice f.fs.a f.fs.n f.fs.c) ∧ w.cell? ⟨g, 11, none⟩ = some (.slice f.rs.a f.rs.n f.rs.c) ∧ w.cell? ⟨g, 12, none⟩ = some (.slice f.cs.a f.cs.n f.cs.c) ∧ w.cell? ⟨g, 13, none⟩ = some (.slice f.ss.a f.ss.n f.ss.c) := by
  refine ⟨?_, ?_, ?_, ?_, ?_, ?_, ?_, ?_, ?_, ?_, ?_, ?_, ?_, ?_⟩ <;> (rw [cell_of_row _ _ _ _ _ _ h]; rfl)
theorem Nt.len_form {P B : Nat} {v : Value} {n : N} {w : World} (h : Nt P B v n w) : ∃ oa cap, v = .slice oa n.l.length cap := by
  rcases h.shape with ⟨rfl, e⟩ | ⟨g, cap, rfl, -⟩
  · exact ⟨none, 0, by rw [e]; rfl⟩
  · exact ⟨_, cap, rfl⟩
end Go.Proofs.Ytjdhdmljchnidaa
