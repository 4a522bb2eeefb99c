/-
  A holder in memory, a frame by value; what a call of the holder's leaves alone.
-/
import Derived.Test.YtfbmjaelkijmnaaProg
import Derived.WalkKit
import Derived.WalkSpells
import Derived.WalkLawsBesides
import Derived.Lib.Hide
import Derived.Deep.QuietTactic
import Derived.BigQuiet
import Derived.Deep.RegionHeld3
namespace Go.Proofs.Ytfbmjaelkijmnaa
open Go.RowKit

/-! ### Worlds -/
theorem then_below {w a b : World} (h : Below w.heap.size w a) (k : Below a.heap.size a b) : Below w.heap.size w b := h.trans (k.mono h.size)
theorem below_drewN {B : Nat} {a w : World} (h : Below B a w) (n : Nat) : Below B a (w.drewN n) := ⟨h.os, h.tape, h.output, h.size, h.block⟩
theorem setCell_drewN (w : World) (n : Nat) (p : Addr) (v : Value) : (w.drewN n).setCell p v = (w.setCell p v).drewN n := rfl
theorem alloc_drewN (w : World) (n : Nat) (o : Obj) : (w.drewN n).alloc o = (w.alloc o).drewN n := rfl
theorem drew_drewN (w : World) (n : Nat) : (w.drewN n).drew = w.drewN (n + 1) := rfl
attribute [go_sem] setCell_drewN alloc_drewN
/-- One block of the old ones alone may have turned. -/
structure Keep (B : Nat) (w w' : World) : Prop where
  os : w'.os = w.os
  tape : w'.tape = w.tape
  output : w'.output = w.output
  size : w.heap.size ≤ w'.heap.size
  block : ∀ k, k < w.heap.size → k ≠ B → w'.heap[k]? = w.heap[k]?
theorem Keep.refl (B : Nat) (w : World) : Keep B w w := ⟨rfl, rfl, rfl, Nat.le_refl _, fun _ _ _ => rfl⟩
theorem Keep.of_below {B : Nat} {w w' : World} (h : Below w.heap.size w w') : Keep B w w' := ⟨h.os, h.tape, h.output, h.size, fun k hk _ => h.block k hk⟩
theorem Keep.trans {B : Nat} {a b c : World} (h : Keep B a b) (k : Keep B b c) : Keep B a c :=
  ⟨k.os.trans h.os, k.tape.trans h.tape, k.output.trans h.output, Nat.le_trans h.size k.size, fun i hi hB => (k.block i (Nat.lt_of_lt_of_le hi h.size) hB).trans (h.block i hi hB)⟩
theorem Keep.drew {B : Nat} {a w : World} (h : Keep B a w) : Keep B a w.drew := ⟨h.os, h.tape, h.output, h.size, h.block⟩
theorem Keep.drewN {B : Nat} {a w : World} (h : Keep B a w) (n : Nat) : Keep B a (w.drewN n) := ⟨h.os, h.tape, h.output, h.size, h.block⟩
theorem Keep.alloc {B : Nat} {a w : World} (h : Keep B a w) (o : Obj) : Keep B a (w.alloc o) :=
  h.trans ⟨rfl, rfl, rfl, by simp, fun k hk _ => Below.heap_alloc _ _ _ hk⟩
/-- A store into the block, or into one that is new. -/
theorem Keep.setCell {B : Nat} {a w : World} (h : Keep B a w) {p : Addr} (hp : p.block = B ∨ a.heap.size ≤ p.block) (u : Value) : Keep B a (w.setCell p u) :=
  ⟨h.os, h.tape, h.output, by simp only [World.setCell, Array.size_modify]; exact h.size, fun k hk hB => by
    rw [Below.heap_setCell _ _ _ _ (by rcases hp with e | e <;> omega)]; exact h.block k hk hB⟩
theorem Keep.below {A B : Nat} {w w' : World} (h : Keep B w w') (hB : A ≤ B) (hA : A ≤ w.heap.size) : Below A w w' :=
  ⟨h.os, h.tape, h.output, h.size, fun k hk => h.block k (by omega) (by omega)⟩
theorem Keep.cell {B : Nat} {w w' : World} (h : Keep B w w') {p : Addr} (hp : p.block < w.heap.size) (hB : p.block ≠ B) : w'.cell? p = w.cell? p :=
  World.cell?_of_block (w := w) (h.block p.block hp hB)
theorem Keep.frozen {B : Nat} {w w' : World} (h : Keep B w w') {p : Addr} (hp : p.block < w.heap.size) (hB : p.block ≠ B) : w'.frozen? p = w.frozen? p :=
  World.frozen?_of_block (w := w) (h.block p.block hp hB)

/-! ### The holder -/
abbrev i64 (n : Int) : Value := .int .i64 n
/-- A holder: who it is, its two numbers, its last question (number, time, does it wait, its kind), its lease (token, time of the question), was it refused. -/
structure St where
  addr : Int
  inc : Int
  hold : Int
  retry : Int
  n : Int
  asked : Int
  waits : Bool
  kind : Int
  token : Int
  since : Int
  refused : Bool
def St.cells (s : St) : Array Value := #[.int .i64 s.addr, .int .i64 s.inc, .int .i64 s.hold, .int .i64 s.retry, .int .i64 s.n, .int .i64 s.asked, .bool s.waits, .int .u8 s.kind, .int .i64 s.token, .int .i64 s.since, .bool s.refused]
/-- The block holds just that holder. -/
def At (B : Nat) (s : St) (w : World) : Prop := w.heap[B]? = some (.cells s.cells 70 (0, 0))
theorem At.lt {B : Nat} {s : St} {w : World} (h : At B s w) : B < w.heap.size := (Array.getElem?_eq_some_iff.1 h).1
theorem At.free {B : Nat} {s : St} {w : World} (h : At B s w) (o : Nat) : w.frozen? ⟨B, o, none⟩ = false := frozen_of_row _ _ _ _ _ h
theorem At.cell {B : Nat} {s : St} {w : World} (h : At B s w) (o : Nat) : w.cell? ⟨B, o, none⟩ = s.cells[o]? := cell_of_row _ _ _ _ _ _ h
theorem At.kept {B : Nat} {s : St} {w w' : World} (h : At B s w) (hb : Below w.heap.size w w') : At B s w' := by
  unfold At; rw [hb.block B h.lt]; exact h
theorem At.other {B C : Nat} {s : St} {w w' : World} (h : At B s w) (hb : Keep C w w') (hC : B ≠ C) : At B s w' := by
  unfold At; rw [hb.block B h.lt hC]; exact h
/-- All that a walk reads of a holder. -/
theorem At.reads {B : Nat} {s : St} {w : World} (h : At B s w) :
    w.cell? ⟨B, 0, none⟩ = some (.int .i64 s.addr) ∧ w.cell? ⟨B, 1, none⟩ = some (.int .i64 s.inc) ∧ w.cell? ⟨B, 2, none⟩ = some (.int .i64 s.hold) ∧ w.cell? ⟨B, 3, none⟩ = some (.int .i64 s.retry) ∧
    w.cell? ⟨B, 4, none⟩ = some (.int .i64 s.n) ∧ w.cell? ⟨B, 5, none⟩ = some (.int .i64 s.asked) ∧ w.cell? ⟨B, 6, none⟩ = some (.bool s.waits) ∧ w.cell? ⟨B, 7, none⟩ = some (.int .u8 s.kind) ∧
    w.cell? ⟨B, 8, none⟩ = some (.int .i64 s.token) ∧ w.cell? ⟨B, 9, none⟩ = some (.int .i64 s.since) ∧ w.cell? ⟨B, 10, none⟩ = some (.bool s.refused) := by
  refine ⟨?_, ?_, ?_, ?_, ?_, ?_, ?_, ?_, ?_, ?_, ?_⟩ <;> (rw [h.cell]; rfl)
theorem At.set {B : Nat} {s : St} {w : World} (h : At B s w) (o : Nat) (v : Value) (s' : St) (hs : s.cells.setIfInBounds o v = s'.cells) : At B s' (w.setCell ⟨B, o, none⟩ v) := by
  unfold At; rw [heap_setCell_same _ _ _ _ _ _ h, hs]
theorem At.drew {B : Nat} {s : St} {w : World} (h : At B s w) : At B s w.drew := h
theorem At.drewN {B : Nat} {s : St} {w : World} (h : At B s w) (n : Nat) : At B s (w.drewN n) := h
theorem At.alloc {B : Nat} {s : St} {w : World} (h : At B s w) (o : Obj) : At B s (w.alloc o) := by
  unfold At; rw [Below.heap_alloc _ _ _ h.lt]; exact h
theorem At.setOther {B : Nat} {s : St} {w : World} (h : At B s w) {p : Addr} (hp : p.block ≠ B) (u : Value) : At B s (w.setCell p u) := by
  unfold At; rw [Below.heap_setCell _ _ _ _ (Ne.symm hp)]; exact h
/-- The numbers that a holder may bear. -/
structure St.Ok (s : St) : Prop where
  h1 : 1 ≤ s.hold
  h2 : s.hold ≤ 4096
  r1 : 1 ≤ s.retry
  r2 : s.retry ≤ 4096
  n1 : 0 ≤ s.n
  n2 : s.n ≤ 1000000
  a1 : 0 ≤ s.asked
  a2 : s.asked ≤ 1099511627776
  s1 : 0 ≤ s.since
  s2 : s.since ≤ 1099511627776

/-! ### What the holder does, in plain words -/
/-- A frame that bears no view. -/
structure Fr where
  kind : Int
  fa : Int
  fi : Int
  ta : Int
  ti : Int
  n : Int
  token : Int
def Fr.zero : Fr := ⟨0, 0, 0, 0, 0, 0, 0⟩
def Fr.cells (f : Fr) : Array Value := #[.int .u8 f.kind, .int .i64 f.fa, .int .i64 f.fi, .int .i64 f.ta, .int .i64 f.ti, .int .i64 f.n, .int .i64 f.token, .int .i64 0, .int .i64 0,
  .slice none 0 0, .slice none 0 0, .slice none 0 0, .slice none 0 0, .slice none 0 0]
def Fr.val (f : Fr) : Value := .agg f.cells
theorem Fr.size (f : Fr) : f.cells.size = 14 := rfl
theorem Fr.one (f : Fr) : ∀ v ∈ f.cells.toList, v.oneCell' = true := by
  intro v hv
  simp only [Fr.cells, List.mem_cons, List.not_mem_nil, or_false] at hv
  rcases hv with rfl | rfl | rfl | rfl | rfl | rfl | rfl | rfl | rfl | rfl | rfl | rfl | rfl | rfl <;> rfl
theorem size37 : (Try.prog.info? 37).map (·.size) = some 14 := by kernel_rfl
/-- A frame laid whole into a block that holds a frame. -/
theorem Fr.lay (f : Fr) (v : World) (g : Nat) (c : Array Value) (hg : v.heap[g]? = some (.cells c 37 (0, 0))) (hc : c.size = 14) :
    ∃ v', (storeCells ⟨g, 0, none⟩ f.cells.toList).run Try.prog v = .ok () v' ∧ v'.heap[g]? = some (.cells f.cells 37 (0, 0)) ∧ Keep g v v' := by
  have h := run_storeCells_at Try.prog g 0 37 f.cells.toList 0 c v hg (by simp [Fr.size, hc]) f.one
  refine ⟨_, h, ?_, rfl, rfl, rfl, by simp, fun k hk hne => setRow_other _ _ _ _ hne⟩
  rw [setRow_heap _ _ _ _ _ _ hg]
  congr 2
  apply Array.ext'
  simp [hc, Fr.size]
theorem Fr.load (f : Fr) (v : World) (g : Nat) (hg : v.heap[g]? = some (.cells f.cells 37 (0, 0))) : (loadVar 37 ⟨g, 0, none⟩).run Try.prog v = .ok (.agg f.cells) v :=
  run_loadVar_row v g 37 37 f.cells (0, 0) _ hg Try.underlying37 rfl (by rw [f.size]; exact size37)
/-- Two results: a frame that lies in a block, and what a slot holds. -/
theorem ends_frame {fn : Func} (R : Ending → World → Prop) {a : Act} {w : World} {p t : Tmp} (f : Fr) (g : Nat) (v : Value) (hr : fn.results = #[.cell p 37, .tmp t]) (hp : a.tmps.getD p undef = .pointer (some ⟨g, 0, none⟩))
    (ht : a.tmps.getD t undef = v) (hg : w.heap[g]? = some (.cells f.cells 37 (0, 0))) (hd : a.defers = []) (h : R (.returned (.tuple #[f.val, v])) w) : bodyPost Try.prog fn R .ret a w := by
  refine bodyPost_ret (v := .tuple #[f.val, v]) ?_ hd h
  have hp' : a.tmps[p]?.getD undef = .pointer (some ⟨g, 0, none⟩) := by simpa using hp
  have ht' : a.tmps[t]?.getD undef = v := by simpa using ht
  simp [results, hr, hp', ht', asAddr, Fr.load f w g hg, Fr.val]
/-- A time, as it counts. -/
def St.time (s : St) (now : Int) : Int := min (max (max now s.asked) 0) 1099511627776
def St.holds (s : St) (now : Int) : Bool := !(s.token == 0 && s.since == 0) && decide (s.time now - s.since < s.hold)
/-- A question more. -/
def St.ask (s : St) (kind t : Int) : St := { s with n := s.n + 1, asked := t, waits := true, kind := kind }
def St.asks (s : St) (kind : Int) : Fr := ⟨kind, s.addr, s.inc, 0, 0, s.n + 1, s.token⟩
def St.none (s : St) : St := { s with token := 0, since := 0 }
def St.want (s : St) (now : Int) : St × Fr × Bool :=
  if (s.refused || (s.waits && decide (s.time now - s.asked < s.retry))) = true then (s, .zero, false)
  else if s.holds (s.time now) = false then (s.none.ask 9 (s.time now), s.none.asks 9, true)
  else if (s.waits || decide (max 1 (s.hold / 3) ≤ s.time now - s.since)) = true then (s.ask 10 (s.time now), s.asks 10, true)
  else (s, .zero, false)
/-- An answer taken. -/
def St.take (s : St) (f : Fr) : St × Bool :=
  if s.waits = false then (s, false)
  else if (f.n != s.n) = true then (s, false)
  else if (f.kind != 12 && f.kind != 13) = true then (s, false)
  else if (f.kind == 12 && decide (0 < f.token)) = true then ({ s with waits := false, token := f.token, since := s.asked }, true)
  else ({ s with waits := false, token := 0, since := 0, refused := s.refused || s.kind == 9 }, true)
/-- The lease let go. -/
def St.drop (s : St) : St × Fr × Bool :=
  ({ s with waits := false, token := 0, since := 0 }, if (s.token == 0) = true then .zero else ⟨11, s.addr, s.inc, 0, 0, 0, s.token⟩, !(s.token == 0))
end Go.Proofs.Ytfbmjaelkijmnaa
