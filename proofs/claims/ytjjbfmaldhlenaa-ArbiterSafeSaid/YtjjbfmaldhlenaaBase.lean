/-
  An arbiter in memory, a frame by value; what a call of the arbiter's leaves alone.
-/
import Derived.Test.YtjjbfmaldhlenaaProg
import Derived.WalkKit
import Derived.WalkSpells
import Derived.WalkLawsBesides
import Derived.Lib.Hide
import Derived.Deep.QuietTactic
import Derived.BigQuiet
import Derived.Deep.RegionHeld3
namespace Go.Proofs.Ytjjbfmaldhlenaa
open Go.RowKit

/-! ### Worlds -/
theorem then_below {w a b : World} (h : Below w.heap.size w a) (k : Below a.heap.size a b) : Below w.heap.size w b := h.trans (k.mono h.size)
theorem below_drewN {B : Nat} {a w : World} (h : Below B a w) (n : Nat) : Below B a (w.drewN n) := ⟨h.os, h.tape, h.output, h.size, h.block⟩
theorem setCell_drewN (w : World) (n : Nat) (p : Addr) (v : Value) : (w.drewN n).setCell p v = (w.setCell p v).drewN n := rfl
theorem alloc_drewN (w : World) (n : Nat) (o : Obj) : (w.drewN n).alloc o = (w.alloc o).drewN n := rfl
theorem drew_drewN (w : World) (n : Nat) : (w.drewN n).drew = w.drewN (n + 1) := rfl
attribute [go_sem] setCell_drewN alloc_drewN
/-- One block of the old ones alone may have turned. -/
structure Keep (B : Nat) (w w' : World) : Prop where
  os : w'.os = w.os
  tape : w'.tape = w.tape
  output : w'.output = w.output
  size : w.heap.size ≤ w'.heap.size
  block : ∀ k, k < w.heap.size → k ≠ B → w'.heap[k]? = w.heap[k]?
theorem Keep.refl (B : Nat) (w : World) : Keep B w w := ⟨rfl, rfl, rfl, Nat.le_refl _, fun _ _ _ => rfl⟩
theorem Keep.of_below {B : Nat} {w w' : World} (h : Below w.heap.size w w') : Keep B w w' := ⟨h.os, h.tape, h.output, h.size, fun k hk _ => h.block k hk⟩
theorem Keep.trans {B : Nat} {a b c : World} (h : Keep B a b) (k : Keep B b c) : Keep B a c :=
  ⟨k.os.trans h.os, k.tape.trans h.tape, k.output.trans h.output, Nat.le_trans h.size k.size, fun i hi hB => (k.block i (Nat.lt_of_lt_of_le hi h.size) hB).trans (h.block i hi hB)⟩
theorem Keep.drew {B : Nat} {a w : World} (h : Keep B a w) : Keep B a w.drew := ⟨h.os, h.tape, h.output, h.size, h.block⟩
theorem Keep.drewN {B : Nat} {a w : World} (h : Keep B a w) (n : Nat) : Keep B a (w.drewN n) := ⟨h.os, h.tape, h.output, h.size, h.block⟩
theorem Keep.alloc {B : Nat} {a w : World} (h : Keep B a w) (o : Obj) : Keep B a (w.alloc o) :=
  h.trans ⟨rfl, rfl, rfl, by simp, fun k hk _ => Below.heap_alloc _ _ _ hk⟩
/-- A store into the block, or into one that is new. -/
theorem Keep.setCell {B : Nat} {a w : World} (h : Keep B a w) {p : Addr} (hp : p.block = B ∨ a.heap.size ≤ p.block) (u : Value) : Keep B a (w.setCell p u) :=
  ⟨h.os, h.tape, h.output, by simp only [World.setCell, Array.size_modify]; exact h.size, fun k hk hB => by
    rw [Below.heap_setCell _ _ _ _ (by rcases hp with e | e <;> omega)]; exact h.block k hk hB⟩
theorem Keep.below {A B : Nat} {w w' : World} (h : Keep B w w') (hB : A ≤ B) (hA : A ≤ w.heap.size) : Below A w w' :=
  ⟨h.os, h.tape, h.output, h.size, fun k hk => h.block k (by omega) (by omega)⟩
theorem Keep.cell {B : Nat} {w w' : World} (h : Keep B w w') {p : Addr} (hp : p.block < w.heap.size) (hB : p.block ≠ B) : w'.cell? p = w.cell? p :=
  World.cell?_of_block (w := w) (h.block p.block hp hB)
theorem Keep.frozen {B : Nat} {w w' : World} (h : Keep B w w') {p : Addr} (hp : p.block < w.heap.size) (hB : p.block ≠ B) : w'.frozen? p = w.frozen? p :=
  World.frozen?_of_block (w := w) (h.block p.block hp hB)

/-! ### The arbiter -/
abbrev i64 (n : Int) : Value := .int .i64 n
/-- An arbiter: its Term, its ticks, its token, to whom it granted the lease (two numbers), till when. -/
structure St where
  term : Int
  now : Int
  token : Int
  ta : Int
  ti : Int
  til : Int
def St.cells (s : St) : Array Value := #[.int .i64 s.term, .int .i64 s.now, .int .i64 s.token, .int .i64 s.ta, .int .i64 s.ti, .int .i64 s.til]
/-- The block holds just that arbiter. -/
def At (B : Nat) (s : St) (w : World) : Prop := w.heap[B]? = some (.cells s.cells 70 (0, 0))
theorem At.lt {B : Nat} {s : St} {w : World} (h : At B s w) : B < w.heap.size := (Array.getElem?_eq_some_iff.1 h).1
theorem At.free {B : Nat} {s : St} {w : World} (h : At B s w) (o : Nat) : w.frozen? ⟨B, o, none⟩ = false := frozen_of_row _ _ _ _ _ h
theorem At.cell {B : Nat} {s : St} {w : World} (h : At B s w) (o : Nat) : w.cell? ⟨B, o, none⟩ = s.cells[o]? := cell_of_row _ _ _ _ _ _ h
theorem At.kept {B : Nat} {s : St} {w w' : World} (h : At B s w) (hb : Below w.heap.size w w') : At B s w' := by
  unfold At; rw [hb.block B h.lt]; exact h
theorem At.other {B C : Nat} {s : St} {w w' : World} (h : At B s w) (hb : Keep C w w') (hC : B ≠ C) : At B s w' := by
  unfold At; rw [hb.block B h.lt hC]; exact h
/-- All that a walk reads of an arbiter. -/
theorem At.reads {B : Nat} {s : St} {w : World} (h : At B s w) :
    w.cell? ⟨B, 0, none⟩ = some (.int .i64 s.term) ∧ w.cell? ⟨B, 1, none⟩ = some (.int .i64 s.now) ∧ w.cell? ⟨B, 2, none⟩ = some (.int .i64 s.token) ∧ w.cell? ⟨B, 3, none⟩ = some (.int .i64 s.ta) ∧
    w.cell? ⟨B, 4, none⟩ = some (.int .i64 s.ti) ∧ w.cell? ⟨B, 5, none⟩ = some (.int .i64 s.til) := by
  refine ⟨?_, ?_, ?_, ?_, ?_, ?_⟩ <;> (rw [h.cell]; rfl)
theorem At.set {B : Nat} {s : St} {w : World} (h : At B s w) (o : Nat) (v : Value) (s' : St) (hs : s.cells.setIfInBounds o v = s'.cells) : At B s' (w.setCell ⟨B, o, none⟩ v) := by
  unfold At; rw [heap_setCell_same _ _ _ _ _ _ h, hs]
theorem At.drew {B : Nat} {s : St} {w : World} (h : At B s w) : At B s w.drew := h
theorem At.drewN {B : Nat} {s : St} {w : World} (h : At B s w) (n : Nat) : At B s (w.drewN n) := h
theorem At.alloc {B : Nat} {s : St} {w : World} (h : At B s w) (o : Obj) : At B s (w.alloc o) := by
  unfold At; rw [Below.heap_alloc _ _ _ h.lt]; exact h
theorem At.setOther {B : Nat} {s : St} {w : World} (h : At B s w) {p : Addr} (hp : p.block ≠ B) (u : Value) : At B s (w.setCell p u) := by
  unfold At; rw [Below.heap_setCell _ _ _ _ (Ne.symm hp)]; exact h
/-! ### What the arbiter does, in plain words -/
/-- A frame that bears no view. -/
structure Fr where
  kind : Int
  fa : Int
  fi : Int
  ta : Int
  ti : Int
  n : Int
  token : Int
def Fr.zero : Fr := ⟨0, 0, 0, 0, 0, 0, 0⟩
def Fr.cells (f : Fr) : Array Value := #[.int .u8 f.kind, .int .i64 f.fa, .int .i64 f.fi, .int .i64 f.ta, .int .i64 f.ti, .int .i64 f.n, .int .i64 f.token, .int .i64 0, .int .i64 0,
  .slice none 0 0, .slice none 0 0, .slice none 0 0, .slice none 0 0, .slice none 0 0]
def Fr.val (f : Fr) : Value := .agg f.cells
theorem Fr.size (f : Fr) : f.cells.size = 14 := rfl
theorem Fr.one (f : Fr) : ∀ v ∈ f.cells.toList, v.oneCell' = true := by
  intro v hv
  simp only [Fr.cells, List.mem_cons, List.not_mem_nil, or_false] at hv
  rcases hv with rfl | rfl | rfl | rfl | rfl | rfl | rfl | rfl | rfl | rfl | rfl | rfl | rfl | rfl <;> rfl
theorem size48 : (Try.prog.info? 48).map (·.size) = some 14 := by kernel_rfl
/-- A frame laid whole into a block that holds a frame. -/
theorem Fr.lay (f : Fr) (v : World) (g : Nat) (c : Array Value) (hg : v.heap[g]? = some (.cells c 48 (0, 0))) (hc : c.size = 14) :
    ∃ v', (storeCells ⟨g, 0, none⟩ f.cells.toList).run Try.prog v = .ok () v' ∧ v'.heap[g]? = some (.cells f.cells 48 (0, 0)) ∧ Keep g v v' := by
  have h := run_storeCells_at Try.prog g 0 48 f.cells.toList 0 c v hg (by simp [Fr.size, hc]) f.one
  refine ⟨_, h, ?_, rfl, rfl, rfl, by simp, fun k hk hne => setRow_other _ _ _ _ hne⟩
  rw [setRow_heap _ _ _ _ _ _ hg]
  congr 2
  apply Array.ext'
  simp [hc, Fr.size]
theorem Fr.load (f : Fr) (v : World) (g : Nat) (hg : v.heap[g]? = some (.cells f.cells 48 (0, 0))) : (loadVar 48 ⟨g, 0, none⟩).run Try.prog v = .ok (.agg f.cells) v :=
  run_loadVar_row v g 48 48 f.cells (0, 0) _ hg Try.underlying48 rfl (by rw [f.size]; exact size48)
/-- Three results: a frame that lies in a block, and what two slots hold. -/
theorem ends_frame {fn : Func} (R : Ending → World → Prop) {a : Act} {w : World} {p t u : Tmp} (f : Fr) (g : Nat) (v x : Value) (hr : fn.results = #[.cell p 48, .tmp t, .tmp u]) (hp : a.tmps.getD p undef = .pointer (some ⟨g, 0, none⟩))
    (ht : a.tmps.getD t undef = v) (hu : a.tmps.getD u undef = x) (hg : w.heap[g]? = some (.cells f.cells 48 (0, 0))) (hd : a.defers = []) (h : R (.returned (.tuple #[f.val, v, x])) w) : bodyPost Try.prog fn R .ret a w := by
  refine bodyPost_ret (v := .tuple #[f.val, v, x]) ?_ hd h
  have hp' : a.tmps[p]?.getD undef = .pointer (some ⟨g, 0, none⟩) := by simpa using hp
  have ht' : a.tmps[t]?.getD undef = v := by simpa using ht
  have hu' : a.tmps[u]?.getD undef = x := by simpa using hu
  simp [results, hr, hp', ht', hu', asAddr, Fr.load f w g hg, Fr.val]
/-- Does that one hold the lease? -/
def St.own (s : St) (a i : Int) : Bool := decide (s.now < s.til) && (s.ta == a && s.ti == i)
/-- What an answer is: the arbiter behind it, the frame, is there one, the error. -/
structure Ans where
  st : St
  fr : Fr
  is : Bool
  err : Int
def Ans.val (a : Ans) : Value := .tuple #[a.fr.val, .bool a.is, .int .i64 a.err]
def St.grant (s : St) (f : Fr) : Ans := ⟨{ s with ta := f.fa, ti := f.fi, til := s.now + s.term }, ⟨12, 0, 0, f.fa, f.fi, f.n, s.token⟩, true, 0⟩
def St.refuse (s : St) (f : Fr) : Ans := ⟨s, ⟨13, 0, 0, f.fa, f.fi, f.n, 0⟩, true, 0⟩
def St.nothing (s : St) : Ans := ⟨s, .zero, false, 0⟩
def St.more (s : St) : St := { s with token := s.token + 1 }
def St.acquire (s : St) (f : Fr) : Ans :=
  if (decide (s.now < s.term) || (decide (s.now < s.til) && !(s.ta == f.fa && s.ti == f.fi))) = true then s.refuse f
  else if s.own f.fa f.fi = true then s.grant f
  else if (s.token == 1099511627776) = true then ⟨s, .zero, false, 40⟩
  else s.more.grant f
def St.renew (s : St) (f : Fr) : Ans := if (!s.own f.fa f.fi || !(f.token == s.token)) = true then s.refuse f else s.grant f
def St.free (s : St) : St := { s with ta := 0, ti := 0, til := 0 }
def St.release (s : St) (f : Fr) : Ans := if (s.own f.fa f.fi && f.token == s.token) = true then s.free.nothing else s.nothing
/-- Is it an ID? -/
def mayB (a i : Int) : Bool := decide (1 ≤ a ∧ a ≤ 12 ∧ 1 ≤ i ∧ i ≤ 1048576)
def St.take (s : St) (f : Fr) : Ans :=
  if mayB f.fa f.fi = true then (if f.kind = 9 then s.acquire f else if f.kind = 10 then s.renew f else if f.kind = 11 then s.release f else s.nothing) else s.nothing
def St.fresh (t : Int) : St := ⟨t, 0, 0, 0, 0, 0⟩
def St.tick (s : St) : St := { s with now := s.now + 1 }
def St.start (s : St) : St := ⟨s.term, 0, s.token, 0, 0, 0⟩
/-- The numbers that an arbiter may bear. -/
structure St.Ok (s : St) : Prop where
  t1 : 1 ≤ s.term
  t2 : s.term ≤ 4096
  n1 : 0 ≤ s.now
  n2 : s.now ≤ 1000000
  k1 : 0 ≤ s.token
  k2 : s.token ≤ 1099511627776
end Go.Proofs.Ytjjbfmaldhlenaa
