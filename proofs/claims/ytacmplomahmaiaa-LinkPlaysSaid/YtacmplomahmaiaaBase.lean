/-
  Links in memory: a struct of one field, a map from addresses to what is known of them.
-/
import Derived.Test.YtacmplomahmaiaaProg
import Derived.WalkKit
import Derived.WalkSpells
import Derived.WalkLawsBesides
import Derived.Lib.Hide
import Derived.Deep.QuietTactic
import Derived.BigQuiet
import Derived.Deep.RegionHeld3
import Derived.Deep.RegionWith
import Derived.Deep.DeepCutAuto
import Derived.Deep.CutBlock
import Derived.Deep.DrawnRows
import Derived.Maps.OwnSet
import Derived.Shelf.SlMaps.Clone
namespace Go.Proofs.Ytacmplomahmaiaa
open Go.RowKit Go.Maps

/-! ### Worlds -/
theorem then_below {w a b : World} (h : Below w.heap.size w a) (k : Below a.heap.size a b) : Below w.heap.size w b := h.trans (k.mono h.size)
theorem below_drewN {B : Nat} {a w : World} (h : Below B a w) (n : Nat) : Below B a (w.drewN n) := ⟨h.os, h.tape, h.output, h.size, h.block⟩
theorem setCell_drewN (w : World) (n : Nat) (p : Addr) (v : Value) : (w.drewN n).setCell p v = (w.setCell p v).drewN n := rfl
theorem alloc_drewN (w : World) (n : Nat) (o : Obj) : (w.drewN n).alloc o = (w.alloc o).drewN n := rfl
theorem drew_drewN (w : World) (n : Nat) : (w.drewN n).drew = w.drewN (n + 1) := rfl
attribute [go_sem] setCell_drewN alloc_drewN
/-- One block of the old ones alone may have turned. -/
structure Keep (B : Nat) (w w' : World) : Prop where
  os : w'.os = w.os
  tape : w'.tape = w.tape
  output : w'.output = w.output
  size : w.heap.size ≤ w'.heap.size
  block : ∀ k, k < w.heap.size → k ≠ B → w'.heap[k]? = w.heap[k]?
theorem Keep.refl (B : Nat) (w : World) : Keep B w w := ⟨rfl, rfl, rfl, Nat.le_refl _, fun _ _ _ => rfl⟩
theorem Keep.of_below {B : Nat} {w w' : World} (h : Below w.heap.size w w') : Keep B w w' := ⟨h.os, h.tape, h.output, h.size, fun k hk _ => h.block k hk⟩
theorem Keep.trans {B : Nat} {a b c : World} (h : Keep B a b) (k : Keep B b c) : Keep B a c :=
  ⟨k.os.trans h.os, k.tape.trans h.tape, k.output.trans h.output, Nat.le_trans h.size k.size, fun i hi hB => (k.block i (Nat.lt_of_lt_of_le hi h.size) hB).trans (h.block i hi hB)⟩
theorem Keep.drew {B : Nat} {a w : World} (h : Keep B a w) : Keep B a w.drew := ⟨h.os, h.tape, h.output, h.size, h.block⟩
theorem Keep.drewN {B : Nat} {a w : World} (h : Keep B a w) (n : Nat) : Keep B a (w.drewN n) := ⟨h.os, h.tape, h.output, h.size, h.block⟩
theorem Keep.alloc {B : Nat} {a w : World} (h : Keep B a w) (o : Obj) : Keep B a (w.alloc o) :=
  h.trans ⟨rfl, rfl, rfl, by simp, fun k hk _ => Below.heap_alloc _ _ _ hk⟩
/-- A store into the block, or into one that is new. -/
theorem Keep.setCell {B : Nat} {a w : World} (h : Keep B a w) {p : Addr} (hp : p.block = B ∨ a.heap.size ≤ p.block) (u : Value) : Keep B a (w.setCell p u) :=
  ⟨h.os, h.tape, h.output, by simp only [World.setCell, Array.size_modify]; exact h.size, fun k hk hB => by
    rw [Below.heap_setCell _ _ _ _ (by rcases hp with e | e <;> omega)]; exact h.block k hk hB⟩
theorem Keep.below {A B : Nat} {w w' : World} (h : Keep B w w') (hB : A ≤ B) (hA : A ≤ w.heap.size) : Below A w w' :=
  ⟨h.os, h.tape, h.output, h.size, fun k hk => h.block k (by omega) (by omega)⟩
theorem Keep.cell {B : Nat} {w w' : World} (h : Keep B w w') {p : Addr} (hp : p.block < w.heap.size) (hB : p.block ≠ B) : w'.cell? p = w.cell? p :=
  World.cell?_of_block (w := w) (h.block p.block hp hB)
theorem Keep.frozen {B : Nat} {w w' : World} (h : Keep B w w') {p : Addr} (hp : p.block < w.heap.size) (hB : p.block ≠ B) : w'.frozen? p = w.frozen? p :=
  World.frozen?_of_block (w := w) (h.block p.block hp hB)


/-! ### Frames -/
/-- A frame that bears no view. -/
structure Fr where
  kind : Int
  fa : Int
  fi : Int
  ta : Int
  ti : Int
  n : Int
  token : Int
def Fr.zero : Fr := ⟨0, 0, 0, 0, 0, 0, 0⟩
def Fr.cells (f : Fr) : Array Value := #[.int .u8 f.kind, .int .i64 f.fa, .int .i64 f.fi, .int .i64 f.ta, .int .i64 f.ti, .int .i64 f.n, .int .i64 f.token, .int .i64 0, .int .i64 0,
  .slice none 0 0, .slice none 0 0, .slice none 0 0, .slice none 0 0, .slice none 0 0]
def Fr.val (f : Fr) : Value := .agg f.cells
theorem Fr.size (f : Fr) : f.cells.size = 14 := rfl
theorem Fr.one (f : Fr) : ∀ v ∈ f.cells.toList, v.oneCell' = true := by
  intro v hv
  simp only [Fr.cells, List.mem_cons, List.not_mem_nil, or_false] at hv
  rcases hv with rfl | rfl | rfl | rfl | rfl | rfl | rfl | rfl | rfl | rfl | rfl | rfl | rfl | rfl <;> rfl
theorem size37 : (Try.prog.info? 37).map (·.size) = some 14 := by kernel_rfl
/-- A frame laid whole into a block that holds a frame. -/
theorem Fr.lay (f : Fr) (v : World) (g : Nat) (c : Array Value) (hg : v.heap[g]? = some (.cells c 37 (0, 0))) (hc : c.size = 14) :
    ∃ v', (storeCells ⟨g, 0, none⟩ f.cells.toList).run Try.prog v = .ok () v' ∧ v'.heap[g]? = some (.cells f.cells 37 (0, 0)) ∧ Keep g v v' := by
  have h := run_storeCells_at Try.prog g 0 37 f.cells.toList 0 c v hg (by simp [Fr.size, hc]) f.one
  refine ⟨_, h, ?_, rfl, rfl, rfl, by simp, fun k hk hne => setRow_other _ _ _ _ hne⟩
  rw [setRow_heap _ _ _ _ _ _ hg]
  congr 2
  apply Array.ext'
  simp [hc, Fr.size]
theorem Fr.load (f : Fr) (v : World) (g : Nat) (hg : v.heap[g]? = some (.cells f.cells 37 (0, 0))) : (loadVar 37 ⟨g, 0, none⟩).run Try.prog v = .ok (.agg f.cells) v :=
  run_loadVar_row v g 37 37 f.cells (0, 0) _ hg Try.underlying37 rfl (by rw [f.size]; exact size37)
theorem Fr.reads {f : Fr} {w : World} {g : Nat} (h : w.heap[g]? = some (.cells f.cells 37 (0, 0))) :
    w.cell? ⟨g, 0, none⟩ = some (.int .u8 f.kind) ∧ w.cell? ⟨g, 1, none⟩ = some (.int .i64 f.fa) ∧ w.cell? ⟨g, 2, none⟩ = some (.int .i64 f.fi) ∧ w.cell? ⟨g, 3, none⟩ = some (.int .i64 f.ta) ∧ w.cell? ⟨g, 4, none⟩ = some (.int .i64 f.ti) ∧ w.cell? ⟨g, 5, none⟩ = some (.int .i64 f.n) ∧ w.cell? ⟨g, 6, none⟩ = some (.int .i64 f.token) ∧ w.cell? ⟨g, 7, none⟩ = some (.int .i64 0) ∧ w.cell? ⟨g, 8, none⟩ = some (.int .i64 0) ∧ w.cell? ⟨g, 9, none⟩ = some (.slice none 0 0) ∧ w.cell? ⟨g, 10, none⟩ = some (.slice none 0 0) ∧ w.cell? ⟨g, 11, none⟩ = some (.slice none 0 0) ∧ w.cell? ⟨g, 12, none⟩ = some (.slice none 0 0) ∧ w.cell? ⟨g, 13, none⟩ = some (.slice none 0 0) := by
  refine ⟨?_, ?_, ?_, ?_, ?_, ?_, ?_, ?_, ?_, ?_, ?_, ?_, ?_, ?_⟩ <;> (rw [cell_of_row _ _ _ _ _ _ h]; rfl)

/-! ### What is known of an address -/
structure Peer where
  newest : Int
  fenced : Int
  beat : Int
  reply : Int
def Peer.zero : Peer := ⟨0, 0, 0, 0⟩
def Peer.cells (p : Peer) : Array Value := #[.int .i64 p.newest, .int .i64 p.fenced, .int .i64 p.beat, .int .i64 p.reply]
/-- How it reads. -/
def Peer.dat (p : Peer) : DataW Unit := .agg [.lit (.int .i64 p.newest), .lit (.int .i64 p.fenced), .lit (.int .i64 p.beat), .lit (.int .i64 p.reply)]
def peerOf (v : Value) : Option (DataW Unit × List MemPlace) :=
  match v with
  | .agg ⟨[.int .i64 a, .int .i64 b, .int .i64 c, .int .i64 d]⟩ => some (Peer.dat ⟨a, b, c, d⟩, [])
  | _ => none
theorem peerOf_mk (p : Peer) : peerOf (.agg p.cells) = some (p.dat, []) := rfl
theorem peerOf_inv {v : Value} {p : Peer} {ps : List MemPlace} (h : peerOf v = some (p.dat, ps)) : v = .agg p.cells := by
  unfold peerOf at h
  split at h
  · rename_i a b c d
    simp only [Option.some.injEq, Prod.mk.injEq, Peer.dat, DataW.agg.injEq, List.cons.injEq, DataW.lit.injEq, Lit.int.injEq, true_and, and_true] at h
    obtain ⟨⟨e1, e2, e3, e4⟩, -⟩ := h
    subst e1 e2 e3 e4
    rfl
  · cases h
theorem keyed : Keyed Try.prog 3 := int_keyed Try.underlying3
theorem zero_peer (w : World) : (zeroValue 53).run Try.prog w = .ok (.agg Peer.zero.cells) w := by kernel_rfl
def inI64 (a : Int) : Prop := -9223372036854775808 ≤ a ∧ a ≤ 9223372036854775807
theorem wf_of {a : Int} (h : inI64 a) : (Lit.int .i64 a).wf = true := by
  obtain ⟨h1, h2⟩ := h
  simp [Lit.wf, IntKind.min, IntKind.max, IntKind.signed, IntKind.bits]; omega
/-- The map of the block M tells f of the addresses; it was written n times at most. -/
def Knows (M n : Nat) (f : Int → Peer) (w : World) : Prop := ∃ D : DataW Unit, w.ownsMap Try.prog 3 peerOf M n D ∧ ∀ a, D.atKey (.int .i64 a) Peer.zero.dat = (f a).dat
theorem Knows.lt {M n : Nat} {f : Int → Peer} {w : World} (h : Knows M n f w) : M < w.heap.size := by
  obtain ⟨D, h, -⟩ := h; exact h.lt
theorem Knows.same {M n : Nat} {f : Int → Peer} {w w' : World} (h : Knows M n f w) (hb : w'.heap[M]? = w.heap[M]?) : Knows M n f w' := by
  obtain ⟨D, ⟨es, clock, h1, h2⟩, h3⟩ := h
  exact ⟨D, ⟨es, clock, hb.trans h1, h2⟩, h3⟩
theorem Knows.more {M n n' : Nat} {f : Int → Peer} {w : World} (h : Knows M n f w) (hn : n ≤ n') : Knows M n' f w := by
  obtain ⟨D, h, h3⟩ := h; exact ⟨D, h.mono hn, h3⟩
theorem Knows.look {M n : Nat} {f : Int → Peer} {w : World} (h : Knows M n f w) (a : Int) (ha : inI64 a) : (Instr.lookup 54 (.map (some M)) (.int .i64 a) false).run Try.prog w = .ok (.agg (f a).cells) w := by
  obtain ⟨D, hD, hf⟩ := h
  obtain ⟨v, ps, hr, hv⟩ := hD.lookup keyed Try.underlying54 (zero_peer w) (peerOf_mk .zero) (keyOf_int_mk Try.underlying3 (wf_of ha))
  rw [hf] at hv
  rw [peerOf_inv hv] at hr
  exact hr
def set (f : Int → Peer) (a : Int) (p : Peer) : Int → Peer := fun b => if b = a then p else f b
theorem Knows.put {M n : Nat} {f : Int → Peer} {w : World} (h : Knows M n f w) (hn : n ≤ 1000000) (a : Int) (ha : inI64 a) (p : Peer) :
    ∃ w', (Instr.mapUpdate 54 (.map (some M)) (.int .i64 a) (.agg p.cells)).run Try.prog w = .ok () w' ∧ Knows M (n + 1) (set f a p) w' ∧ Keep M w w' := by
  obtain ⟨D, hD, hf⟩ := h
  have hkey := keyOf_int_mk (P := Try.prog) Try.underlying3 (wf_of ha)
  obtain ⟨w', hr, h1, h2⟩ := hD.update keyed Try.underlying54 (by unfold maxLen; omega) hkey (peerOf_mk p)
  refine ⟨w', hr, ⟨_, h1, fun b => ?_⟩, ⟨h2.os, h2.tape, h2.output, h2.size, fun k hk hne => h2.block k hk (by simpa using Ne.symm hne |>.symm)⟩⟩
  by_cases e : b = a
  · subst e
    rw [atKey_put_same hD.isMap (keyed.key hkey)]
    simp [set]
  · rw [atKey_put_other (by simpa using e), hf]
    simp [set, e]
theorem Knows.made (w : World) : Knows w.heap.size 0 (fun _ => .zero) (w.alloc (.map #[] 0)) :=
  ⟨_, World.ownsMap_made _ _ _ _, fun _ => rfl⟩
/-- The links: block B leads to the map's block M. -/
structure Lk (B M n : Nat) (f : Int → Peer) (w : World) : Prop where
  here : w.heap[B]? = some (.cells #[.map (some M)] 56 (0, 0))
  knows : Knows M n f w
  ne : B ≠ M
theorem Lk.lt {B M n : Nat} {f : Int → Peer} {w : World} (h : Lk B M n f w) : B < w.heap.size := (Array.getElem?_eq_some_iff.1 h.here).1
theorem Lk.cell {B M n : Nat} {f : Int → Peer} {w : World} (h : Lk B M n f w) : w.cell? ⟨B, 0, none⟩ = some (.map (some M)) := by rw [cell_of_row _ _ _ _ _ _ h.here]; rfl
theorem Lk.kept {B M n : Nat} {f : Int → Peer} {w w' : World} (h : Lk B M n f w) (hb : Below w.heap.size w w') : Lk B M n f w' :=
  ⟨(hb.block _ h.lt).trans h.here, h.knows.same (hb.block _ h.knows.lt), h.ne⟩
theorem Lk.alloc {B M n : Nat} {f : Int → Peer} {w : World} (h : Lk B M n f w) (o : Obj) : Lk B M n f (w.alloc o) := h.kept ((Below.refl _ _).alloc (Nat.le_refl _) _)
theorem Lk.drew {B M n : Nat} {f : Int → Peer} {w : World} (h : Lk B M n f w) : Lk B M n f w.drew := ⟨h.here, h.knows.same rfl, h.ne⟩
theorem Lk.drewN {B M n : Nat} {f : Int → Peer} {w : World} (h : Lk B M n f w) (k : Nat) : Lk B M n f (w.drewN k) := ⟨h.here, h.knows.same rfl, h.ne⟩
theorem Lk.turn {B M n n' : Nat} {f f' : Int → Peer} {w w' : World} (h : Lk B M n f w) (hk : Knows M n' f' w') (hK : Keep M w w') : Lk B M n' f' w' :=
  ⟨(hK.block _ h.lt h.ne).trans h.here, hk, h.ne⟩
theorem Lk.setOther {B M n : Nat} {f : Int → Peer} {w : World} (h : Lk B M n f w) {p : Addr} (h1 : p.block ≠ B) (h2 : p.block ≠ M) (u : Value) : Lk B M n f (w.setCell p u) :=
  ⟨by rw [Below.heap_setCell _ _ _ _ (Ne.symm h1)]; exact h.here, h.knows.same (Below.heap_setCell _ _ _ _ (Ne.symm h2)), h.ne⟩
/-- Is it an ID? -/
def mayB (a i : Int) : Bool := decide (1 ≤ a ∧ a ≤ 12 ∧ 1 ≤ i ∧ i ≤ 1048576)
/-- What an address is told, and what the answer is. -/
def Peer.take (p : Peer) (f : Fr) (mi : Int) : Peer × Int :=
  if ((decide (f.ti ≠ 0) && decide (f.ti ≠ mi)) || decide (f.fi < p.newest)) = true then (p, 42)
  else if decide (f.fi ≤ p.fenced) = true then (p, 7)
  else if decide (p.newest < f.fi) = true then
    (if f.kind = 6 then ⟨f.fi, p.fenced, 0, f.n⟩ else if f.kind = 5 then ⟨f.fi, p.fenced, f.n, 0⟩ else ⟨f.fi, p.fenced, 0, 0⟩, 0)
  else if ((decide (f.kind = 5) && decide (f.n ≤ p.beat)) || (decide (f.kind = 6) && decide (f.n ≤ p.reply))) = true then (p, 6)
  else (if f.kind = 6 then { p with reply := f.n } else if f.kind = 5 then { p with beat := f.n } else p, 0)
/-- Is the form a frame's to somebody? -/
def formB (f : Fr) (ma : Int) : Bool := mayB f.fa f.fi && decide (f.ta = ma) && !decide (f.fa = ma)
def takeF (g : Int → Peer) (f : Fr) (ma mi : Int) : Int → Peer := if formB f ma = true ∧ ((g f.fa).take f mi).2 = 0 then set g f.fa ((g f.fa).take f mi).1 else g
def takeE (g : Int → Peer) (f : Fr) (ma mi : Int) : Int := if formB f ma = true then ((g f.fa).take f mi).2 else 4
def Peer.fence (p : Peer) (i : Int) : Peer := { p with fenced := max p.fenced i }
def fenceF (g : Int → Peer) (a i : Int) : Int → Peer := if mayB a i = true then set g a ((g a).fence i) else g
def fenceE (a i : Int) : Int := if mayB a i = true then 0 else 4
def fencedB (g : Int → Peer) (a i : Int) : Bool := mayB a i && decide (i ≤ (g a).fenced)
end Go.Proofs.Ytacmplomahmaiaa
