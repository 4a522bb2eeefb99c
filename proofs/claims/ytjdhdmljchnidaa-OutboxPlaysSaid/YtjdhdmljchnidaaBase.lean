/-
  Frames that wait, in memory: a struct of a bound and a slice of the call's own.
-/
import Derived.Test.YtjdhdmljchnidaaProg
import Derived.WalkKit
import Derived.WalkSpells
import Derived.WalkLawsBesides
import Derived.Lib.Hide
import Derived.Deep.QuietTactic
import Derived.BigQuiet
import Derived.Deep.RegionHeld3
import Derived.Deep.RegionWith
import Derived.Deep.RegionLaw
import Derived.Deep.AppendLies
import Derived.Deep.DeepCutAuto
import Derived.Deep.CutBlock
import Derived.Deep.DrawnRows
import Derived.Laws.OwnMore
import Derived.Laws.EntriesVeiled
import Derived.OwnWalk
import Derived.OneCell
import Derived.Lib.SliceRun
namespace Go.Proofs.Ytjdhdmljchnidaa
open Go.RowKit
set_option linter.unusedVariables false
set_option linter.unusedSimpArgs false

/-! ### Worlds -/
theorem then_below {w a b : World} (h : Below w.heap.size w a) (k : Below a.heap.size a b) : Below w.heap.size w b := h.trans (k.mono h.size)
theorem below_drewN {B : Nat} {a w : World} (h : Below B a w) (n : Nat) : Below B a (w.drewN n) := ⟨h.os, h.tape, h.output, h.size, h.block⟩
theorem setCell_drewN (w : World) (n : Nat) (p : Addr) (v : Value) : (w.drewN n).setCell p v = (w.setCell p v).drewN n := rfl
theorem alloc_drewN (w : World) (n : Nat) (o : Obj) : (w.drewN n).alloc o = (w.alloc o).drewN n := rfl
theorem drew_drewN (w : World) (n : Nat) : (w.drewN n).drew = w.drewN (n + 1) := rfl
attribute [go_sem] setCell_drewN alloc_drewN
theorem ret_b {a b : Bool} (h : a = b) : Ending.returned (.bool a) = .returned (.bool b) := by rw [h]
theorem ret_i {k : IntKind} {a b : Int} (h : a = b) : Ending.returned (.int k a) = .returned (.int k b) := by rw [h]

/-! ### Frames -/
/-- A slice, as a value. -/
structure SL where
  a : Option Addr
  n : Nat
  c : Nat
def SL.nil : SL := ⟨none, 0, 0⟩
def SL.val (s : SL) : Value := .slice s.a s.n s.c
/-- A frame, as it lies in memory. -/
structure Fr where
  kind : Int
  fa : Int
  fi : Int
  ta : Int
  ti : Int
  n : Int
  token : Int
  ba : Int
  bi : Int
  ms : SL
  fs : SL
  rs : SL
  cs : SL
  ss : SL
def Fr.zero : Fr := ⟨0, 0, 0, 0, 0, 0, 0, 0, 0, .nil, .nil, .nil, .nil, .nil⟩
/-- A frame of a Kind and a number. -/
def Fr.of (k n : Int) : Fr := ⟨k, 0, 0, 0, 0, n, 0, 0, 0, .nil, .nil, .nil, .nil, .nil⟩
/-- Is it of what is known? -/
def Fr.known (f : Fr) : Bool := decide (f.kind = 3) || decide (f.kind = 4)
def Fr.cells (f : Fr) : Array Value := #[.int .u8 f.kind, .int .i64 f.fa, .int .i64 f.fi, .int .i64 f.ta, .int .i64 f.ti, .int .i64 f.n, .int .i64 f.token, .int .i64 f.ba, .int .i64 f.bi,
  .slice f.ms.a f.ms.n f.ms.c, .slice f.fs.a f.fs.n f.fs.c, .slice f.rs.a f.rs.n f.rs.c, .slice f.cs.a f.cs.n f.cs.c, .slice f.ss.a f.ss.n f.ss.c]
def Fr.val (f : Fr) : Value := .agg f.cells
theorem Fr.size (f : Fr) : f.cells.size = 14 := rfl
theorem Fr.one (f : Fr) : ∀ v ∈ f.cells.toList, v.oneCell' = true := by
  intro v hv
  simp only [Fr.cells, List.mem_cons, List.not_mem_nil, or_false] at hv
  rcases hv with rfl | rfl | rfl | rfl | rfl | rfl | rfl | rfl | rfl | rfl | rfl | rfl | rfl | rfl <;> rfl

def rows : List Fr → List Value
  | [] => []
  | u :: l => u.cells.toList ++ rows l
theorem rows_append (a b : List Fr) : rows (a ++ b) = rows a ++ rows b := by
  induction a with
  | nil => rfl
  | cons f a ih => simp [rows, ih]
theorem rows_length (l : List Fr) : (rows l).length = l.length * 14 := by
  induction l with
  | nil => rfl
  | cons f a ih => simp [rows, ih, Fr.cells]; omega
theorem rows_one (l : List Fr) : ∀ v ∈ rows l, v.oneCell' = true := by
  induction l with
  | nil => intro v hv; simp [rows] at hv
  | cons f a ih =>
    intro v hv
    simp only [rows, List.mem_append] at hv
    rcases hv with hv | hv
    · exact f.one v hv
    · exact ih v hv
theorem rows_get (l : List Fr) (j o : Nat) (hj : j < l.length) (ho : o < 14) : (rows l)[j * 14 + o]? = l[j].cells[o]? := by
  induction l generalizing j with
  | nil => simp at hj
  | cons f a ih =>
    have hf : f.cells.toList.length = 14 := rfl
    cases j with
    | zero => simp only [rows]; rw [List.getElem?_append_left (by rw [hf]; omega)]; simp
    | succ j =>
      simp only [rows]
      rw [List.getElem?_append_right (by rw [hf]; omega), hf, show (j + 1) * 14 + o - 14 = j * 14 + o by omega, ih j (by simpa using hj)]
      simp
theorem rows_erase (l : List Fr) (k : Nat) (hk : k < l.length) : (rows l).take (k * 14) ++ (rows l).drop ((k + 1) * 14) = rows (l.eraseIdx k) := by
  induction l generalizing k with
  | nil => simp at hk
  | cons f a ih =>
    have hf : f.cells.toList.length = 14 := rfl
    cases k with
    | zero => simp [rows, Fr.cells]
    | succ k =>
      have := ih k (by simpa using hk)
      simp only [rows, List.eraseIdx_cons_succ]
      rw [List.take_append, List.drop_append, hf, show (k + 1) * 14 - 14 = k * 14 by omega, show (k + 1 + 1) * 14 - 14 = (k + 1) * 14 by omega, ← this]
      rw [List.take_of_length_le (by rw [hf]; omega), List.drop_eq_nil_of_le (by rw [hf]; omega)]
      simp
/-- What a block that holds one frame reads. -/
theorem info38 : (Try.prog.info? 38).map (fun i => (i.zero, i.size, i.bytes)) = some (some Fr.zero.val, 14, 192) := by kernel_rfl
theorem zero38 (w : World) : (zeroValue 38).run Try.prog w = .ok Fr.zero.val w := by kernel_rfl

/-! ### append and clear on a row of the call's own -/
theorem step_append_row {P : Program} {ops : Array Oper} {o : Oper} {a : Act} {w : World} {K : Act → World → Prop} {Q : Exit → Act → World → Prop} {E : Prop}
    (hg : o.guard = none) (s x : Operand) (t : TypeId) (hop : o.op = Op.call { callee := Callee.builtin Builtin.append, args := #[s, x], argTypes := #[t, t] })
    (e : TypeId) (i : TypeInfo) (size : Nat) (h1 : P.underlying t = some (.slice e)) (h2 : P.info? e = some i) (h4 : i.size = size)
    (g n cap : Nat) (cur : Array Value) (hb : w.heap[g]? = some (.cells cur e (0, 0))) (hs : a.eval s = .slice (some ⟨g, 0, none⟩) n cap)
    (ad : Addr) (m c : Nat) (news : List Value) (hx : a.eval x = .slice (some ad) m c) (hn : news.length = m * size) (hc : ∀ j u, news[j]? = some u → w.cell? (ad.add j) = some u) (h1c : ∀ u ∈ news, u.oneCell' = true)
    (hroom : n + m ≤ cap) (hfit : n * size + news.length ≤ cur.size)
    (hK : K (a.put o.dst (.slice (some ⟨g, 0, none⟩) (n + m) cap)) (w.setRow g (cur.toList.take (n * size) ++ news ++ cur.toList.drop (n * size + news.length)).toArray)) :
    if Region.wanted o (yielded ops a.tmps) = true then Oper.wp P o a w K Q else E := by
  have hw : Region.wanted o (yielded ops a.tmps) = true := by simp [Region.wanted, hg]
  rw [if_pos hw]
  subst h4
  have hrun := run_append_room (P := P) w t o.type e i h1 h2 g n cap cur hb ad m c news hn hc h1c hroom hfit
  unfold Oper.wp
  simp [execOp, hop, resolve, invoke, builtin, hs, hx, hrun, Result.andThen]
  simp only [List.append_assoc] at hK
  exact hK
theorem run_clear_row {P : Program} (w : World) (t e ty : TypeId) (z : Value) (ht : P.underlying t = some (.slice e)) (hv : ∀ w, (zeroValue e).run P w = .ok z w) (size : Nat) (hz : z.cells.size = size) (h1 : ∀ v ∈ z.cells.toList, v.oneCell' = true)
    (g o n c : Nat) (cur : Array Value) (hb : w.heap[g]? = some (.cells cur e (0, 0))) (hn : 0 < n) (hfit : o + n * size ≤ cur.size) :
    ∃ new : Array Value, (Builtin.clear_ #[t] ty #[.slice (some ⟨g, o, none⟩) n c]).run P w = .ok (.tuple #[]) (w.setRow g new) ∧ new.size = cur.size ∧ new.toList.take o = cur.toList.take o := by
  have hsz : (Builtin.zeroCells z.cells n).size = n * size := by simp [Builtin.zeroCells, hz]
  have hone : ∀ v ∈ (Builtin.zeroCells z.cells n).toList, v.oneCell' = true := by
    intro v hv'
    simp only [Builtin.zeroCells, Array.toList_map, List.mem_map] at hv'
    obtain ⟨i, hi, rfl⟩ := hv'
    have hi' : i < n * z.cells.size := by simpa using hi
    have hp : 0 < z.cells.size := by
      rcases Nat.eq_zero_or_pos z.cells.size with h | h
      · rw [h] at hi'; omega
      · exact h
    have hlt : i % z.cells.size < z.cells.size := Nat.mod_lt _ hp
    rw [getElem!_pos z.cells (i % z.cells.size) hlt]
    exact h1 _ (by simp)
  have hst := run_storeCells_at P g o e (Builtin.zeroCells z.cells n).toList 0 cur w hb (by simp [hsz]; omega) hone
  simp only [Nat.add_zero] at hst
  obtain ⟨m, rfl⟩ : ∃ m, n = m + 1 := ⟨n - 1, by omega⟩
  refine ⟨_, by simp [Builtin.clear_, run_underlying ht, hv, hst]; rfl, ?_, ?_⟩
  · simp only [List.size_toArray, List.length_append, List.length_take, List.length_drop, Array.length_toList, hsz]
    omega
  · have : o ≤ cur.size := by omega
    simp [List.take_append, List.take_take, this]
end Go.Proofs.Ytjdhdmljchnidaa
