/-
  Bytes of the call's own; what a call leaves alone; a reader in memory.
-/
import Derived.Test.YtimlenapeghknaaProg
import Derived.Test.YtimlenapeghknaaLists
import Derived.WalkKit
import Derived.WalkSpells
import Derived.WalkLawsBesides
import Derived.Lib.Hide
import Derived.Lib.ConvBytes
import Derived.Deep.QuietTactic
import Derived.BigQuiet
import Derived.Deep.DrawnRows
import Derived.Deep.CutBlock
import Derived.ArgAppend
import Derived.Maps.AppendAt
namespace Go.Proofs.Ytimlenapeghknaa
open Go.RowKit
set_option linter.unusedVariables false
set_option linter.unusedSimpArgs false
/-! ### Worlds -/
theorem then_below {w a b : World} (h : Below w.heap.size w a) (k : Below a.heap.size a b) : Below w.heap.size w b := h.trans (k.mono h.size)
theorem below_drewN {B : Nat} {a w : World} (h : Below B a w) (n : Nat) : Below B a (w.drewN n) := ⟨h.os, h.tape, h.output, h.size, h.block⟩
theorem setCell_drewN (w : World) (n : Nat) (p : Addr) (v : Value) : (w.drewN n).setCell p v = (w.setCell p v).drewN n := rfl
theorem alloc_drewN (w : World) (n : Nat) (o : Obj) : (w.drewN n).alloc o = (w.alloc o).drewN n := rfl
theorem drew_drewN (w : World) (n : Nat) : (w.drewN n).drew = w.drewN (n + 1) := rfl
attribute [go_sem] setCell_drewN alloc_drewN
/-- One block of the old ones alone may have turned. -/
structure Keep (B : Nat) (w w' : World) : Prop where
  os : w'.os = w.os
  tape : w'.tape = w.tape
  output : w'.output = w.output
  size : w.heap.size ≤ w'.heap.size
  block : ∀ k, k < w.heap.size → k ≠ B → w'.heap[k]? = w.heap[k]?
theorem Keep.refl (B : Nat) (w : World) : Keep B w w := ⟨rfl, rfl, rfl, Nat.le_refl _, fun _ _ _ => rfl⟩
theorem Keep.of_below {B : Nat} {w w' : World} (h : Below w.heap.size w w') : Keep B w w' := ⟨h.os, h.tape, h.output, h.size, fun k hk _ => h.block k hk⟩
theorem Keep.trans {B : Nat} {a b c : World} (h : Keep B a b) (k : Keep B b c) : Keep B a c :=
  ⟨k.os.trans h.os, k.tape.trans h.tape, k.output.trans h.output, Nat.le_trans h.size k.size, fun i hi hB => (k.block i (Nat.lt_of_lt_of_le hi h.size) hB).trans (h.block i hi hB)⟩
theorem Keep.drew {B : Nat} {a w : World} (h : Keep B a w) : Keep B a w.drew := ⟨h.os, h.tape, h.output, h.size, h.block⟩
theorem Keep.drewN {B : Nat} {a w : World} (h : Keep B a w) (n : Nat) : Keep B a (w.drewN n) := ⟨h.os, h.tape, h.output, h.size, h.block⟩
theorem Keep.alloc {B : Nat} {a w : World} (h : Keep B a w) (o : Obj) : Keep B a (w.alloc o) :=
  h.trans ⟨rfl, rfl, rfl, by simp, fun k hk _ => Below.heap_alloc _ _ _ hk⟩
/-- A store into the block, or into one that is new. -/
theorem Keep.setCell {B : Nat} {a w : World} (h : Keep B a w) {p : Addr} (hp : p.block = B ∨ a.heap.size ≤ p.block) (u : Value) : Keep B a (w.setCell p u) :=
  ⟨h.os, h.tape, h.output, by simp only [World.setCell, Array.size_modify]; exact h.size, fun k hk hB => by
    rw [Below.heap_setCell _ _ _ _ (by rcases hp with e | e <;> omega)]; exact h.block k hk hB⟩
theorem Keep.below {A B : Nat} {w w' : World} (h : Keep B w w') (hB : A ≤ B) (hA : A ≤ w.heap.size) : Below A w w' :=
  ⟨h.os, h.tape, h.output, h.size, fun k hk => h.block k (by omega) (by omega)⟩
theorem Keep.cell {B : Nat} {w w' : World} (h : Keep B w w') {p : Addr} (hp : p.block < w.heap.size) (hB : p.block ≠ B) : w'.cell? p = w.cell? p :=
  World.cell?_of_block (w := w) (h.block p.block hp hB)
theorem Keep.frozen {B : Nat} {w w' : World} (h : Keep B w w') {p : Addr} (hp : p.block < w.heap.size) (hB : p.block ≠ B) : w'.frozen? p = w.frozen? p :=
  World.frozen?_of_block (w := w) (h.block p.block hp hB)



/-! ### Bytes of the call's own -/
theorem info5 : ∃ i, Try.prog.info? 5 = some i ∧ i.zero = some (.int .u8 0) ∧ i.size = 1 ∧ i.bytes = 1 := by
  have h : (Try.prog.info? 5).map (fun i => (i.zero, i.size, i.bytes)) = some (some (.int .u8 0), 1, 1) := by kernel_rfl
  cases hi : Try.prog.info? 5 with
  | none => rw [hi] at h; simp at h
  | some i =>
    rw [hi] at h
    simp only [Option.map_some, Option.some.injEq, Prod.mk.injEq] at h
    exact ⟨i, rfl, h.1, h.2.1, h.2.2⟩
/-- A row of bytes in a block from B on. -/
structure Own (B : Nat) (g cap : Nat) (l : List UInt8) (w : World) : Prop where
  base : B ≤ g
  lt : g < w.heap.size
  le : l.length ≤ cap
  cell : ∀ j, j < l.length → w.cell? ⟨g, j, none⟩ = some (.int .u8 ((l.getD j 0).toNat : Int))
  free : ∀ j, j < cap → (w.cell? ⟨g, j, none⟩).isSome = true ∧ w.frozen? ⟨g, j, none⟩ = false
theorem Own.start (s : ByteArray) (w : World) : Own w.heap.size w.heap.size (grownCap w s.size 0 5) s.data.toList (Lib.bytesWorld w 5 s) where
  base := Nat.le_refl _
  lt := by rw [Lib.bytesWorld_size]; omega
  le := by
    have := grownCap_ge w s.size 0 5
    simpa using this
  cell := fun j hj => Lib.bytesWorld_cell w 5 s j (by simpa using hj)
  free := fun j hj => by
    have hsz : (Lib.bytesCells w 5 s).size = grownCap w s.size 0 5 := by
      have := grownCap_ge w s.size 0 5
      have e : s.data.size = s.size := rfl
      simp [Lib.bytesCells]; omega
    have hn := Lib.bytesWorld_at_new w 5 s
    constructor
    · rw [cell_of_row _ _ _ _ _ _ hn]; simp; omega
    · unfold World.frozen?
      simp only [hn]
      simp; omega
theorem Own.kept {B g cap : Nat} {l : List UInt8} {w w' : World} (h : Own B g cap l w) (hb : Below w.heap.size w w') : Own B g cap l w' where
  base := h.base
  lt := Nat.lt_of_lt_of_le h.lt hb.size
  le := h.le
  cell := fun j hj => (hb.cell (p := ⟨g, j, none⟩) h.lt).trans (h.cell j hj)
  free := fun j hj => by rw [hb.cell (p := ⟨g, j, none⟩) h.lt, hb.frozen (p := ⟨g, j, none⟩) h.lt]; exact h.free j hj
theorem Own.back {B g cap : Nat} {l : List UInt8} {w : World} (h : Own B g cap l w) (n : Nat) (hn : n = l.length) :
    (convert 51 9 (.slice (some ⟨g, 0, none⟩) n cap)).run Try.prog w = .ok (.string ⟨l.toArray⟩) w := by
  subst hn
  refine run_convert_bytes_back w 51 9 5 ⟨g, 0, none⟩ cap l Try.underlying51 Try.underlying5 Try.underlying9 ?_
  intro j hj
  have hadd : (⟨g, 0, none⟩ : Addr).add j = ⟨g, j, none⟩ := by unfold Addr.add; split <;> simp_all
  rw [hadd, h.cell j hj]
  simp [hj]
/-- One byte more. -/
theorem Own.append {B g cap : Nat} {l : List UInt8} {w : World} (h : Own B g cap l w) (hB : B ≤ w.heap.size) (hl : l.length ≤ 100000) (ty : TypeId) (ad : Addr) (c : Nat) (x : UInt8) (hx : w.cell? ad = some (.int .u8 (x.toNat : Int))) :
    ∃ g' cap' w', (Builtin.append_ #[51, 51] ty #[.slice (some ⟨g, 0, none⟩) l.length cap, .slice (some ad) 1 c]).run Try.prog w = .ok (.slice (some ⟨g', 0, none⟩) (l.length + 1) cap') w' ∧ Own B g' cap' (l ++ [x]) w' ∧ Below B w w' := by
  obtain ⟨i, hi, hz, hs, hb⟩ := info5
  have hget : ∀ j, j < l.length + 1 → (l ++ [x]).getD j 0 = if j < l.length then l.getD j 0 else x := by
    intro j hj
    rw [List.getD_eq_getElem?_getD, List.getD_eq_getElem?_getD]
    by_cases e : j < l.length
    · rw [if_pos e]; simp [List.getElem?_append_left e]
    · rw [if_neg e]
      obtain rfl : j = l.length := by omega
      simp
  have hnew : ∀ j u, ([.int .u8 (x.toNat : Int)] : List Value)[j]? = some u → w.cell? (ad.add j) = some u := by
    intro j u hj
    match j, hj with
    | 0, hj => simp at hj; subst hj; simpa [Addr.add] using hx
  have hone : ∀ u ∈ ([.int .u8 (x.toNat : Int)] : List Value), u.oneCell' = true := by intro u hu; simp at hu; subst hu; rfl
  by_cases hroom : l.length + 1 ≤ cap
  · have hr := run_append_room_cells (P := Try.prog) w 51 ty 5 i Try.underlying51 hi g 0 l.length cap ad 1 c [.int .u8 (x.toNat : Int)] (by simp [hs]) hnew hone hroom
      (fun j hj => by simp at hj; subst hj; simpa [hs] using (h.free l.length (by omega)).1) (fun j hj => by simp at hj; subst hj; simpa [hs] using (h.free l.length (by omega)).2)
    simp only [hs, Nat.mul_one, Nat.zero_add] at hr
    have hw : w.setCells g l.length [.int .u8 (x.toNat : Int)] = w.setCell ⟨g, l.length, none⟩ (.int .u8 (x.toNat : Int)) := rfl
    rw [hw] at hr
    have hsome := (h.free l.length (by omega)).1
    refine ⟨g, cap, _, hr, ⟨h.base, by simpa using h.lt, by simpa using hroom, fun j hj => ?_, fun j hj => ?_⟩, (Below.refl _ _).setCell h.base _⟩
    · rw [List.length_append, List.length_singleton] at hj
      rw [hget j hj]
      by_cases e : j < l.length
      · rw [if_pos e, World.cell?_setCell_other _ _ _ _ (by first | (simp; done) | (simp; omega))]; exact h.cell j e
      · obtain rfl : j = l.length := by omega
        rw [if_neg e]
        obtain ⟨v, hv⟩ := Option.isSome_iff_exists.1 hsome
        exact World.cell?_setCell_same _ _ _ hv
    · obtain ⟨v, hv⟩ := Option.isSome_iff_exists.1 (h.free j hj).1
      constructor
      · obtain ⟨v', hv'⟩ := cell?_setCell_some (w := w) (p := ⟨g, l.length, none⟩) (x := .int .u8 (x.toNat : Int)) (q := ⟨g, j, none⟩) (v := v) hv
        rw [hv']; rfl
      · have := (h.free j hj).2
        rw [← this]; simp
  · obtain ⟨v', w', hr, ⟨hlen, hsh⟩, hgr⟩ := run_append_arg_grows (P := Try.prog) w 51 ty 5 i (.int .u8 0) 1 1 Try.underlying51 hi hz hs hb rfl (by decide) ⟨g, 0, none⟩ l.length cap
      (l.map fun b => .int .u8 (b.toNat : Int)) (by simp) (fun j u hj => by
        have hadd : (⟨g, 0, none⟩ : Addr).add j = ⟨g, j, none⟩ := by unfold Addr.add; split <;> simp_all
        have hjl : j < l.length := by simpa using (List.getElem?_eq_some_iff.1 hj).1
        rw [hadd, h.cell j hjl]
        simp [hjl] at hj
        simp [hjl, ← hj]) ad 1 c [.int .u8 (x.toNat : Int)] rfl hnew (by omega) (by unfold maxLen; omega) (by omega)
    rcases hsh with ⟨-, h0⟩ | ⟨g', cap', cur, rfl, hg', hcur, hle, -, hcs, htake⟩
    · omega
    · have hcell : ∀ j, j < cap' → w'.cell? ⟨g', j, none⟩ = cur[j]? := fun j _ => cell_of_row _ _ _ _ _ _ hcur
      refine ⟨g', cap', w', hr, ⟨Nat.le_trans hB hg', (Array.getElem?_eq_some_iff.1 hcur).1, by simpa using hle, fun j hj => ?_, fun j hj => ?_⟩, ⟨hgr.os, hgr.tape, hgr.output, hgr.size, fun k hk => hgr.block k (Nat.lt_of_lt_of_le hk hB) (by simp)⟩⟩
      · rw [List.length_append, List.length_singleton] at hj
        rw [hcell j (by omega), hget j hj]
        have ht := congrArg (fun z : List Value => z[j]?) htake
        simp only [Nat.mul_one] at ht
        rw [List.getElem?_take_of_lt hj] at ht
        rw [← Array.getElem?_toList, ht]
        by_cases e : j < l.length
        · rw [if_pos e, List.getElem?_append_left (by simpa using e)]; simp [e]
        · obtain rfl : j = l.length := by omega
          rw [if_neg e, List.getElem?_append_right (by simp)]; simp
      · constructor
        · rw [hcell j hj]; simp; omega
        · exact frozen_of_row _ _ _ _ _ hcur
theorem wpList_append_bytes {w : World} {ops : Array Oper} {rest : List Oper} {o : Oper} {a : Act} {Q : Exit → Act → World → Prop} (hgd : o.guard = none) (s x : Operand)
    (ho : o.op = .call { callee := .builtin .append, args := #[s, x], argTypes := #[51, 51] })
    (B g cap : Nat) (l : List UInt8) (hs : a.eval s = .slice (some ⟨g, 0, none⟩) l.length cap) (hown : Own B g cap l w) (hB : B ≤ w.heap.size) (hl : l.length ≤ 100000)
    (ad : Addr) (c : Nat) (y : UInt8) (hx : a.eval x = .slice (some ad) 1 c) (hy : w.cell? ad = some (.int .u8 (y.toNat : Int)))
    (h : ∀ g' cap' w', Own B g' cap' (l ++ [y]) w' → Below B w w' → wpList Try.prog ops Q rest (a.put o.dst (.slice (some ⟨g', 0, none⟩) (l.length + 1) cap')) w') :
    wpList Try.prog ops Q (o :: rest) a w := by
  refine wpList_plain hgd fun K hK => ?_
  obtain ⟨g', cap', w', hr, h1, h2⟩ := hown.append hB hl o.type ad c y hy
  unfold Oper.wp execOp
  simp only [ho, resolve, invoke, builtin, Sem.run_bind, Sem.run_pure, Result.andThen_ok, List.map_toArray, List.map_cons, List.map_nil, hs, hx, hr]
  exact hK _ _ (h g' cap' w' h1 h2)
end Go.Proofs.Ytimlenapeghknaa
