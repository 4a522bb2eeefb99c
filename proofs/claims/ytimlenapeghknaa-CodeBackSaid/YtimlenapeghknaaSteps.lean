/-
  The slices of structs that come in, opened.
-/
import Derived.Test.YtimlenapeghknaaBase
import Derived.Test.YtimlenapeghknaaCard
import Derived.SizedLaws
import Derived.Deep.Slices
namespace Go.Proofs.Ytimlenapeghknaa
set_option linter.unusedVariables false
set_option linter.unusedSimpArgs false
open Go.RowKit Go.ChangeShapes Go.WideShapes Go.Deep

instance : Inhabited Idn := ⟨⟨0, 0⟩⟩
def Idn.cells (s : Idn) : List Value := [.int .i64 s.a, .int .i64 s.i]
structure Idn.Ok (s : Idn) : Prop where
  a0 : -9223372036854775808 ≤ s.a
  a1 : s.a ≤ 9223372036854775807
  i0 : -9223372036854775808 ≤ s.i
  i1 : s.i ≤ 9223372036854775807
/-- A slice that holds just these. -/
def Idn.Holds (w : World) (v : Value) (l : List Idn) : Prop :=
  ∃ (oa : Option Addr) (cap : Nat), v = .slice oa l.length cap ∧ l.length ≤ cap ∧ cap ≤ maxLen ∧ (∀ s ∈ l, s.Ok) ∧
    ∀ (i : Nat) (s : Idn), l[i]? = some s → ∃ b off, oa = some ⟨b, off, none⟩ ∧ b < w.heap.size ∧ ∀ (j : Nat) (u : Value), s.cells[j]? = some u → w.cell? ⟨b, off + (i * 2 + j), none⟩ = some u
theorem Idn.Holds.below {w w' : World} {v : Value} {l : List Idn} (h : Idn.Holds w v l) (hb : Below w.heap.size w w') : Idn.Holds w' v l := by
  obtain ⟨oa, cap, he, h1, h2, hok, hc⟩ := h
  refine ⟨oa, cap, he, h1, h2, hok, fun i s hi => ?_⟩
  obtain ⟨b, off, e, hlt, hq⟩ := hc i s hi
  exact ⟨b, off, e, Nat.lt_of_lt_of_le hlt hb.size, fun j u hj => by rw [hb.cell (p := ⟨b, _, none⟩) hlt]; exact hq j u hj⟩
/-- The one in place k, read. -/
theorem Idn.Holds.at_ {w : World} {oa : Option Addr} {cap : Nat} {l : List Idn} (h : Idn.Holds w (.slice oa l.length cap) l) {k : Nat} (hk : k < l.length) :
    ∃ b off, oa = some ⟨b, off, none⟩ ∧ b < w.heap.size ∧ l[k].Ok ∧ w.cell? ⟨b, off + k * 2, none⟩ = some (.int .i64 l[k].a) ∧ w.cell? ⟨b, off + k * 2 + 1, none⟩ = some (.int .i64 l[k].i) := by
  obtain ⟨oa', cap', he, -, -, hok, hc⟩ := h
  simp only [Value.slice.injEq] at he
  obtain ⟨rfl, -, rfl⟩ := he
  obtain ⟨b, off, rfl, hlt, hq⟩ := hc k l[k] (List.getElem?_eq_getElem hk)
  refine ⟨b, off, rfl, hlt, hok _ (List.getElem_mem hk), ?_, ?_⟩
  · simpa using hq 0 _ rfl
  · simpa [Nat.add_assoc] using hq 1 _ rfl
theorem i64_of {n : Int} (h : (Lit.int .i64 n).wf = true) : -9223372036854775808 ≤ n ∧ n ≤ 9223372036854775807 := by
  simpa [Lit.wf, IntKind.min, IntKind.max, IntKind.signed, IntKind.bits] using h
theorem u8_of {n : Int} (h : (Lit.int .u8 n).wf = true) : 0 ≤ n ∧ n ≤ 255 := by
  simpa [Lit.wf, IntKind.min, IntKind.max, IntKind.signed, IntKind.bits] using h
theorem u32_of {n : Int} (h : (Lit.int .u32 n).wf = true) : 0 ≤ n ∧ n ≤ 4294967295 := by
  simpa [Lit.wf, IntKind.min, IntKind.max, IntKind.signed, IntKind.bits] using h
theorem add_none {a : Addr} (h : a.spot = none) (n : Nat) : a.add n = ⟨a.block, a.off + n, none⟩ := by
  unfold Addr.add
  split
  · rename_i e; subst e; cases a; simp_all
  · rfl
section
variable {H : Type} {enc : TypeId × Value → H} {w : World} {base : Nat} {spare : Nat → Bool} {held : Bool}
theorem Idn.of {m : Nat} {cs : List Value} {z : DataW H × List MemPlace} (h : DataW.trod enc Try.prog w base spare held m 23 cs = some z) : ∃ s : Idn, cs = s.cells ∧ s.Ok := by
  obtain ⟨xs, n, -, -, hl, hx, hf⟩ := DataW.trod_struct Try.underlying23 h
  have hc : Try.prog.cellsOf 23 = 2 := by kernel_rfl
  have h3 : Try.prog.cellsOf 3 = 1 := by kernel_rfl
  rw [hc] at hl
  match cs, hl, xs, hx with
  | [c0, c1], _, [x0, x1], _ =>
    have f0 := hf 0 _ rfl
    have f1 := hf 1 _ rfl
    simp [h3] at f0
    simp [h3] at f1
    obtain ⟨a0, e0, -, w0⟩ := DataW.trod_int Try.underlying3 f0
    obtain ⟨a1, e1, -, w1⟩ := DataW.trod_int Try.underlying3 f1
    simp only [List.cons.injEq, and_true] at e0 e1
    subst e0 e1
    have b0 := i64_of w0
    have b1 := i64_of w1
    exact ⟨⟨a0, a1⟩, rfl, b0.1, b0.2, b1.1, b1.2⟩
theorem Idn.open_ {base' : Nat} {v : Value} {d : DataW H} {ps : List MemPlace} (h : DataW.Trod enc Try.prog w base (fun _ => true) held 24 v d ps) (hv : Value.okWide Try.prog w .any base' 24 v) : ∃ l : List Idn, Idn.Holds w v l := by
  obtain ⟨oa, len, cap, rfl⟩ := okWide_slice Try.underlying24 hv
  obtain ⟨fuel, hf⟩ := h
  have hc : Try.prog.cellsOf 23 = 2 := by kernel_rfl
  rcases open_slice Try.underlying24 hf with ⟨hcs, -⟩ | ⟨a, len', cap', m, n, D, Pl, hcs, -, hl, hm, hmm, -, hx⟩
  · simp only [Value.cells, List.cons.injEq, Value.slice.injEq, and_true] at hcs
    obtain ⟨rfl, rfl, rfl⟩ := hcs
    exact ⟨[], none, 0, rfl, Nat.le_refl _, by decide, by simp, by simp⟩
  · simp only [Value.cells, List.cons.injEq, Value.slice.injEq, and_true] at hcs
    obtain ⟨rfl, rfl, rfl⟩ := hcs
    simp only [if_true] at hmm
    subst hmm
    rw [hc] at hx
    obtain ⟨V, hV⟩ := choose_lt (α := Idn) (n := len) (p := fun i s => s.Ok ∧ a.spot = none ∧ ∀ (j : Nat) (u : Value), s.cells[j]? = some u → w.cell? ⟨a.block, a.off + (i * 2 + j), none⟩ = some u) (fun i hi => by
      obtain ⟨cs', h1, h2⟩ := hx i (by omega)
      obtain ⟨s, rfl, hs⟩ := Idn.of h2
      obtain ⟨-, -, hat⟩ := World.cells?_some h1
      have hsp : a.spot = none := by
        obtain ⟨cs0, h10, h20⟩ := hx 0 (by omega)
        obtain ⟨s0, rfl, -⟩ := Idn.of h20
        obtain ⟨-, -, hat0⟩ := World.cells?_some h10
        have hq := hat0 0 (by omega)
        have e0 : (a.add (0 * 2)).add 0 = a := by simp [Addr.add]
        rw [e0] at hq
        cases hsp : a.spot with
        | none => rfl
        | some x =>
          exfalso
          simp only [World.cell?, hsp] at hq
          split at hq <;> simp [Idn.cells] at hq
      refine ⟨s, hs, hsp, fun j u hj => ?_⟩
      have hj5 : j < 2 := by
        have := (List.getElem?_eq_some_iff.1 hj).1
        simpa [Idn.cells] using this
      have hq := hat j hj5
      rw [add_none hsp, add_none rfl, hj] at hq
      rw [← hq]
      simp only [Nat.add_assoc])
    refine ⟨(List.range len).map V, some a, m, by simp, by simpa using hl, hm, ?_, ?_⟩
    · intro s hs
      simp only [List.mem_map, List.mem_range] at hs
      obtain ⟨i, hi, rfl⟩ := hs
      exact (hV i hi).1
    · intro i s hs
      have hi : i < len := by
        have := (List.getElem?_eq_some_iff.1 hs).1
        simpa using this
      simp only [List.getElem?_map, List.getElem?_range hi, Option.map_some, Option.some.injEq] at hs
      subst hs
      obtain ⟨-, hsp, hq⟩ := hV i hi
      refine ⟨a.block, a.off, by cases a; simp_all, ?_, hq⟩
      have := hq 0 _ rfl
      exact World.block_lt_of_cell? w ⟨a.block, a.off + (i * 2 + 0), none⟩ this
/-- One that comes by value. -/
theorem Idn.byval {base' : Nat} {v : Value} {d : DataW H} {ps : List MemPlace} (h : DataW.Trod enc Try.prog w base spare held 23 v d ps) (hv : Value.okWide Try.prog w .any base' 23 v) :
    ∃ s : Idn, v = .agg #[.int .i64 s.a, .int .i64 s.i] ∧ s.Ok := by
  obtain ⟨cs, rfl, hsz⟩ := okWide_struct Try.underlying23 hv
  obtain ⟨fuel, hf⟩ := h
  obtain ⟨s, hs, ok⟩ := Idn.of hf
  refine ⟨s, ?_, ok⟩
  obtain ⟨l⟩ := cs
  simp only [Value.cells] at hs
  subst hs
  rfl
end
end Go.Proofs.Ytimlenapeghknaa
