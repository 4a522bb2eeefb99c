/-
  The law's steps, as they lie in memory: a slice of structs of numbers, read.
-/
import Derived.Test.YtfbmjaelkijmnaaBase
import Derived.Test.YtfbmjaelkijmnaaCard
import Derived.SizedLaws
import Derived.Deep.Slices
namespace Go.Proofs.Ytfbmjaelkijmnaa
open Go.RowKit Go.ChangeShapes Go.WideShapes Go.Deep

/-- A step of a law. -/
structure Step where
  what : Int
  now : Int
  kind : Int
  n : Int
  token : Int
instance : Inhabited Step := ⟨⟨0, 0, 0, 0, 0⟩⟩
def Step.cells (s : Step) : List Value := [.int .u8 s.what, .int .i64 s.now, .int .u8 s.kind, .int .i64 s.n, .int .i64 s.token]
structure Step.Ok (s : Step) : Prop where
  w0 : 0 ≤ s.what
  w1 : s.what ≤ 255
  t0 : -9223372036854775808 ≤ s.now
  t1 : s.now ≤ 9223372036854775807
  k0 : 0 ≤ s.kind
  k1 : s.kind ≤ 255
  n0 : -9223372036854775808 ≤ s.n
  n1 : s.n ≤ 9223372036854775807
  o0 : -9223372036854775808 ≤ s.token
  o1 : s.token ≤ 9223372036854775807
/-- A slice that holds just these steps. -/
def Holds (w : World) (v : Value) (l : List Step) : Prop :=
  ∃ (oa : Option Addr) (cap : Nat), v = .slice oa l.length cap ∧ l.length ≤ cap ∧ cap ≤ maxLen ∧ (∀ s ∈ l, s.Ok) ∧
    ∀ (i : Nat) (s : Step), l[i]? = some s → ∃ b off, oa = some ⟨b, off, none⟩ ∧ b < w.heap.size ∧ ∀ (j : Nat) (u : Value), s.cells[j]? = some u → w.cell? ⟨b, off + (i * 5 + j), none⟩ = some u

section
variable {H : Type} {enc : TypeId × Value → H} {w : World} {base : Nat} {spare : Nat → Bool} {held : Bool}
theorem i64_of {n : Int} (h : (Lit.int .i64 n).wf = true) : -9223372036854775808 ≤ n ∧ n ≤ 9223372036854775807 := by
  simpa [Lit.wf, IntKind.min, IntKind.max, IntKind.signed, IntKind.bits] using h
theorem u8_of {n : Int} (h : (Lit.int .u8 n).wf = true) : 0 ≤ n ∧ n ≤ 255 := by
  simpa [Lit.wf, IntKind.min, IntKind.max, IntKind.signed, IntKind.bits] using h
/-- One step out of its cells. -/
theorem step_of {m : Nat} {cs : List Value} {z : DataW H × List MemPlace} (h : DataW.trod enc Try.prog w base spare held m 46 cs = some z) : ∃ s : Step, cs = s.cells ∧ s.Ok := by
  obtain ⟨xs, n, -, -, hl, hx, hf⟩ := DataW.trod_struct Try.underlying46 h
  have hc : Try.prog.cellsOf 46 = 5 := by kernel_rfl
  have h3 : Try.prog.cellsOf 3 = 1 := by kernel_rfl
  have h5 : Try.prog.cellsOf 5 = 1 := by kernel_rfl
  rw [hc] at hl
  match cs, hl, xs, hx with
  | [c0, c1, c2, c3, c4], _, [x0, x1, x2, x3, x4], _ =>
    have f0 := hf 0 _ rfl
    have f1 := hf 1 _ rfl
    have f2 := hf 2 _ rfl
    have f3 := hf 3 _ rfl
    have f4 := hf 4 _ rfl
    simp [h5] at f0
    simp [h3] at f1
    simp [h5] at f2
    simp [h3] at f3
    simp [h3] at f4
    obtain ⟨a0, e0, -, w0⟩ := DataW.trod_int Try.underlying5 f0
    obtain ⟨a1, e1, -, w1⟩ := DataW.trod_int Try.underlying3 f1
    obtain ⟨a2, e2, -, w2⟩ := DataW.trod_int Try.underlying5 f2
    obtain ⟨a3, e3, -, w3⟩ := DataW.trod_int Try.underlying3 f3
    obtain ⟨a4, e4, -, w4⟩ := DataW.trod_int Try.underlying3 f4
    simp only [List.cons.injEq, and_true] at e0 e1 e2 e3 e4
    subst e0 e1 e2 e3 e4
    have b0 := u8_of w0
    have b1 := i64_of w1
    have b2 := u8_of w2
    have b3 := i64_of w3
    have b4 := i64_of w4
    exact ⟨⟨a0, a1, a2, a3, a4⟩, rfl, b0.1, b0.2, b1.1, b1.2, b2.1, b2.2, b3.1, b3.2, b4.1, b4.2⟩
theorem add_none {a : Addr} (h : a.spot = none) (n : Nat) : a.add n = ⟨a.block, a.off + n, none⟩ := by
  unfold Addr.add
  split
  · rename_i e; subst e; cases a; simp_all
  · rfl
/-- The argument, opened. -/
theorem open_steps {base' : Nat} {v : Value} {d : DataW H} {ps : List MemPlace} (h : DataW.Trod enc Try.prog w base (fun _ => true) held 44 v d ps) (hv : Value.okWide Try.prog w .any base' 44 v) : ∃ l : List Step, Holds w v l := by
  obtain ⟨oa, len, cap, rfl⟩ := okWide_slice Try.underlying44 hv
  obtain ⟨fuel, hf⟩ := h
  have hc : Try.prog.cellsOf 46 = 5 := by kernel_rfl
  rcases open_slice Try.underlying44 hf with ⟨hcs, -⟩ | ⟨a, len', cap', m, n, D, Pl, hcs, -, hl, hm, hmm, -, hx⟩
  · simp only [Value.cells, List.cons.injEq, Value.slice.injEq, and_true] at hcs
    obtain ⟨rfl, rfl, rfl⟩ := hcs
    exact ⟨[], none, 0, rfl, Nat.le_refl _, by decide, by simp, by simp⟩
  · simp only [Value.cells, List.cons.injEq, Value.slice.injEq, and_true] at hcs
    obtain ⟨rfl, rfl, rfl⟩ := hcs
    simp only [if_true] at hmm
    subst hmm
    rw [hc] at hx
    obtain ⟨V, hV⟩ := choose_lt (α := Step) (n := len) (p := fun i s => s.Ok ∧ a.spot = none ∧ ∀ (j : Nat) (u : Value), s.cells[j]? = some u → w.cell? ⟨a.block, a.off + (i * 5 + j), none⟩ = some u) (fun i hi => by
      obtain ⟨cs', h1, h2⟩ := hx i (by omega)
      obtain ⟨s, rfl, hs⟩ := step_of h2
      obtain ⟨-, -, hat⟩ := World.cells?_some h1
      have hsp : a.spot = none := by
        obtain ⟨cs0, h10, h20⟩ := hx 0 (by omega)
        obtain ⟨s0, rfl, -⟩ := step_of h20
        obtain ⟨-, -, hat0⟩ := World.cells?_some h10
        have hq := hat0 0 (by omega)
        have e0 : (a.add (0 * 5)).add 0 = a := by simp [Addr.add]
        rw [e0] at hq
        cases hsp : a.spot with
        | none => rfl
        | some x =>
          exfalso
          simp only [World.cell?, hsp] at hq
          split at hq <;> simp [Step.cells] at hq
      refine ⟨s, hs, hsp, fun j u hj => ?_⟩
      have hj5 : j < 5 := by
        have := (List.getElem?_eq_some_iff.1 hj).1
        simpa [Step.cells] using this
      have hq := hat j hj5
      rw [add_none hsp, add_none rfl, hj] at hq
      rw [← hq]
      simp only [Nat.add_assoc])
    refine ⟨(List.range len).map V, some a, m, by simp, by simpa using hl, hm, ?_, ?_⟩
    · intro s hs
      simp only [List.mem_map, List.mem_range] at hs
      obtain ⟨i, hi, rfl⟩ := hs
      exact (hV i hi).1
    · intro i s hs
      have hi : i < len := by
        have := (List.getElem?_eq_some_iff.1 hs).1
        simpa using this
      simp only [List.getElem?_map, List.getElem?_range hi, Option.map_some, Option.some.injEq] at hs
      subst hs
      obtain ⟨-, hsp, hq⟩ := hV i hi
      refine ⟨a.block, a.off, by cases a; simp_all, ?_, hq⟩
      have := hq 0 _ rfl
      exact World.block_lt_of_cell? w ⟨a.block, a.off + (i * 5 + 0), none⟩ this
end
end Go.Proofs.Ytfbmjaelkijmnaa
