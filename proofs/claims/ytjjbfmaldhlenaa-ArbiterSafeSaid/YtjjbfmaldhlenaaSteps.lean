/-
  The slices of structs that come in, opened.
-/
import Derived.Test.YtjjbfmaldhlenaaSafePlain
import Derived.Test.YtjjbfmaldhlenaaCard
import Derived.SizedLaws
import Derived.Deep.Slices
namespace Go.Proofs.Ytjjbfmaldhlenaa
open Go.RowKit Go.ChangeShapes Go.WideShapes Go.Deep

/-- What a slice holds: Step. -/
structure Step where
  what : Int
  a : Int
  i : Int
  kind : Int
  n : Int
  token : Int
instance : Inhabited Step := ⟨⟨0, 0, 0, 0, 0, 0⟩⟩
def Step.cells (s : Step) : List Value := [.int .u8 s.what, .int .i64 s.a, .int .i64 s.i, .int .u8 s.kind, .int .i64 s.n, .int .i64 s.token]
structure Step.Ok (s : Step) : Prop where
  what0 : 0 ≤ s.what
  what1 : s.what ≤ 255
  a0 : -9223372036854775808 ≤ s.a
  a1 : s.a ≤ 9223372036854775807
  i0 : -9223372036854775808 ≤ s.i
  i1 : s.i ≤ 9223372036854775807
  kind0 : 0 ≤ s.kind
  kind1 : s.kind ≤ 255
  n0 : -9223372036854775808 ≤ s.n
  n1 : s.n ≤ 9223372036854775807
  token0 : -9223372036854775808 ≤ s.token
  token1 : s.token ≤ 9223372036854775807
/-- A slice that holds just these. -/
def Step.Holds (w : World) (v : Value) (l : List Step) : Prop :=
  ∃ (oa : Option Addr) (cap : Nat), v = .slice oa l.length cap ∧ l.length ≤ cap ∧ cap ≤ maxLen ∧ (∀ s ∈ l, s.Ok) ∧
    ∀ (i : Nat) (s : Step), l[i]? = some s → ∃ b off, oa = some ⟨b, off, none⟩ ∧ b < w.heap.size ∧ ∀ (j : Nat) (u : Value), s.cells[j]? = some u → w.cell? ⟨b, off + (i * 6 + j), none⟩ = some u
theorem Step.Holds.below {w w' : World} {v : Value} {l : List Step} (h : Step.Holds w v l) (hb : Below w.heap.size w w') : Step.Holds w' v l := by
  obtain ⟨oa, cap, he, h1, h2, hok, hc⟩ := h
  refine ⟨oa, cap, he, h1, h2, hok, fun i s hi => ?_⟩
  obtain ⟨b, off, e, hlt, hq⟩ := hc i s hi
  exact ⟨b, off, e, Nat.lt_of_lt_of_le hlt hb.size, fun j u hj => by rw [hb.cell (p := ⟨b, _, none⟩) hlt]; exact hq j u hj⟩
/-- The one in place k, read. -/
theorem Step.Holds.at_ {w : World} {oa : Option Addr} {cap : Nat} {l : List Step} (h : Step.Holds w (.slice oa l.length cap) l) {k : Nat} (hk : k < l.length) :
    ∃ b off, oa = some ⟨b, off, none⟩ ∧ b < w.heap.size ∧ l[k].Ok ∧ w.cell? ⟨b, off + k * 6, none⟩ = some (.int .u8 l[k].what) ∧ w.cell? ⟨b, off + k * 6 + 1, none⟩ = some (.int .i64 l[k].a) ∧ w.cell? ⟨b, off + k * 6 + 2, none⟩ = some (.int .i64 l[k].i) ∧ w.cell? ⟨b, off + k * 6 + 3, none⟩ = some (.int .u8 l[k].kind) ∧ w.cell? ⟨b, off + k * 6 + 4, none⟩ = some (.int .i64 l[k].n) ∧ w.cell? ⟨b, off + k * 6 + 5, none⟩ = some (.int .i64 l[k].token) := by
  obtain ⟨oa', cap', he, -, -, hok, hc⟩ := h
  simp only [Value.slice.injEq] at he
  obtain ⟨rfl, -, rfl⟩ := he
  obtain ⟨b, off, rfl, hlt, hq⟩ := hc k l[k] (List.getElem?_eq_getElem hk)
  refine ⟨b, off, rfl, hlt, hok _ (List.getElem_mem hk), ?_, ?_, ?_, ?_, ?_, ?_⟩
  · simpa using hq 0 _ rfl
  · simpa [Nat.add_assoc] using hq 1 _ rfl
  · simpa [Nat.add_assoc] using hq 2 _ rfl
  · simpa [Nat.add_assoc] using hq 3 _ rfl
  · simpa [Nat.add_assoc] using hq 4 _ rfl
  · simpa [Nat.add_assoc] using hq 5 _ rfl
theorem i64_of {n : Int} (h : (Lit.int .i64 n).wf = true) : -9223372036854775808 ≤ n ∧ n ≤ 9223372036854775807 := by
  simpa [Lit.wf, IntKind.min, IntKind.max, IntKind.signed, IntKind.bits] using h
theorem u8_of {n : Int} (h : (Lit.int .u8 n).wf = true) : 0 ≤ n ∧ n ≤ 255 := by
  simpa [Lit.wf, IntKind.min, IntKind.max, IntKind.signed, IntKind.bits] using h
theorem u32_of {n : Int} (h : (Lit.int .u32 n).wf = true) : 0 ≤ n ∧ n ≤ 4294967295 := by
  simpa [Lit.wf, IntKind.min, IntKind.max, IntKind.signed, IntKind.bits] using h
theorem add_none {a : Addr} (h : a.spot = none) (n : Nat) : a.add n = ⟨a.block, a.off + n, none⟩ := by
  unfold Addr.add
  split
  · rename_i e; subst e; cases a; simp_all
  · rfl
section
variable {H : Type} {enc : TypeId × Value → H} {w : World} {base : Nat} {spare : Nat → Bool} {held : Bool}
theorem Step.of {m : Nat} {cs : List Value} {z : DataW H × List MemPlace} (h : DataW.trod enc Try.prog w base spare held m 53 cs = some z) : ∃ s : Step, cs = s.cells ∧ s.Ok := by
  obtain ⟨xs, n, -, -, hl, hx, hf⟩ := DataW.trod_struct Try.underlying53 h
  have hc : Try.prog.cellsOf 53 = 6 := by kernel_rfl
  have h3 : Try.prog.cellsOf 3 = 1 := by kernel_rfl
  have h5 : Try.prog.cellsOf 5 = 1 := by kernel_rfl
  have h39 : Try.prog.cellsOf 39 = 2 := by kernel_rfl
  rw [hc] at hl
  match cs, hl, xs, hx with
  | [c0, c1, c2, c3, c4, c5], _, [x0, x1, x2, x3, x4], _ =>
    have f0 := hf 0 _ rfl
    have f1 := hf 1 _ rfl
    have f2 := hf 2 _ rfl
    have f3 := hf 3 _ rfl
    have f4 := hf 4 _ rfl
    simp [h5] at f0
    simp [h39] at f1
    simp [h5] at f2
    simp [h3] at f3
    simp [h3] at f4
    obtain ⟨a0, e0, -, w0⟩ := DataW.trod_int Try.underlying5 f0
    obtain ⟨ys1, k1, -, -, gl1, gx1, gf1⟩ := DataW.trod_struct Try.underlying39 f1
    match ys1, gx1, gf1 with
    | [y1_0, y1_1], _, gf1 =>
    have g1_0 := gf1 0 _ rfl
    have g1_1 := gf1 1 _ rfl
    simp [h3] at g1_0
    simp [h3] at g1_1
    obtain ⟨a1, e1, -, w1⟩ := DataW.trod_int Try.underlying3 g1_0
    obtain ⟨a2, e2, -, w2⟩ := DataW.trod_int Try.underlying3 g1_1
    obtain ⟨a3, e3, -, w3⟩ := DataW.trod_int Try.underlying5 f2
    obtain ⟨a4, e4, -, w4⟩ := DataW.trod_int Try.underlying3 f3
    obtain ⟨a5, e5, -, w5⟩ := DataW.trod_int Try.underlying3 f4
    simp only [List.cons.injEq, and_true] at e0 e1 e2 e3 e4 e5
    subst e0 e1 e2 e3 e4 e5
    have b0 := u8_of w0
    have b1 := i64_of w1
    have b2 := i64_of w2
    have b3 := u8_of w3
    have b4 := i64_of w4
    have b5 := i64_of w5
    exact ⟨⟨a0, a1, a2, a3, a4, a5⟩, rfl, b0.1, b0.2, b1.1, b1.2, b2.1, b2.2, b3.1, b3.2, b4.1, b4.2, b5.1, b5.2⟩
theorem Step.open_ {base' : Nat} {v : Value} {d : DataW H} {ps : List MemPlace} (h : DataW.Trod enc Try.prog w base (fun _ => true) held 51 v d ps) (hv : Value.okWide Try.prog w .any base' 51 v) : ∃ l : List Step, Step.Holds w v l := by
  obtain ⟨oa, len, cap, rfl⟩ := okWide_slice Try.underlying51 hv
  obtain ⟨fuel, hf⟩ := h
  have hc : Try.prog.cellsOf 53 = 6 := by kernel_rfl
  rcases open_slice Try.underlying51 hf with ⟨hcs, -⟩ | ⟨a, len', cap', m, n, D, Pl, hcs, -, hl, hm, hmm, -, hx⟩
  · simp only [Value.cells, List.cons.injEq, Value.slice.injEq, and_true] at hcs
    obtain ⟨rfl, rfl, rfl⟩ := hcs
    exact ⟨[], none, 0, rfl, Nat.le_refl _, by decide, by simp, by simp⟩
  · simp only [Value.cells, List.cons.injEq, Value.slice.injEq, and_true] at hcs
    obtain ⟨rfl, rfl, rfl⟩ := hcs
    simp only [if_true] at hmm
    subst hmm
    rw [hc] at hx
    obtain ⟨V, hV⟩ := choose_lt (α := Step) (n := len) (p := fun i s => s.Ok ∧ a.spot = none ∧ ∀ (j : Nat) (u : Value), s.cells[j]? = some u → w.cell? ⟨a.block, a.off + (i * 6 + j), none⟩ = some u) (fun i hi => by
      obtain ⟨cs', h1, h2⟩ := hx i (by omega)
      obtain ⟨s, rfl, hs⟩ := Step.of h2
      obtain ⟨-, -, hat⟩ := World.cells?_some h1
      have hsp : a.spot = none := by
        obtain ⟨cs0, h10, h20⟩ := hx 0 (by omega)
        obtain ⟨s0, rfl, -⟩ := Step.of h20
        obtain ⟨-, -, hat0⟩ := World.cells?_some h10
        have hq := hat0 0 (by omega)
        have e0 : (a.add (0 * 6)).add 0 = a := by simp [Addr.add]
        rw [e0] at hq
        cases hsp : a.spot with
        | none => rfl
        | some x =>
          exfalso
          simp only [World.cell?, hsp] at hq
          split at hq <;> simp [Step.cells] at hq
      refine ⟨s, hs, hsp, fun j u hj => ?_⟩
      have hj5 : j < 6 := by
        have := (List.getElem?_eq_some_iff.1 hj).1
        simpa [Step.cells] using this
      have hq := hat j hj5
      rw [add_none hsp, add_none rfl, hj] at hq
      rw [← hq]
      simp only [Nat.add_assoc])
    refine ⟨(List.range len).map V, some a, m, by simp, by simpa using hl, hm, ?_, ?_⟩
    · intro s hs
      simp only [List.mem_map, List.mem_range] at hs
      obtain ⟨i, hi, rfl⟩ := hs
      exact (hV i hi).1
    · intro i s hs
      have hi : i < len := by
        have := (List.getElem?_eq_some_iff.1 hs).1
        simpa using this
      simp only [List.getElem?_map, List.getElem?_range hi, Option.map_some, Option.some.injEq] at hs
      subst hs
      obtain ⟨-, hsp, hq⟩ := hV i hi
      refine ⟨a.block, a.off, by cases a; simp_all, ?_, hq⟩
      have := hq 0 _ rfl
      exact World.block_lt_of_cell? w ⟨a.block, a.off + (i * 6 + 0), none⟩ this
end
end Go.Proofs.Ytjjbfmaldhlenaa
