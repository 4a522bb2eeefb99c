/-
  The events that come in, opened.
-/
import Derived.Test.YtjjbfmaldhlenaaSteps
import Derived.SizedLaws
import Derived.Deep.Slices
namespace Go.Proofs.Ytjjbfmaldhlenaa
open Go.RowKit Go.ChangeShapes Go.WideShapes Go.Deep

/-- What a slice holds: Ev. -/
def Ev.cells (s : Ev) : List Value := [.int .u8 s.what, .int .u8 s.who, .int .i64 s.num]
structure Ev.Ok (s : Ev) : Prop where
  what0 : 0 ≤ s.what
  what1 : s.what ≤ 255
  who0 : 0 ≤ s.who
  who1 : s.who ≤ 255
  num0 : -9223372036854775808 ≤ s.num
  num1 : s.num ≤ 9223372036854775807
/-- A slice that holds just these. -/
def Ev.Holds (w : World) (v : Value) (l : List Ev) : Prop :=
  ∃ (oa : Option Addr) (cap : Nat), v = .slice oa l.length cap ∧ l.length ≤ cap ∧ cap ≤ maxLen ∧ (∀ s ∈ l, s.Ok) ∧
    ∀ (i : Nat) (s : Ev), l[i]? = some s → ∃ b off, oa = some ⟨b, off, none⟩ ∧ b < w.heap.size ∧ ∀ (j : Nat) (u : Value), s.cells[j]? = some u → w.cell? ⟨b, off + (i * 3 + j), none⟩ = some u
theorem Ev.Holds.below {w w' : World} {v : Value} {l : List Ev} (h : Ev.Holds w v l) (hb : Below w.heap.size w w') : Ev.Holds w' v l := by
  obtain ⟨oa, cap, he, h1, h2, hok, hc⟩ := h
  refine ⟨oa, cap, he, h1, h2, hok, fun i s hi => ?_⟩
  obtain ⟨b, off, e, hlt, hq⟩ := hc i s hi
  exact ⟨b, off, e, Nat.lt_of_lt_of_le hlt hb.size, fun j u hj => by rw [hb.cell (p := ⟨b, _, none⟩) hlt]; exact hq j u hj⟩
/-- The one in place k, read. -/
theorem Ev.Holds.at_ {w : World} {oa : Option Addr} {cap : Nat} {l : List Ev} (h : Ev.Holds w (.slice oa l.length cap) l) {k : Nat} (hk : k < l.length) :
    ∃ b off, oa = some ⟨b, off, none⟩ ∧ b < w.heap.size ∧ l[k].Ok ∧ w.cell? ⟨b, off + k * 3, none⟩ = some (.int .u8 l[k].what) ∧ w.cell? ⟨b, off + k * 3 + 1, none⟩ = some (.int .u8 l[k].who) ∧ w.cell? ⟨b, off + k * 3 + 2, none⟩ = some (.int .i64 l[k].num) := by
  obtain ⟨oa', cap', he, -, -, hok, hc⟩ := h
  simp only [Value.slice.injEq] at he
  obtain ⟨rfl, -, rfl⟩ := he
  obtain ⟨b, off, rfl, hlt, hq⟩ := hc k l[k] (List.getElem?_eq_getElem hk)
  refine ⟨b, off, rfl, hlt, hok _ (List.getElem_mem hk), ?_, ?_, ?_⟩
  · simpa using hq 0 _ rfl
  · simpa [Nat.add_assoc] using hq 1 _ rfl
  · simpa [Nat.add_assoc] using hq 2 _ rfl
section
variable {H : Type} {enc : TypeId × Value → H} {w : World} {base : Nat} {spare : Nat → Bool} {held : Bool}
theorem Ev.of {m : Nat} {cs : List Value} {z : DataW H × List MemPlace} (h : DataW.trod enc Try.prog w base spare held m 34 cs = some z) : ∃ s : Ev, cs = s.cells ∧ s.Ok := by
  obtain ⟨xs, n, -, -, hl, hx, hf⟩ := DataW.trod_struct Try.underlying34 h
  have hc : Try.prog.cellsOf 34 = 3 := by kernel_rfl
  have h3 : Try.prog.cellsOf 3 = 1 := by kernel_rfl
  have h5 : Try.prog.cellsOf 5 = 1 := by kernel_rfl
  rw [hc] at hl
  match cs, hl, xs, hx with
  | [c0, c1, c2], _, [x0, x1, x2], _ =>
    have f0 := hf 0 _ rfl
    have f1 := hf 1 _ rfl
    have f2 := hf 2 _ rfl
    simp [h5] at f0
    simp [h5] at f1
    simp [h3] at f2
    obtain ⟨a0, e0, -, w0⟩ := DataW.trod_int Try.underlying5 f0
    obtain ⟨a1, e1, -, w1⟩ := DataW.trod_int Try.underlying5 f1
    obtain ⟨a2, e2, -, w2⟩ := DataW.trod_int Try.underlying3 f2
    simp only [List.cons.injEq, and_true] at e0 e1 e2
    subst e0 e1 e2
    have b0 := u8_of w0
    have b1 := u8_of w1
    have b2 := i64_of w2
    exact ⟨⟨a0, a1, a2⟩, rfl, b0.1, b0.2, b1.1, b1.2, b2.1, b2.2⟩
theorem Ev.open_ {base' : Nat} {v : Value} {d : DataW H} {ps : List MemPlace} (h : DataW.Trod enc Try.prog w base (fun _ => true) held 22 v d ps) (hv : Value.okWide Try.prog w .any base' 22 v) : ∃ l : List Ev, Ev.Holds w v l := by
  obtain ⟨oa, len, cap, rfl⟩ := okWide_slice Try.underlying22 hv
  obtain ⟨fuel, hf⟩ := h
  have hc : Try.prog.cellsOf 34 = 3 := by kernel_rfl
  rcases open_slice Try.underlying22 hf with ⟨hcs, -⟩ | ⟨a, len', cap', m, n, D, Pl, hcs, -, hl, hm, hmm, -, hx⟩
  · simp only [Value.cells, List.cons.injEq, Value.slice.injEq, and_true] at hcs
    obtain ⟨rfl, rfl, rfl⟩ := hcs
    exact ⟨[], none, 0, rfl, Nat.le_refl _, by decide, by simp, by simp⟩
  · simp only [Value.cells, List.cons.injEq, Value.slice.injEq, and_true] at hcs
    obtain ⟨rfl, rfl, rfl⟩ := hcs
    simp only [if_true] at hmm
    subst hmm
    rw [hc] at hx
    obtain ⟨V, hV⟩ := choose_lt (α := Ev) (n := len) (p := fun i s => s.Ok ∧ a.spot = none ∧ ∀ (j : Nat) (u : Value), s.cells[j]? = some u → w.cell? ⟨a.block, a.off + (i * 3 + j), none⟩ = some u) (fun i hi => by
      obtain ⟨cs', h1, h2⟩ := hx i (by omega)
      obtain ⟨s, rfl, hs⟩ := Ev.of h2
      obtain ⟨-, -, hat⟩ := World.cells?_some h1
      have hsp : a.spot = none := by
        obtain ⟨cs0, h10, h20⟩ := hx 0 (by omega)
        obtain ⟨s0, rfl, -⟩ := Ev.of h20
        obtain ⟨-, -, hat0⟩ := World.cells?_some h10
        have hq := hat0 0 (by omega)
        have e0 : (a.add (0 * 3)).add 0 = a := by simp [Addr.add]
        rw [e0] at hq
        cases hsp : a.spot with
        | none => rfl
        | some x =>
          exfalso
          simp only [World.cell?, hsp] at hq
          split at hq <;> simp [Ev.cells] at hq
      refine ⟨s, hs, hsp, fun j u hj => ?_⟩
      have hj5 : j < 3 := by
        have := (List.getElem?_eq_some_iff.1 hj).1
        simpa [Ev.cells] using this
      have hq := hat j hj5
      rw [add_none hsp, add_none rfl, hj] at hq
      rw [← hq]
      simp only [Nat.add_assoc])
    refine ⟨(List.range len).map V, some a, m, by simp, by simpa using hl, hm, ?_, ?_⟩
    · intro s hs
      simp only [List.mem_map, List.mem_range] at hs
      obtain ⟨i, hi, rfl⟩ := hs
      exact (hV i hi).1
    · intro i s hs
      have hi : i < len := by
        have := (List.getElem?_eq_some_iff.1 hs).1
        simpa using this
      simp only [List.getElem?_map, List.getElem?_range hi, Option.map_some, Option.some.injEq] at hs
      subst hs
      obtain ⟨-, hsp, hq⟩ := hV i hi
      refine ⟨a.block, a.off, by cases a; simp_all, ?_, hq⟩
      have := hq 0 _ rfl
      exact World.block_lt_of_cell? w ⟨a.block, a.off + (i * 3 + 0), none⟩ this
end
end Go.Proofs.Ytjjbfmaldhlenaa
