/-
  The slices of small numbers and of truths that come in, opened.
-/
import Derived.Test.YtjdhdmljchnidaaWorks
import Derived.Deep.Lists
import Derived.SizedLaws
import Derived.Deep.Slices
namespace Go.Proofs.Ytjdhdmljchnidaa
open Go.RowKit Go.ChangeShapes Go.WideShapes Go.Deep
theorem i64_of {n : Int} (h : (Lit.int .i64 n).wf = true) : -9223372036854775808 ≤ n ∧ n ≤ 9223372036854775807 := by
  simpa [Lit.wf, IntKind.min, IntKind.max, IntKind.signed, IntKind.bits] using h
theorem u8_of {n : Int} (h : (Lit.int .u8 n).wf = true) : 0 ≤ n ∧ n ≤ 255 := by
  simpa [Lit.wf, IntKind.min, IntKind.max, IntKind.signed, IntKind.bits] using h
theorem u32_of {n : Int} (h : (Lit.int .u32 n).wf = true) : 0 ≤ n ∧ n ≤ 4294967295 := by
  simpa [Lit.wf, IntKind.min, IntKind.max, IntKind.signed, IntKind.bits] using h
theorem add_none {a : Addr} (h : a.spot = none) (n : Nat) : a.add n = ⟨a.block, a.off + n, none⟩ := by
  unfold Addr.add
  split
  · rename_i e; subst e; cases a; simp_all
  · rfl
/-- A slice that holds just these small numbers. -/
def BytesHold (w : World) (v : Value) (l : List Int) : Prop :=
  ∃ (oa : Option Addr) (cap : Nat), v = .slice oa l.length cap ∧ (∀ x ∈ l, 0 ≤ x ∧ x ≤ 255) ∧ ∀ k (hk : k < l.length), ∃ b off, oa = some ⟨b, off, none⟩ ∧ b < w.heap.size ∧ w.cell? ⟨b, off + k, none⟩ = some (.int .u8 l[k])
section
variable {H : Type} {enc : TypeId × Value → H} {w : World} {base : Nat} {held : Bool}
theorem bytes_open {base' : Nat} {v : Value} {d : DataW H} {ps : List MemPlace} (h : DataW.Trod enc Try.prog w base (fun _ => true) held 22 v d ps) (hv : Value.okWide Try.prog w .any base' 22 v) : ∃ l : List Int, BytesHold w v l := by
  obtain ⟨oa, len, cap, rfl⟩ := okWide_slice Try.underlying22 hv
  obtain ⟨fuel, hf⟩ := h
  rcases open_ints Try.underlying22 Try.underlying5 (by kernel_rfl) hf with ⟨hcs, -⟩ | ⟨a, len', cap', zs, hcs, -, hl, hm, hzl, -, hc, hwf⟩
  · simp only [Value.cells, List.cons.injEq, Value.slice.injEq, and_true] at hcs
    obtain ⟨rfl, rfl, rfl⟩ := hcs
    exact ⟨[], none, 0, rfl, fun x hx => by simp at hx, fun k hk => by simp at hk⟩
  · simp only [Value.cells, List.cons.injEq, Value.slice.injEq, and_true] at hcs
    obtain ⟨rfl, rfl, rfl⟩ := hcs
    simp only [if_true] at hzl
    have hlen : (zs.take len).length = len := by rw [List.length_take]; omega
    refine ⟨zs.take len, some a, cap, by rw [hlen], fun x hx => ?_, fun k hk => ?_⟩
    · have := u8_of (hwf x (List.mem_of_mem_take hx))
      exact this
    · rw [hlen] at hk
      have hq := hc k (by omega)
      have hsp : a.spot = none := by
        have h0 := hc 0 (by omega)
        have e0 : a.add 0 = a := by simp [Addr.add]
        rw [e0] at h0
        cases hsp : a.spot with
        | none => rfl
        | some x =>
          exfalso
          simp only [World.cell?, hsp] at h0
          split at h0 <;> simp at h0
      rw [add_none hsp] at hq
      refine ⟨a.block, a.off, by cases a; simp_all, World.block_lt_of_cell? w ⟨a.block, a.off + k, none⟩ hq, ?_⟩
      rw [hq]
      simp [List.getD_eq_getElem?_getD, show k < zs.length by omega]
end
theorem BytesHold.at_ {w : World} {oa : Option Addr} {cap : Nat} {l : List Int} (h : BytesHold w (.slice oa l.length cap) l) {k : Nat} (hk : k < l.length) :
    ∃ b off, oa = some ⟨b, off, none⟩ ∧ b < w.heap.size ∧ 0 ≤ l[k] ∧ l[k] ≤ 255 ∧ w.cell? ⟨b, off + k, none⟩ = some (.int .u8 l[k]) := by
  obtain ⟨oa', cap', he, hr, hc⟩ := h
  simp only [Value.slice.injEq] at he
  obtain ⟨rfl, -, rfl⟩ := he
  obtain ⟨b, off, rfl, hlt, hq⟩ := hc k hk
  exact ⟨b, off, rfl, hlt, (hr _ (List.getElem_mem hk)).1, (hr _ (List.getElem_mem hk)).2, hq⟩
/-- A slice that holds just these truths. -/
def BoolsHold (w : World) (v : Value) (l : List Bool) : Prop :=
  ∃ (oa : Option Addr) (cap : Nat), v = .slice oa l.length cap ∧ ∀ k (hk : k < l.length), ∃ b off, oa = some ⟨b, off, none⟩ ∧ b < w.heap.size ∧ w.cell? ⟨b, off + k, none⟩ = some (.bool l[k])
theorem BoolsHold.at_ {w : World} {oa : Option Addr} {cap : Nat} {l : List Bool} (h : BoolsHold w (.slice oa l.length cap) l) {k : Nat} (hk : k < l.length) :
    ∃ b off, oa = some ⟨b, off, none⟩ ∧ b < w.heap.size ∧ w.cell? ⟨b, off + k, none⟩ = some (.bool l[k]) := by
  obtain ⟨oa', cap', he, hc⟩ := h
  simp only [Value.slice.injEq] at he
  obtain ⟨rfl, -, rfl⟩ := he
  exact hc k hk
section
variable {H : Type} {enc : TypeId × Value → H} {w : World} {base : Nat} {held : Bool}
theorem bools_open {base' : Nat} {v : Value} {d : DataW H} {ps : List MemPlace} (h : DataW.Trod enc Try.prog w base (fun _ => true) held 23 v d ps) (hv : Value.okWide Try.prog w .any base' 23 v) : ∃ l : List Bool, BoolsHold w v l := by
  obtain ⟨oa, len, cap, rfl⟩ := okWide_slice Try.underlying23 hv
  obtain ⟨fuel, hf⟩ := h
  have hc : Try.prog.cellsOf 4 = 1 := by kernel_rfl
  rcases open_slice Try.underlying23 hf with ⟨hcs, -⟩ | ⟨a, len', cap', m, n, D, Pl, hcs, -, hl, hm, hmm, -, hx⟩
  · simp only [Value.cells, List.cons.injEq, Value.slice.injEq, and_true] at hcs
    obtain ⟨rfl, rfl, rfl⟩ := hcs
    exact ⟨[], none, 0, rfl, fun k hk => by simp at hk⟩
  · simp only [Value.cells, List.cons.injEq, Value.slice.injEq, and_true] at hcs
    obtain ⟨rfl, rfl, rfl⟩ := hcs
    simp only [if_true] at hmm
    subst hmm
    rw [hc] at hx
    obtain ⟨V, hV⟩ := choose_lt (α := Bool) (n := len) (p := fun i s => a.spot = none ∧ w.cell? ⟨a.block, a.off + i, none⟩ = some (.bool s)) (fun i hi => by
      obtain ⟨cs', h1, h2⟩ := hx i (by omega)
      obtain ⟨s, rfl, -⟩ := DataW.trod_bool Try.underlying4 h2
      obtain ⟨-, -, hat⟩ := World.cells?_some h1
      have hsp : a.spot = none := by
        obtain ⟨cs0, h10, h20⟩ := hx 0 (by omega)
        obtain ⟨s0, rfl, -⟩ := DataW.trod_bool Try.underlying4 h20
        obtain ⟨-, -, hat0⟩ := World.cells?_some h10
        have hq := hat0 0 (by omega)
        have e0 : (a.add (0 * 1)).add 0 = a := by simp [Addr.add]
        rw [e0] at hq
        cases hsp : a.spot with
        | none => rfl
        | some x =>
          exfalso
          simp only [World.cell?, hsp] at hq
          split at hq <;> simp at hq
      refine ⟨s, hsp, ?_⟩
      have hq := hat 0 (by omega)
      rw [add_none hsp, add_none rfl] at hq
      simpa using hq)
    refine ⟨(List.range len).map V, some a, m, by simp, fun k hk => ?_⟩
    have hk' : k < len := by simpa using hk
    obtain ⟨hsp, hq⟩ := hV k hk'
    refine ⟨a.block, a.off, by cases a; simp_all, World.block_lt_of_cell? w ⟨a.block, a.off + k, none⟩ hq, ?_⟩
    simpa using hq
end
end Go.Proofs.Ytjdhdmljchnidaa
