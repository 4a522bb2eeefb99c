/-
  The slices of structs that come in, opened.
-/
import Derived.Test.YtialfpmfiapepaaWorks
import Derived.Deep.Lists
import Derived.SizedLaws
import Derived.Deep.Slices
namespace Go.Proofs.Ytialfpmfiapepaa
open Go.RowKit Go.ChangeShapes Go.WideShapes Go.Deep

/-- What a slice holds: Step. -/
structure Step where
  kind : Int
  txt : ByteArray
  dst : Int
  k : Int
  pos : Int
  x : Int
instance : Inhabited Step := ⟨⟨0, .empty, 0, 0, 0, 0⟩⟩
def Step.cells (s : Step) : List Value := [.int .u8 s.kind, .string s.txt, .int .i64 s.dst, .int .i64 s.k, .int .i64 s.pos, .int .u32 s.x]
structure Step.Ok (s : Step) : Prop where
  kind0 : 0 ≤ s.kind
  kind1 : s.kind ≤ 255
  txt0 : s.txt.size ≤ maxLen
  dst0 : -9223372036854775808 ≤ s.dst
  dst1 : s.dst ≤ 9223372036854775807
  k0 : -9223372036854775808 ≤ s.k
  k1 : s.k ≤ 9223372036854775807
  pos0 : -9223372036854775808 ≤ s.pos
  pos1 : s.pos ≤ 9223372036854775807
  x0 : 0 ≤ s.x
  x1 : s.x ≤ 4294967295
/-- A slice that holds just these. -/
def Step.Holds (w : World) (v : Value) (l : List Step) : Prop :=
  ∃ (oa : Option Addr) (cap : Nat), v = .slice oa l.length cap ∧ l.length ≤ cap ∧ cap ≤ maxLen ∧ (∀ s ∈ l, s.Ok) ∧
    ∀ (i : Nat) (s : Step), l[i]? = some s → ∃ b off, oa = some ⟨b, off, none⟩ ∧ b < w.heap.size ∧ ∀ (j : Nat) (u : Value), s.cells[j]? = some u → w.cell? ⟨b, off + (i * 6 + j), none⟩ = some u
theorem Step.Holds.below {w w' : World} {v : Value} {l : List Step} (h : Step.Holds w v l) (hb : Below w.heap.size w w') : Step.Holds w' v l := by
  obtain ⟨oa, cap, he, h1, h2, hok, hc⟩ := h
  refine ⟨oa, cap, he, h1, h2, hok, fun i s hi => ?_⟩
  obtain ⟨b, off, e, hlt, hq⟩ := hc i s hi
  exact ⟨b, off, e, Nat.lt_of_lt_of_le hlt hb.size, fun j u hj => by rw [hb.cell (p := ⟨b, _, none⟩) hlt]; exact hq j u hj⟩
/-- The one in place k, read. -/
theorem Step.Holds.at_ {w : World} {oa : Option Addr} {cap : Nat} {l : List Step} (h : Step.Holds w (.slice oa l.length cap) l) {k : Nat} (hk : k < l.length) :
    ∃ b off, oa = some ⟨b, off, none⟩ ∧ b < w.heap.size ∧ l[k].Ok ∧ w.cell? ⟨b, off + k * 6, none⟩ = some (.int .u8 l[k].kind) ∧ w.cell? ⟨b, off + k * 6 + 1, none⟩ = some (.string l[k].txt) ∧ w.cell? ⟨b, off + k * 6 + 2, none⟩ = some (.int .i64 l[k].dst) ∧ w.cell? ⟨b, off + k * 6 + 3, none⟩ = some (.int .i64 l[k].k) ∧ w.cell? ⟨b, off + k * 6 + 4, none⟩ = some (.int .i64 l[k].pos) ∧ w.cell? ⟨b, off + k * 6 + 5, none⟩ = some (.int .u32 l[k].x) := by
  obtain ⟨oa', cap', he, -, -, hok, hc⟩ := h
  simp only [Value.slice.injEq] at he
  obtain ⟨rfl, -, rfl⟩ := he
  obtain ⟨b, off, rfl, hlt, hq⟩ := hc k l[k] (List.getElem?_eq_getElem hk)
  refine ⟨b, off, rfl, hlt, hok _ (List.getElem_mem hk), ?_, ?_, ?_, ?_, ?_, ?_⟩
  · simpa using hq 0 _ rfl
  · simpa [Nat.add_assoc] using hq 1 _ rfl
  · simpa [Nat.add_assoc] using hq 2 _ rfl
  · simpa [Nat.add_assoc] using hq 3 _ rfl
  · simpa [Nat.add_assoc] using hq 4 _ rfl
  · simpa [Nat.add_assoc] using hq 5 _ rfl
theorem i64_of {n : Int} (h : (Lit.int .i64 n).wf = true) : -9223372036854775808 ≤ n ∧ n ≤ 9223372036854775807 := by
  simpa [Lit.wf, IntKind.min, IntKind.max, IntKind.signed, IntKind.bits] using h
theorem u8_of {n : Int} (h : (Lit.int .u8 n).wf = true) : 0 ≤ n ∧ n ≤ 255 := by
  simpa [Lit.wf, IntKind.min, IntKind.max, IntKind.signed, IntKind.bits] using h
theorem u32_of {n : Int} (h : (Lit.int .u32 n).wf = true) : 0 ≤ n ∧ n ≤ 4294967295 := by
  simpa [Lit.wf, IntKind.min, IntKind.max, IntKind.signed, IntKind.bits] using h
theorem add_none {a : Addr} (h : a.spot = none) (n : Nat) : a.add n = ⟨a.block, a.off + n, none⟩ := by
  unfold Addr.add
  split
  · rename_i e; subst e; cases a; simp_all
  · rfl
section
variable {H : Type} {enc : TypeId × Value → H} {w : World} {base : Nat} {spare : Nat → Bool} {held : Bool}
theorem Step.of {m : Nat} {cs : List Value} {z : DataW H × List MemPlace} (h : DataW.trod enc Try.prog w base spare held m 32 cs = some z) : ∃ s : Step, cs = s.cells ∧ s.Ok ∧ s.txt.size ∈ z.1.weights Try.prog 32 := by
  obtain ⟨xs, n, -, hz, hl, hx, hf⟩ := DataW.trod_struct Try.underlying32 h
  have hc : Try.prog.cellsOf 32 = 6 := by kernel_rfl
  have h3 : Try.prog.cellsOf 3 = 1 := by kernel_rfl
  have h5 : Try.prog.cellsOf 5 = 1 := by kernel_rfl
  have h9 : Try.prog.cellsOf 9 = 1 := by kernel_rfl
  have h30 : Try.prog.cellsOf 30 = 1 := by kernel_rfl
  rw [hc] at hl
  match cs, hl, xs, hx with
  | [c0, c1, c2, c3, c4, c5], _, [x0, x1, x2, x3, x4, x5], _ =>
    have f0 := hf 0 _ rfl
    have f1 := hf 1 _ rfl
    have f2 := hf 2 _ rfl
    have f3 := hf 3 _ rfl
    have f4 := hf 4 _ rfl
    have f5 := hf 5 _ rfl
    simp [h5] at f0
    simp [h9] at f1
    simp [h3] at f2
    simp [h3] at f3
    simp [h3] at f4
    simp [h30] at f5
    obtain ⟨a0, e0, -, w0⟩ := DataW.trod_int Try.underlying5 f0
    obtain ⟨a1, e1, g1, w1⟩ := DataW.trod_string Try.underlying9 f1
    obtain ⟨a2, e2, -, w2⟩ := DataW.trod_int Try.underlying3 f2
    obtain ⟨a3, e3, -, w3⟩ := DataW.trod_int Try.underlying3 f3
    obtain ⟨a4, e4, -, w4⟩ := DataW.trod_int Try.underlying3 f4
    obtain ⟨a5, e5, -, w5⟩ := DataW.trod_int Try.underlying30 f5
    simp only [List.cons.injEq, and_true] at e0 e1 e2 e3 e4 e5
    subst e0 e1 e2 e3 e4 e5
    have b0 := u8_of w0
    have b2 := i64_of w2
    have b3 := i64_of w3
    have b4 := i64_of w4
    have b5 := u32_of w5
    refine ⟨⟨a0, a1, a2, a3, a4, a5⟩, rfl, ⟨b0.1, b0.2, w1, b2.1, b2.2, b3.1, b3.2, b4.1, b4.2, b5.1, b5.2⟩, ?_⟩
    have hm := DataW.weights_mem_each (P := Try.prog) (ts := [5, 9, 3, 3, 3, 30]) (ds := [x0.1, x1.1, x2.1, x3.1, x4.1, x5.1]) (j := 1) rfl (show _ = some (.lit (.string a1.data.toList)) by rw [g1]; rfl) a1.size (by simp [DataW.weights])
    rw [hz]
    simpa [DataW.weights, Try.underlying32] using hm
theorem mem_all {P : Program} {e : TypeId} {d : DataW H} {n : Nat} (hn : n ∈ d.weights P e) : ∀ {l : List (DataW H)}, d ∈ l → n ∈ DataW.weightsAll P e l
  | [], h => by simp at h
  | a :: l, h => by
    simp only [DataW.weightsAll, List.mem_append]
    rcases List.mem_cons.1 h with rfl | h
    · exact .inl hn
    · exact .inr (mem_all hn h)
theorem Step.open_ {base' : Nat} {v : Value} {d : DataW H} {ps : List MemPlace} (h : DataW.Trod enc Try.prog w base (fun _ => true) held 22 v d ps) (hv : Value.okWide Try.prog w .any base' 22 v) : ∃ l : List Step, Step.Holds w v l ∧ ∀ s ∈ l, s.txt.size ∈ d.weights Try.prog 22 := by
  obtain ⟨oa, len, cap, rfl⟩ := okWide_slice Try.underlying22 hv
  obtain ⟨fuel, hf⟩ := h
  have hc : Try.prog.cellsOf 32 = 6 := by kernel_rfl
  rcases open_slice Try.underlying22 hf with ⟨hcs, -⟩ | ⟨a, len', cap', m, n, D, Pl, hcs, -, hl, hm, hmm, hxd, hx⟩
  · simp only [Value.cells, List.cons.injEq, Value.slice.injEq, and_true] at hcs
    obtain ⟨rfl, rfl, rfl⟩ := hcs
    exact ⟨[], ⟨none, 0, rfl, Nat.le_refl _, by decide, by simp, by simp⟩, by simp⟩
  · simp only [Value.cells, List.cons.injEq, Value.slice.injEq, and_true] at hcs
    obtain ⟨rfl, rfl, rfl⟩ := hcs
    simp only [if_true] at hmm
    subst hmm
    rw [hc] at hx
    obtain ⟨V, hV⟩ := choose_lt (α := Step) (n := len) (p := fun i s => (s.Ok ∧ s.txt.size ∈ (D i).weights Try.prog 32) ∧ a.spot = none ∧ ∀ (j : Nat) (u : Value), s.cells[j]? = some u → w.cell? ⟨a.block, a.off + (i * 6 + j), none⟩ = some u) (fun i hi => by
      obtain ⟨cs', h1, h2⟩ := hx i (by omega)
      obtain ⟨s, rfl, hs1, hs2⟩ := Step.of h2
      have hs := And.intro hs1 hs2
      obtain ⟨-, -, hat⟩ := World.cells?_some h1
      have hsp : a.spot = none := by
        obtain ⟨cs0, h10, h20⟩ := hx 0 (by omega)
        obtain ⟨s0, rfl, -, -⟩ := Step.of h20
        obtain ⟨-, -, hat0⟩ := World.cells?_some h10
        have hq := hat0 0 (by omega)
        have e0 : (a.add (0 * 6)).add 0 = a := by simp [Addr.add]
        rw [e0] at hq
        cases hsp : a.spot with
        | none => rfl
        | some x =>
          exfalso
          simp only [World.cell?, hsp] at hq
          split at hq <;> simp [Step.cells] at hq
      refine ⟨s, hs, hsp, fun j u hj => ?_⟩
      have hj5 : j < 6 := by
        have := (List.getElem?_eq_some_iff.1 hj).1
        simpa [Step.cells] using this
      have hq := hat j hj5
      rw [add_none hsp, add_none rfl, hj] at hq
      rw [← hq]
      simp only [Nat.add_assoc])
    refine ⟨(List.range len).map V, ⟨some a, m, by simp, by simpa using hl, hm, ?_, ?_⟩, ?_⟩
    · intro s hs
      simp only [List.mem_map, List.mem_range] at hs
      obtain ⟨i, hi, rfl⟩ := hs
      exact (hV i hi).1.1
    · intro i s hs
      have hi : i < len := by
        have := (List.getElem?_eq_some_iff.1 hs).1
        simpa using this
      simp only [List.getElem?_map, List.getElem?_range hi, Option.map_some, Option.some.injEq] at hs
      subst hs
      obtain ⟨-, hsp, hq⟩ := hV i hi
      refine ⟨a.block, a.off, by cases a; simp_all, ?_, hq⟩
      have := hq 0 _ rfl
      exact World.block_lt_of_cell? w ⟨a.block, a.off + (i * 6 + 0), none⟩ this
    · intro s hs
      simp only [List.mem_map, List.mem_range] at hs
      obtain ⟨i, hi, rfl⟩ := hs
      have h1 := (hV i hi).1.2
      simp only [Prod.mk.injEq] at hxd
      rw [hxd.1]
      simp only [DataW.weights, Try.underlying22, List.mem_cons, List.mem_append]
      exact .inr (.inl (mem_all h1 (List.mem_map.2 ⟨i, List.mem_range.2 hi, rfl⟩)))
end
/-- A slice that holds just these small numbers. -/
def BytesHold (w : World) (v : Value) (l : List Int) : Prop :=
  ∃ (oa : Option Addr) (cap : Nat), v = .slice oa l.length cap ∧ (∀ x ∈ l, 0 ≤ x ∧ x ≤ 255) ∧ ∀ k (hk : k < l.length), ∃ b off, oa = some ⟨b, off, none⟩ ∧ b < w.heap.size ∧ w.cell? ⟨b, off + k, none⟩ = some (.int .u8 l[k])
section
variable {H : Type} {enc : TypeId × Value → H} {w : World} {base : Nat} {held : Bool}
theorem bytes_open {base' : Nat} {v : Value} {d : DataW H} {ps : List MemPlace} (h : DataW.Trod enc Try.prog w base (fun _ => true) held 44 v d ps) (hv : Value.okWide Try.prog w .any base' 44 v) : ∃ l : List Int, BytesHold w v l := by
  obtain ⟨oa, len, cap, rfl⟩ := okWide_slice Try.underlying44 hv
  obtain ⟨fuel, hf⟩ := h
  rcases open_ints Try.underlying44 Try.underlying5 (by kernel_rfl) hf with ⟨hcs, -⟩ | ⟨a, len', cap', zs, hcs, -, hl, hm, hzl, -, hc, hwf⟩
  · simp only [Value.cells, List.cons.injEq, Value.slice.injEq, and_true] at hcs
    obtain ⟨rfl, rfl, rfl⟩ := hcs
    exact ⟨[], none, 0, rfl, fun x hx => by simp at hx, fun k hk => by simp at hk⟩
  · simp only [Value.cells, List.cons.injEq, Value.slice.injEq, and_true] at hcs
    obtain ⟨rfl, rfl, rfl⟩ := hcs
    simp only [if_true] at hzl
    have hlen : (zs.take len).length = len := by rw [List.length_take]; omega
    refine ⟨zs.take len, some a, cap, by rw [hlen], fun x hx => ?_, fun k hk => ?_⟩
    · have := u8_of (hwf x (List.mem_of_mem_take hx))
      exact this
    · rw [hlen] at hk
      have hq := hc k (by omega)
      have hsp : a.spot = none := by
        have h0 := hc 0 (by omega)
        have e0 : a.add 0 = a := by simp [Addr.add]
        rw [e0] at h0
        cases hsp : a.spot with
        | none => rfl
        | some x =>
          exfalso
          simp only [World.cell?, hsp] at h0
          split at h0 <;> simp at h0
      rw [add_none hsp] at hq
      refine ⟨a.block, a.off, by cases a; simp_all, World.block_lt_of_cell? w ⟨a.block, a.off + k, none⟩ hq, ?_⟩
      rw [hq]
      simp [List.getD_eq_getElem?_getD, show k < zs.length by omega]
end
end Go.Proofs.Ytialfpmfiapepaa
