/-
  The steps that come in, with all their lists, opened.
-/
import Derived.Test.YtjdhdmljchnidaaBx
import Derived.Test.YtjdhdmljchnidaaIns
import Derived.Test.YtjdhdmljchnidaaFrames
import Derived.SizedLaws
import Derived.Deep.Slices
namespace Go.Proofs.Ytjdhdmljchnidaa
open Go.RowKit Go.ChangeShapes Go.WideShapes Go.Deep
set_option linter.unusedVariables false
set_option linter.unusedSimpArgs false
theorem spot_of {w : World} {a : Addr} {v : Value} (h : w.cell? a = some v) : a.spot = none := by
  unfold World.cell? at h
  split at h
  · cases hs : a.spot with
    | none => rfl
    | some x => simp [hs] at h
  · cases h
instance : Inhabited Mem := ⟨⟨0, 0, 0, 0⟩⟩
instance : Inhabited ID2 := ⟨⟨0, 0⟩⟩
instance : Inhabited Tk := ⟨⟨0, 0, 0⟩⟩
instance : Inhabited RowR := ⟨⟨0, 0, 0, .nil⟩⟩
/-- A row, and its list. -/
def elR2 : El (RowR × List ID2) where
  e := 77
  t := 33
  k := 4
  c := fun m => elR.c m.1
  len := fun _ => rfl
  one := fun a => elR.one a.1
  pos := by decide
/-- A frame that comes in, and what its lists read. -/
structure Inp where
  f : Fr
  ms : List Mem
  fs : List ID2
  rs : List (RowR × List ID2)
  cs : List Tk
  ss : List ID2
instance : Inhabited Inp := ⟨⟨.zero, [], [], [], [], []⟩⟩
def Inp.dat (x : Inp) : Dat := ⟨x.f.kind, x.f.fa, x.f.fi, x.f.ta, x.f.ti, x.f.n, x.f.token, x.f.ba, x.f.bi, x.ms, x.fs, x.rs.map fun p => ⟨p.1.a, p.1.i, p.1.v, p.2⟩, x.cs, x.ss⟩
structure Inp.Small (x : Inp) : Prop where
  ms : x.ms.length ≤ 100000
  fs : x.fs.length ≤ 100000
  rs : x.rs.length ≤ 100000
  cs : x.cs.length ≤ 100000
  ss : x.ss.length ≤ 100000
  not : ∀ p ∈ x.rs, p.2.length ≤ 100000
structure Inp.Ok (P : Nat) (x : Inp) (w : World) : Prop where
  k0 : 0 ≤ x.f.kind
  k1 : x.f.kind ≤ 255
  ms : Rd elM P 0 P x.f.ms x.ms w
  fs : Rd elI P 0 P x.f.fs x.fs w
  rs : Rd elR2 P 0 P x.f.rs x.rs w
  cs : Rd elT P 0 P x.f.cs x.cs w
  ss : Rd elI P 0 P x.f.ss x.ss w
  not : ∀ p ∈ x.rs, Rd elI P 0 P p.1.not p.2 w ∧ p.1.not.c ≤ reachBytes
  zms : x.f.ms.c ≤ reachBytes
  zfs : x.f.fs.c ≤ reachBytes
  zrs : x.f.rs.c ≤ reachBytes
  zcs : x.f.cs.c ≤ reachBytes
  zss : x.f.ss.c ≤ reachBytes
theorem Inp.Ok.below {P : Nat} {x : Inp} {w w' : World} (h : x.Ok P w) (hb : Below P w w') : x.Ok P w' :=
  { h with
    ms := h.ms.same hb.size fun k _ a _ _ => hb.block k a
    fs := h.fs.same hb.size fun k _ a _ _ => hb.block k a
    rs := h.rs.same hb.size fun k _ a _ _ => hb.block k a
    cs := h.cs.same hb.size fun k _ a _ _ => hb.block k a
    ss := h.ss.same hb.size fun k _ a _ _ => hb.block k a
    not := fun p hp => ⟨(h.not p hp).1.same hb.size fun k _ a _ _ => hb.block k a, (h.not p hp).2⟩ }
theorem rows2 (l : List (RowR × List ID2)) : elR2.rows l = elR.rows (l.map (·.1)) := by
  induction l with
  | nil => rfl
  | cons a l ih => exact congrArg (elR.c a.1 ++ ·) ih
theorem Rd.raw {P lo hi : Nat} {s : SL} {l : List (RowR × List ID2)} {w : World} (h : Rd elR2 P lo hi s l w) : Rd elR P lo hi s (l.map (·.1)) w := by
  refine ⟨by simpa using h.n, h.le, h.c, h.nil, fun hl => ?_⟩
  obtain ⟨b, o, e, h1, h2, h3, h4, h5⟩ := h.at_ (by simpa using hl)
  exact ⟨b, o, e, h1, h2, h3, h4, fun j u hj => h5 j u (by rw [rows2]; exact hj)⟩
theorem Inp.Ok.deep {P : Nat} {x : Inp} {w : World} (h : x.Ok P w) (hs : x.Small) : Deep P 0 P x.dat x.f w where
  kind := rfl
  fa := rfl
  fi := rfl
  ta := rfl
  ti := rfl
  n := rfl
  token := rfl
  ba := rfl
  bi := rfl
  ms := h.ms
  fs := h.fs
  rs := ⟨x.rs.map (·.1), by simp [Inp.dat], h.rs.raw, fun j h1 h2 => by
    have hj : j < x.rs.length := by simpa using h1
    have hm := List.getElem_mem hj
    simp only [Inp.dat, List.getElem_map]
    exact ⟨rfl, rfl, rfl, hs.not _ hm, (h.not _ hm).1⟩⟩
  cs := h.cs
  ss := h.ss
  zms := hs.ms
  zfs := hs.fs
  zrs := by simpa [Inp.dat] using hs.rs
  zcs := hs.cs
  zss := hs.ss
/-! ### Opened -/
theorem mem_all {H : Type} {P : Program} {e : TypeId} {d : DataW H} {n : Nat} (hn : n ∈ d.weights P e) : ∀ {l : List (DataW H)}, d ∈ l → n ∈ DataW.weightsAll P e l
  | [], h => by simp at h
  | a :: l, h => by
    simp only [DataW.weightsAll, List.mem_append]
    rcases List.mem_cons.1 h with rfl | h
    · exact .inl hn
    · exact .inr (mem_all hn h)
section
variable {H : Type} {enc : TypeId × Value → H} {w : World} {base : Nat} {held : Bool}
theorem el_open {α : Type} [Inhabited α] (E : El α) (Good : α → Prop) (hc : Try.prog.cellsOf E.e = E.k) (ht : Try.prog.underlying E.t = some (.slice E.e)) (hby : 0 < Try.prog.bytesOf E.e)
    (hof : ∀ m cs z, DataW.trod enc Try.prog w base (fun _ => true) held m E.e cs = some z → (∀ n ∈ z.1.weights Try.prog E.e, n ≤ reachBytes) → ∃ s : α, cs = E.c s ∧ Good s)
    {m : Nat} {cs : List Value} {z : DataW H × List MemPlace} (h : DataW.trod enc Try.prog w base (fun _ => true) held m E.t cs = some z) (hw : ∀ n ∈ z.1.weights Try.prog E.t, n ≤ reachBytes) :
    ∃ (s : SL) (l : List α), cs = [s.val] ∧ Rd E w.heap.size 0 w.heap.size s l w ∧ (∀ x ∈ l, Good x) ∧ s.c ≤ reachBytes := by
  rcases open_slice ht h with ⟨hcs, -⟩ | ⟨a, len, cap, m, n, D, Pl, hcs, -, hl, hm, hmm, hxd, hx⟩
  · exact ⟨.nil, [], hcs, Rd.empty _ _ _ _ _, by simp, by decide⟩
  · simp only [if_true] at hmm
    subst hmm
    rw [hc] at hx
    rw [hxd] at hw
    simp only [DataW.weights, ht, List.mem_cons, List.mem_append, List.length_map, List.length_range] at hw
    have hw0 := hw _ (.inl rfl)
    have hcap : m ≤ reachBytes := by
      have h1 : len + (m - len) = m := by omega
      rw [h1] at hw0
      exact Nat.le_trans (Nat.le_mul_of_pos_right m hby) hw0
    obtain ⟨V, hV⟩ := choose_lt (α := α) (n := len) (p := fun i s => Good s ∧ a.spot = none ∧ ∀ (j : Nat) (u : Value), (E.c s)[j]? = some u → w.cell? ⟨a.block, a.off + (i * E.k + j), none⟩ = some u) (fun i hi => by
      obtain ⟨cs', h1, h2⟩ := hx i (by omega)
      obtain ⟨s, rfl, hs⟩ := hof _ _ _ h2 (fun x hx' => hw x (.inr (.inl (mem_all hx' (List.mem_map.2 ⟨i, List.mem_range.2 hi, rfl⟩)))))
      obtain ⟨-, -, hat⟩ := World.cells?_some h1
      have hsp : a.spot = none := by
        obtain ⟨cs0, h10, h20⟩ := hx 0 (by omega)
        obtain ⟨s0, rfl, -⟩ := hof _ _ _ h20 (fun x hx' => hw x (.inr (.inl (mem_all hx' (List.mem_map.2 ⟨0, List.mem_range.2 (by omega), rfl⟩)))))
        obtain ⟨-, -, hat0⟩ := World.cells?_some h10
        have hq := hat0 0 E.pos
        have e0 : (a.add (0 * E.k)).add 0 = a := by simp [Addr.add]
        rw [e0] at hq
        have h0 : 0 < (E.c s0).length := by rw [E.len]; exact E.pos
        rw [List.getElem?_eq_getElem h0] at hq
        exact spot_of hq
      refine ⟨s, hs, hsp, fun j u hj => ?_⟩
      have hjk : j < E.k := by
        have := (List.getElem?_eq_some_iff.1 hj).1
        rwa [E.len] at this
      have hq := hat j hjk
      rw [add_none hsp, add_none rfl, hj] at hq
      rw [← hq]
      simp only [Nat.add_assoc])
    refine ⟨⟨some a, len, m⟩, (List.range len).map V, hcs, ⟨by simp, hl, hm, (fun e => by cases e), fun hl0 => ?_⟩, ?_, hcap⟩
    · have hl0 : 0 < len := by simpa using hl0
      obtain ⟨-, hsp, hq⟩ := hV 0 hl0
      have hblk : a.block < w.heap.size := by
        have h0 : 0 < (E.c (V 0)).length := by rw [E.len]; exact E.pos
        exact World.block_lt_of_cell? w ⟨a.block, a.off + (0 * E.k + 0), none⟩ (hq 0 _ (List.getElem?_eq_getElem h0))
      refine ⟨a.block, a.off, by cases a; simp_all, Nat.zero_le _, hblk, hblk, .inl hblk, fun j u hj => ?_⟩
      have hjl := (List.getElem?_eq_some_iff.1 hj).1
      rw [El.rows_length] at hjl
      simp only [List.length_map, List.length_range] at hjl
      have hd : j / E.k < len := Nat.div_lt_of_lt_mul (by rwa [Nat.mul_comm])
      have e : j = j / E.k * E.k + j % E.k := by rw [Nat.mul_comm]; exact (Nat.div_add_mod j E.k).symm
      have hg := E.rows_get ((List.range len).map V) (j / E.k) (j % E.k) (by simpa using hd) (Nat.mod_lt _ E.pos)
      rw [← e, hj] at hg
      simp only [List.getElem_map, List.getElem_range] at hg
      have := (hV (j / E.k) hd).2.2 (j % E.k) u hg.symm
      rwa [← e] at this
    · intro x hx'
      simp only [List.mem_map, List.mem_range] at hx'
      obtain ⟨i, hi, rfl⟩ := hx'
      exact (hV i hi).1
end
end Go.Proofs.Ytjdhdmljchnidaa
