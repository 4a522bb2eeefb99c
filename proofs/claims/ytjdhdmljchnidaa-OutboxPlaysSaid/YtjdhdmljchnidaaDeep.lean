/-
  What a frame reads with all its lists: plain data, and where their blocks lie.
-/
import Derived.Test.YtjdhdmljchnidaaWalks2
import Derived.Maps.AppendAt
namespace Go.Proofs.Ytjdhdmljchnidaa
open Go.RowKit
set_option linter.unusedVariables false
set_option linter.unusedSimpArgs false
/-- How an element lies in memory: its type, that of a slice of these, its cells. -/
structure El (α : Type) where
  e : TypeId
  t : TypeId
  k : Nat
  c : α → List Value
  len : ∀ a, (c a).length = k
  one : ∀ a, ∀ v ∈ c a, v.oneCell' = true
  pos : 0 < k
def El.rows {α : Type} (E : El α) : List α → List Value
  | [] => []
  | a :: l => E.c a ++ E.rows l
section
variable {α : Type} (E : El α)
theorem El.rows_append (a b : List α) : E.rows (a ++ b) = E.rows a ++ E.rows b := by
  induction a with
  | nil => rfl
  | cons f a ih => simp [El.rows, ih]
theorem El.rows_length (l : List α) : (E.rows l).length = l.length * E.k := by
  induction l with
  | nil => simp [El.rows]
  | cons f a ih => simp only [El.rows, List.length_append, ih, E.len, List.length_cons, Nat.add_mul, Nat.one_mul]; omega
theorem El.rows_one (l : List α) : ∀ v ∈ E.rows l, v.oneCell' = true := by
  induction l with
  | nil => intro v hv; simp [El.rows] at hv
  | cons f a ih =>
    intro v hv
    simp only [El.rows, List.mem_append] at hv
    rcases hv with hv | hv
    · exact E.one f v hv
    · exact ih v hv
theorem El.rows_get (l : List α) (j o : Nat) (hj : j < l.length) (ho : o < E.k) : (E.rows l)[j * E.k + o]? = (E.c l[j])[o]? := by
  induction l generalizing j with
  | nil => simp at hj
  | cons f a ih =>
    have hf := E.len f
    cases j with
    | zero => simp only [El.rows]; rw [List.getElem?_append_left (by rw [hf]; omega)]; simp
    | succ j =>
      simp only [El.rows]
      have e : (j + 1) * E.k + o = E.k + (j * E.k + o) := by rw [Nat.add_mul]; omega
      rw [List.getElem?_append_right (by rw [hf, e]; omega), hf, e, Nat.add_sub_cancel_left, ih j (by simpa using hj)]
      simp
end
/-- A block of that element's type. -/
def Of (e : TypeId) (b : Nat) (w : World) : Prop := ∃ (cur : Array Value), w.heap[b]? = some (.cells cur e (0, 0))
/-- The slice s reads l; its block lies from lo to hi. -/
structure Rd {α : Type} (E : El α) (P lo hi : Nat) (s : SL) (l : List α) (w : World) : Prop where
  n : s.n = l.length
  le : s.n ≤ s.c
  c : s.c ≤ maxLen
  nil : s.a = none → s.n = 0 ∧ s.c = 0
  at_ : 0 < l.length → ∃ b o, s.a = some ⟨b, o, none⟩ ∧ lo ≤ b ∧ b < hi ∧ b < w.heap.size ∧ (b < P ∨ Of E.e b w) ∧ ∀ j u, (E.rows l)[j]? = some u → w.cell? ⟨b, o + j, none⟩ = some u
section
variable {α : Type} {E : El α} {P lo hi : Nat} {s : SL} {l : List α} {w w' : World}
theorem Rd.same (h : Rd E P lo hi s l w) (hs : w.heap.size ≤ w'.heap.size) (hb : ∀ k, lo ≤ k → k < hi → k < w.heap.size → (k < P ∨ Of E.e k w) → w'.heap[k]? = w.heap[k]?) : Rd E P lo hi s l w' := by
  refine ⟨h.n, h.le, h.c, h.nil, fun hl => ?_⟩
  obtain ⟨b, o, e, h1, h2, h3, h4, h5⟩ := h.at_ hl
  have hk := hb b h1 h2 h3 h4
  exact ⟨b, o, e, h1, h2, Nat.lt_of_lt_of_le h3 hs, h4.imp id (fun ⟨cur, hc⟩ => ⟨cur, hk.trans hc⟩), fun j u hj => (World.cell?_of_block (a := ⟨b, o + j, none⟩) hk).trans (h5 j u hj)⟩
theorem Rd.wide (h : Rd E P lo hi s l w) {lo' hi' : Nat} (h1 : lo' ≤ lo) (h2 : hi ≤ hi') : Rd E P lo' hi' s l w := by
  refine ⟨h.n, h.le, h.c, h.nil, fun hl => ?_⟩
  obtain ⟨b, o, e, a1, a2, a3⟩ := h.at_ hl
  exact ⟨b, o, e, by omega, by omega, a3⟩
theorem Rd.below (h : Rd E P lo hi s l w) (hb : Below w.heap.size w w') : Rd E P lo hi s l w' := h.same hb.size fun k _ _ hk _ => hb.block k hk
/-- The element in place j. -/
theorem Rd.cell (h : Rd E P lo hi s l w) {j : Nat} (hj : j < l.length) : ∃ b o, s.a = some ⟨b, o, none⟩ ∧ lo ≤ b ∧ b < hi ∧ b < w.heap.size ∧ (b < P ∨ Of E.e b w) ∧ ∀ r, r < E.k → w.cell? ⟨b, o + (j * E.k + r), none⟩ = (E.c l[j])[r]? := by
  obtain ⟨b, o, e, h1, h2, h3, h4, h5⟩ := h.at_ (by omega)
  refine ⟨b, o, e, h1, h2, h3, h4, fun r hr => ?_⟩
  have hq := E.rows_get l j r hj hr
  have hl : r < (E.c l[j]).length := by rw [E.len]; exact hr
  rw [List.getElem?_eq_getElem hl] at hq ⊢
  exact h5 _ _ hq
theorem Rd.empty (E : El α) (P lo hi : Nat) (w : World) : Rd E P lo hi .nil [] w := ⟨rfl, Nat.le_refl _, by decide, fun _ => ⟨rfl, rfl⟩, fun h => by simp at h⟩
end
/-! ### The kinds of elements -/
structure Mem where
  a : Int
  i : Int
  s : Int
  n : Int
structure ID2 where
  a : Int
  i : Int
structure Tk where
  a : Int
  i : Int
  n : Int
structure RowR where
  a : Int
  i : Int
  v : Int
  not : SL
structure RowD where
  a : Int
  i : Int
  v : Int
  not : List ID2
def elM : El Mem where
  e := 80
  t := 31
  k := 4
  c := fun m => [.int .i64 m.a, .int .i64 m.i, .int .u8 m.s, .int .i64 m.n]
  len := fun _ => rfl
  one := by intro a v hv; simp only [List.mem_cons, List.not_mem_nil, or_false] at hv; rcases hv with rfl | rfl | rfl | rfl <;> rfl
  pos := by decide
def elI : El ID2 where
  e := 30
  t := 32
  k := 2
  c := fun m => [.int .i64 m.a, .int .i64 m.i]
  len := fun _ => rfl
  one := by intro a v hv; simp only [List.mem_cons, List.not_mem_nil, or_false] at hv; rcases hv with rfl | rfl <;> rfl
  pos := by decide
def elT : El Tk where
  e := 82
  t := 34
  k := 3
  c := fun m => [.int .i64 m.a, .int .i64 m.i, .int .i64 m.n]
  len := fun _ => rfl
  one := by intro a v hv; simp only [List.mem_cons, List.not_mem_nil, or_false] at hv; rcases hv with rfl | rfl | rfl <;> rfl
  pos := by decide
def elR : El RowR where
  e := 77
  t := 33
  k := 4
  c := fun m => [.int .i64 m.a, .int .i64 m.i, .int .i64 m.v, .slice m.not.a m.not.n m.not.c]
  len := fun _ => rfl
  one := by intro a v hv; simp only [List.mem_cons, List.not_mem_nil, or_false] at hv; rcases hv with rfl | rfl | rfl | rfl <;> rfl
  pos := by decide
/-- A row, and what it has. -/
structure RowOk (P lo hi : Nat) (r : RowR) (d : RowD) (w : World) : Prop where
  a : r.a = d.a
  i : r.i = d.i
  v : r.v = d.v
  small : d.not.length ≤ 100000
  not : Rd elI P lo hi r.not d.not w
/-- Rows, and what they have. -/
structure Rws (P lo hi : Nat) (s : SL) (l : List RowD) (w : World) : Prop where
  mk ::
  has : ∃ raw : List RowR, raw.length = l.length ∧ Rd elR P lo hi s raw w ∧ ∀ j (h1 : j < raw.length) (h2 : j < l.length), RowOk P lo hi raw[j] l[j] w
structure Dat where
  kind : Int
  fa : Int
  fi : Int
  ta : Int
  ti : Int
  n : Int
  token : Int
  ba : Int
  bi : Int
  ms : List Mem
  fs : List ID2
  rs : List RowD
  cs : List Tk
  ss : List ID2
def Dat.known (d : Dat) : Bool := decide (d.kind = 3) || decide (d.kind = 4)
/-- The frame reads so. -/
structure Deep (P lo hi : Nat) (d : Dat) (f : Fr) (w : World) : Prop where
  kind : f.kind = d.kind
  fa : f.fa = d.fa
  fi : f.fi = d.fi
  ta : f.ta = d.ta
  ti : f.ti = d.ti
  n : f.n = d.n
  token : f.token = d.token
  ba : f.ba = d.ba
  bi : f.bi = d.bi
  ms : Rd elM P lo hi f.ms d.ms w
  fs : Rd elI P lo hi f.fs d.fs w
  rs : Rws P lo hi f.rs d.rs w
  cs : Rd elT P lo hi f.cs d.cs w
  ss : Rd elI P lo hi f.ss d.ss w
  zms : d.ms.length ≤ 100000
  zfs : d.fs.length ≤ 100000
  zrs : d.rs.length ≤ 100000
  zcs : d.cs.length ≤ 100000
  zss : d.ss.length ≤ 100000
/-- A block of one of the lists. -/
def Nest (k : Nat) (w : World) : Prop := Of 80 k w ∨ Of 30 k w ∨ Of 82 k w ∨ Of 77 k w
section
variable {P lo hi : Nat} {s : SL} {l : List RowD} {r : RowR} {x : RowD} {d : Dat} {f : Fr} {w w' : World}
theorem RowOk.same (h : RowOk P lo hi r x w) (hs : w.heap.size ≤ w'.heap.size) (hb : ∀ k, lo ≤ k → k < hi → k < w.heap.size → (k < P ∨ Nest k w) → w'.heap[k]? = w.heap[k]?) : RowOk P lo hi r x w' :=
  ⟨h.a, h.i, h.v, h.small, h.not.same hs fun k a b c e => hb k a b c (e.imp id fun e => .inr (.inl e))⟩
theorem Rws.same (h : Rws P lo hi s l w) (hs : w.heap.size ≤ w'.heap.size) (hb : ∀ k, lo ≤ k → k < hi → k < w.heap.size → (k < P ∨ Nest k w) → w'.heap[k]? = w.heap[k]?) : Rws P lo hi s l w' := by
  obtain ⟨raw, h1, h2, h3⟩ := h.has
  exact ⟨raw, h1, h2.same hs fun k a b c e => hb k a b c (e.imp id fun e => .inr (.inr (.inr e))), fun j a b => (h3 j a b).same hs hb⟩
theorem Deep.same (h : Deep P lo hi d f w) (hs : w.heap.size ≤ w'.heap.size) (hb : ∀ k, lo ≤ k → k < hi → k < w.heap.size → (k < P ∨ Nest k w) → w'.heap[k]? = w.heap[k]?) : Deep P lo hi d f w' :=
  { h with
    ms := h.ms.same hs fun k a b c e => hb k a b c (e.imp id fun e => .inl e)
    fs := h.fs.same hs fun k a b c e => hb k a b c (e.imp id fun e => .inr (.inl e))
    rs := h.rs.same hs hb
    cs := h.cs.same hs fun k a b c e => hb k a b c (e.imp id fun e => .inr (.inr (.inl e)))
    ss := h.ss.same hs fun k a b c e => hb k a b c (e.imp id fun e => .inr (.inl e)) }
theorem Deep.below (h : Deep P lo hi d f w) (hb : Below w.heap.size w w') : Deep P lo hi d f w' := h.same hb.size fun k _ _ hk _ => hb.block k hk
theorem Rws.below (h : Rws P lo hi s l w) (hb : Below w.heap.size w w') : Rws P lo hi s l w' := h.same hb.size fun k _ _ hk _ => hb.block k hk
theorem RowOk.wide (h : RowOk P lo hi r x w) {lo' hi' : Nat} (h1 : lo' ≤ lo) (h2 : hi ≤ hi') : RowOk P lo' hi' r x w := ⟨h.a, h.i, h.v, h.small, h.not.wide h1 h2⟩
theorem Rws.wide (h : Rws P lo hi s l w) {lo' hi' : Nat} (h1 : lo' ≤ lo) (h2 : hi ≤ hi') : Rws P lo' hi' s l w := by
  obtain ⟨raw, a, b, c⟩ := h.has
  exact ⟨raw, a, b.wide h1 h2, fun j x y => (c j x y).wide h1 h2⟩
theorem Deep.wide (h : Deep P lo hi d f w) {lo' hi' : Nat} (h1 : lo' ≤ lo) (h2 : hi ≤ hi') : Deep P lo' hi' d f w :=
  { h with ms := h.ms.wide h1 h2, fs := h.fs.wide h1 h2, rs := h.rs.wide h1 h2, cs := h.cs.wide h1 h2, ss := h.ss.wide h1 h2 }
theorem Rws.empty (P lo hi : Nat) (w : World) : Rws P lo hi .nil [] w := ⟨[], rfl, Rd.empty _ _ _ _ _, fun j h => by simp at h⟩
end
end Go.Proofs.Ytjdhdmljchnidaa
