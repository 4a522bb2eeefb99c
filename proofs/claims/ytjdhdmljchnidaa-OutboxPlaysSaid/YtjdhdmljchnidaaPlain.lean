/-
  Frames that wait, in plain words: what is put, taken; and what the laws say of that.
-/
import Derived.Test.YtjdhdmljchnidaaBase
namespace Go.Proofs.Ytjdhdmljchnidaa
/-- The most that wait, and these. -/
structure N where
  max : Int
  l : List Fr
structure N.Ok (n : N) : Prop where
  m1 : 1 ≤ n.max
  m2 : n.max ≤ 4096
  le : (n.l.length : Int) ≤ n.max
def N.full (n : N) : Bool := decide ((n.l.length : Int) = n.max)
/-- The first that is of what is known. -/
def first (l : List Fr) : Option Nat := l.findIdx? Fr.known
theorem first_some {l : List Fr} {p : Nat} (h : first l = some p) : ∃ hp : p < l.length, l[p].known = true ∧ ∀ q, q < p → ∀ hq : q < l.length, l[q].known = false := by
  unfold first at h
  rw [List.findIdx?_eq_some_iff_getElem] at h
  obtain ⟨hp, h1, h2⟩ := h
  exact ⟨hp, h1, fun q hq hq2 => by simpa using h2 q hq⟩
theorem first_none {l : List Fr} (h : first l = none) : ∀ f ∈ l, f.known = false := by
  unfold first at h
  rw [List.findIdx?_eq_none_iff] at h
  exact fun f hf => by simpa using h f hf
/-- A frame is put; what waits is the copy f. -/
def N.put (n : N) (f : Fr) : N := if n.full = true then (match first n.l with | none => n | some p => ⟨n.max, n.l.eraseIdx p ++ [f]⟩) else ⟨n.max, n.l ++ [f]⟩
def N.out (n : N) (f : Fr) : Fr := if n.full = true then (match first n.l with | none => f | some p => n.l.getD p .zero) else .zero
def N.take (n : N) : N := ⟨n.max, n.l.tail⟩
def N.head (n : N) : Fr := n.l.headD .zero
def N.any (n : N) : Bool := decide (n.l ≠ [])
theorem N.put_free {n : N} (h : n.full = false) (f : Fr) : n.put f = ⟨n.max, n.l ++ [f]⟩ ∧ n.out f = .zero := by simp [N.put, N.out, h]
theorem N.put_none {n : N} (h : n.full = true) (hf : first n.l = none) (f : Fr) : n.put f = n ∧ n.out f = f := by simp [N.put, N.out, h, hf]
theorem N.put_some {n : N} (h : n.full = true) {p : Nat} (hf : first n.l = some p) (hp : p < n.l.length) (f : Fr) : n.put f = ⟨n.max, n.l.eraseIdx p ++ [f]⟩ ∧ n.out f = n.l[p] := by
  simp [N.put, N.out, h, hf, hp]
theorem N.Ok.put {n : N} (h : n.Ok) (f : Fr) : (n.put f).Ok := by
  have hle := h.le
  cases hf : n.full
  · have hne : (n.l.length : Int) ≠ n.max := by simpa [N.full] using hf
    rw [(N.put_free hf f).1]
    exact ⟨h.m1, h.m2, by simp; omega⟩
  · cases hq : first n.l with
    | none => rw [(N.put_none hf hq f).1]; exact h
    | some p =>
      obtain ⟨hp, -⟩ := first_some hq
      rw [(N.put_some hf hq hp f).1]
      refine ⟨h.m1, h.m2, ?_⟩
      simp only [List.length_append, List.length_eraseIdx, List.length_singleton]
      rw [if_pos hp]
      omega
theorem N.Ok.take {n : N} (h : n.Ok) : n.take.Ok := ⟨h.m1, h.m2, by have := h.le; simp [N.take]; omega⟩
theorem N.put_len {n : N} (h : n.Ok) (f : Fr) : ((n.put f).l.length : Int) = if n.full = true then n.max else (n.l.length : Int) + 1 := by
  cases hf : n.full
  · rw [(N.put_free hf f).1]; simp
  · have he : (n.l.length : Int) = n.max := by simpa [N.full] using hf
    rw [if_pos rfl]
    cases hq : first n.l with
    | none => rw [(N.put_none hf hq f).1]; exact he
    | some p =>
      obtain ⟨hp, -⟩ := first_some hq
      rw [(N.put_some hf hq hp f).1]
      simp only [List.length_append, List.length_eraseIdx, List.length_singleton]
      rw [if_pos hp]
      omega
/-! ### In a row -/
def setb (m : Nat → Bool) (j : Nat) : Nat → Bool := fun k => if k = j then true else m k
theorem setb_same (m : Nat → Bool) (j : Nat) : setb m j j = true := by simp [setb]
theorem setb_other {m : Nat → Bool} {j k : Nat} (h : k ≠ j) : setb m j k = m k := by simp [setb, h]
/-- What stands: the numbers js, in their row. -/
structure Inv (K : List Int) (i : Nat) (last lost taken : Int) (met : Nat → Bool) (n : N) (js : List Nat) : Prop where
  ok : n.Ok
  l : n.l = js.map fun j => Fr.of (K.getD j 0) j
  up : js.Pairwise (· < ·)
  each : ∀ j ∈ js, last < j ∧ j < i ∧ met j = false
  late : ∀ j, i ≤ j → met j = false
  sum : lost + taken + js.length = i
  lst : last < i
theorem Inv.start (K : List Int) (m : Int) (h1 : 1 ≤ m) (h2 : m ≤ 4096) : Inv K 0 (-1) 0 0 (fun _ => false) ⟨m, []⟩ [] :=
  ⟨⟨h1, h2, by simp; omega⟩, rfl, List.Pairwise.nil, by simp, fun _ _ => rfl, by simp, by simp⟩
section
variable {K : List Int} {i : Nat} {last lost taken : Int} {met : Nat → Bool} {n : N} {js : List Nat}
theorem Inv.len (h : Inv K i last lost taken met n js) : n.l.length = js.length := by rw [h.l]; simp
/-- None is lost. -/
theorem Inv.free (h : Inv K i last lost taken met n js) (hf : n.full = false) : Inv K (i + 1) last lost taken met (n.put (Fr.of (K.getD i 0) i)) (js ++ [i]) := by
  have hp := (N.put_free hf (Fr.of (K.getD i 0) i)).1
  refine ⟨h.ok.put _, ?_, ?_, ?_, fun j hj => h.late j (by omega), ?_, by have := h.lst; omega⟩
  · rw [hp]; simp [h.l]
  · rw [List.pairwise_append]
    refine ⟨h.up, List.pairwise_singleton _ _, fun a ha b hb => ?_⟩
    simp only [List.mem_singleton] at hb
    subst hb
    exact (h.each a ha).2.1
  · intro j hj
    rcases List.mem_append.1 hj with hj | hj
    · obtain ⟨a, b, c⟩ := h.each j hj
      exact ⟨a, by omega, c⟩
    · simp only [List.mem_singleton] at hj
      subst hj
      exact ⟨h.lst, by omega, h.late _ (Nat.le_refl _)⟩
  · have := h.sum
    simp only [List.length_append, List.length_singleton]
    omega
/-- The new one is lost. -/
theorem Inv.new (h : Inv K i last lost taken met n js) (hf : n.full = true) (hn : first n.l = none) :
    Inv K (i + 1) last (lost + 1) taken (setb met i) (n.put (Fr.of (K.getD i 0) i)) js ∧ n.out (Fr.of (K.getD i 0) i) = Fr.of (K.getD i 0) i ∧ met i = false := by
  obtain ⟨hp, ho⟩ := N.put_none hf hn (Fr.of (K.getD i 0) i)
  refine ⟨⟨h.ok.put _, by rw [hp]; exact h.l, h.up, fun j hj => ?_, fun j hj => ?_, by have := h.sum; omega, by have := h.lst; omega⟩, ho, h.late _ (Nat.le_refl _)⟩
  · obtain ⟨a, b, c⟩ := h.each j hj
    exact ⟨a, by omega, by rw [setb_other (by omega)]; exact c⟩
  · rw [setb_other (by omega)]; exact h.late j (by omega)
/-- One that waits is lost. -/
theorem Inv.old (h : Inv K i last lost taken met n js) (hf : n.full = true) {p : Nat} (hq : first n.l = some p) :
    ∃ j : Nat, j < i ∧ last < j ∧ met j = false ∧ n.out (Fr.of (K.getD i 0) i) = Fr.of (K.getD j 0) j ∧ ∃ js', Inv K (i + 1) last (lost + 1) taken (setb met j) (n.put (Fr.of (K.getD i 0) i)) js' := by
  obtain ⟨hpl, -⟩ := first_some hq
  have hpj : p < js.length := by rw [← h.len]; exact hpl
  obtain ⟨hp, ho⟩ := N.put_some hf hq hpl (Fr.of (K.getD i 0) i)
  have hm : js[p] ∈ js := List.getElem_mem hpj
  obtain ⟨e1, e2, e3⟩ := h.each _ hm
  have hlp : n.l[p] = Fr.of (K.getD js[p] 0) js[p] := by
    have : n.l[p]? = some (Fr.of (K.getD js[p] 0) js[p]) := by rw [h.l]; simp [hpj]
    rw [List.getElem?_eq_getElem hpl] at this
    exact Option.some.inj this
  have hsub : (js.eraseIdx p).Sublist js := List.eraseIdx_sublist js p
  have hne : ∀ j ∈ js.eraseIdx p, j ≠ js[p] := by
    intro j hj e
    subst e
    rw [List.mem_eraseIdx_iff_getElem] at hj
    obtain ⟨q, hq, hqp, hqe⟩ := hj
    rcases Nat.lt_or_gt_of_ne hqp with hlt | hlt
    · have := List.pairwise_iff_getElem.1 h.up q p hq hpj hlt; omega
    · have := List.pairwise_iff_getElem.1 h.up p q hpj hq hlt; omega
  refine ⟨js[p], e2, e1, e3, by rw [ho, hlp], js.eraseIdx p ++ [i], h.ok.put _, ?_, ?_, ?_, fun j hj => ?_, ?_, by have := h.lst; omega⟩
  · rw [hp]
    simp only [List.map_append, List.map_cons, List.map_nil, h.l]
    simp only [List.eraseIdx_eq_take_drop_succ, List.map_append, List.map_take, List.map_drop]
  · rw [List.pairwise_append]
    refine ⟨h.up.sublist hsub, List.pairwise_singleton _ _, fun a ha b hb => ?_⟩
    simp only [List.mem_singleton] at hb
    subst hb
    exact (h.each a (hsub.subset ha)).2.1
  · intro j hj
    rcases List.mem_append.1 hj with hj | hj
    · obtain ⟨a, b, c⟩ := h.each j (hsub.subset hj)
      exact ⟨a, by omega, by rw [setb_other (hne j hj)]; exact c⟩
    · simp only [List.mem_singleton] at hj
      subst hj
      exact ⟨h.lst, by omega, by rw [setb_other (by omega)]; exact h.late _ (Nat.le_refl _)⟩
  · rw [setb_other (by omega)]; exact h.late j (by omega)
  · have := h.sum
    simp only [List.length_append, List.length_singleton, List.length_eraseIdx]
    rw [if_pos hpj]
    omega
/-- The first is taken. -/
theorem Inv.take (h : Inv K i last lost taken met n js) (hs : n.any = true) :
    ∃ j : Nat, j < i ∧ last < j ∧ met j = false ∧ n.head = Fr.of (K.getD j 0) j ∧ ∃ js', Inv K i j lost (taken + 1) (setb met j) n.take js' := by
  cases js with
  | nil => have := h.l; simp [N.any, this] at hs
  | cons j js =>
    obtain ⟨e1, e2, e3⟩ := h.each j (by simp)
    have hup := h.up
    rw [List.pairwise_cons] at hup
    refine ⟨j, e2, e1, e3, by simp [N.head, h.l], js, h.ok.take, by simp [N.take, h.l], hup.2, fun a ha => ?_, fun a ha => ?_, ?_, by omega⟩
    · obtain ⟨a1, a2, a3⟩ := h.each a (by simp [ha])
      have := hup.1 a ha
      exact ⟨by omega, a2, by rw [setb_other (by omega)]; exact a3⟩
    · rw [setb_other (by omega)]; exact h.late a (by omega)
    · have := h.sum
      simp only [List.length_cons] at this
      omega
theorem Inv.none (h : n.any = false) : n.head = .zero ∧ n.take = n := by
  have : n.l = [] := by simpa [N.any] using h
  obtain ⟨m, l⟩ := n
  simp only at this
  subst this
  exact ⟨rfl, rfl⟩
/-- The one in place k. -/
theorem Inv.at_ (h : Inv K i last lost taken met n js) {k : Nat} (hk : k < n.l.length) :
    ∃ j : Nat, n.l[k] = Fr.of (K.getD j 0) j ∧ j < i ∧ last < j ∧ met j = false ∧ js[k]? = .some j := by
  have hkj : k < js.length := by rw [← h.len]; exact hk
  obtain ⟨e1, e2, e3⟩ := h.each _ (List.getElem_mem hkj)
  refine ⟨js[k], ?_, e2, e1, e3, List.getElem?_eq_getElem hkj⟩
  have : n.l[k]? = .some (Fr.of (K.getD js[k] 0) js[k]) := by rw [h.l]; simp [hkj]
  rw [List.getElem?_eq_getElem hk] at this
  exact Option.some.inj this
theorem Inv.rise (h : Inv K i last lost taken met n js) {k a b : Nat} (ha : js[k]? = .some a) (hb : js[k + 1]? = .some b) : a < b := by
  have hk : k + 1 < js.length := (List.getElem?_eq_some_iff.1 hb).1
  rw [List.getElem?_eq_getElem (by omega)] at ha
  rw [List.getElem?_eq_getElem hk] at hb
  obtain rfl := Option.some.inj ha
  obtain rfl := Option.some.inj hb
  exact List.pairwise_iff_getElem.1 h.up k (k + 1) (by omega) hk (by omega)
end
/-! ### The last ones -/
/-- All that are put are of what is known: the last of them wait. -/
structure Last (m : Int) (K : Nat → Int) (i : Nat) (n : N) : Prop where
  ok : n.Ok
  max : n.max = m
  len : (n.l.length : Int) = min m i
  at_ : ∀ k : Nat, ∀ h : k < n.l.length, n.l[k] = Fr.of (K (i - n.l.length + k)) ((i - n.l.length + k : Nat) : Int)
theorem Last.start (K : Nat → Int) (m : Int) (h1 : 1 ≤ m) (h2 : m ≤ 4096) : Last m K 0 ⟨m, []⟩ := ⟨⟨h1, h2, by simp; omega⟩, rfl, by simp; omega, fun k hk => by simp at hk⟩
theorem Last.put {m : Int} {K : Nat → Int} {i : Nat} {n : N} (h : Last m K i n) (hK : ∀ j, K j = 3 ∨ K j = 4) : Last m K (i + 1) (n.put (Fr.of (K i) i)) := by
  have hl := N.put_len h.ok (Fr.of (K i) i)
  have hlen := h.len
  have hle := h.ok.le
  have hm := h.max
  have hm1 := h.ok.m1
  cases hf : n.full
  · have hne : (n.l.length : Int) ≠ n.max := by simpa [N.full] using hf
    have hp := (N.put_free hf (Fr.of (K i) i)).1
    rw [hf] at hl
    simp only [Bool.false_eq_true, if_false] at hl
    refine ⟨h.ok.put _, by rw [hp]; exact hm, by rw [hl]; omega, ?_⟩
    rw [hp]
    intro k hk
    simp only [List.length_append, List.length_singleton] at hk ⊢
    by_cases hk1 : k < n.l.length
    · rw [List.getElem_append_left hk1, h.at_ k hk1]
      have : i + 1 - (n.l.length + 1) + k = i - n.l.length + k := by omega
      rw [this]
    · rw [List.getElem_append_right (by omega)]
      simp only [List.getElem_singleton]
      have : i + 1 - (n.l.length + 1) + k = i := by omega
      rw [this]
  · have he : (n.l.length : Int) = n.max := by simpa [N.full] using hf
    have h0 : 0 < n.l.length := by omega
    have hq : first n.l = some 0 := by
      unfold first
      rw [List.findIdx?_eq_some_iff_getElem]
      refine ⟨h0, ?_, fun j hj => by omega⟩
      rw [h.at_ 0 h0]
      unfold Fr.known Fr.of
      have := hK (i - n.l.length + 0)
      simpa using this
    have hp := (N.put_some hf hq h0 (Fr.of (K i) i)).1
    rw [hf] at hl
    simp only [if_true] at hl
    refine ⟨h.ok.put _, by rw [hp]; exact hm, by rw [hl]; omega, ?_⟩
    have hl2 : (n.l.eraseIdx 0 ++ [Fr.of (K i) i]).length = n.l.length := by
      simp only [List.length_append, List.length_eraseIdx, List.length_singleton]
      rw [if_pos h0]; omega
    rw [hp]
    intro k hk
    simp only [hl2] at hk ⊢
    by_cases hk1 : k + 1 < n.l.length
    · rw [List.getElem_append_left (by rw [List.length_eraseIdx, if_pos h0]; omega), List.getElem_eraseIdx_of_ge (by rw [List.length_eraseIdx, if_pos h0]; omega) (by omega), h.at_ (k + 1) hk1]
      have : i + 1 - n.l.length + k = i - n.l.length + (k + 1) := by omega
      rw [this]
    · rw [List.getElem_append_right (by rw [List.length_eraseIdx, if_pos h0]; omega)]
      simp only [List.getElem_singleton]
      have : i + 1 - n.l.length + k = i := by omega
      rw [this]
end Go.Proofs.Ytjdhdmljchnidaa
