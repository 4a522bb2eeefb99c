/-
  Frames under way, in plain words: what is sent, given, lost, there twice, bent; and what the laws say of that.
-/
namespace Go.Proofs.Ytialfpmfiapepaa
/-- A frame under way. -/
structure U where
  s : ByteArray
  to : Int
  bent : Bool
def U.zero : U := ⟨.empty, 0, false⟩
/-- The most that are under way, and these. -/
structure N where
  max : Int
  l : List U
structure N.Ok (n : N) : Prop where
  m1 : 1 ≤ n.max
  m2 : n.max ≤ 65536
  le : (n.l.length : Int) ≤ n.max
def N.push (n : N) (u : U) : N := ⟨n.max, (if (n.l.length : Int) = n.max then n.l.tail else n.l) ++ [u]⟩
def N.full (n : N) : Bool := decide ((n.l.length : Int) = n.max)
def N.has (n : N) (k : Int) : Bool := decide (0 ≤ k ∧ k < n.l.length)
def N.get (n : N) (k : Int) : U := if n.has k = true then n.l.getD k.toNat .zero else .zero
def N.lose (n : N) (k : Int) : N := if n.has k = true then ⟨n.max, n.l.eraseIdx k.toNat⟩ else n
def N.put (n : N) (k : Int) (u : U) : N := if n.has k = true then ⟨n.max, n.l.set k.toNat u⟩ else n
def N.twice (n : N) (k : Int) : N := if n.has k = true then n.push (n.get k) else n
theorem N.len_push (n : N) (u : U) (h : n.Ok) : (n.push u).l.length = if (n.l.length : Int) = n.max then n.l.length else n.l.length + 1 := by
  have := h.m1
  unfold N.push
  by_cases hf : (n.l.length : Int) = n.max
  · simp only [hf, if_true, List.length_append, List.length_tail, List.length_singleton]; omega
  · simp [hf]
theorem N.Ok.push {n : N} (h : n.Ok) (u : U) : (n.push u).Ok := by
  have hl := n.len_push u h
  refine ⟨h.m1, h.m2, ?_⟩
  have := h.le
  show ((n.push u).l.length : Int) ≤ n.max
  rw [hl]
  split <;> omega
theorem N.len_lose (n : N) (k : Int) (h : n.has k = true) : (n.lose k).l.length = n.l.length - 1 := by
  have hk : 0 ≤ k ∧ k < n.l.length := by simpa [N.has] using h
  unfold N.lose
  rw [if_pos h]
  simp only [List.length_eraseIdx]
  rw [if_pos (by omega)]
theorem N.Ok.lose {n : N} (h : n.Ok) (k : Int) : (n.lose k).Ok := by
  cases hk : n.has k
  · unfold N.lose; rw [hk]; exact h
  · have hl := n.len_lose k hk
    have hm : (n.lose k).max = n.max := by unfold N.lose; rw [if_pos hk]
    have := h.le
    exact ⟨by rw [hm]; exact h.m1, by rw [hm]; exact h.m2, by rw [hm, hl]; omega⟩
theorem N.Ok.put {n : N} (h : n.Ok) (k : Int) (u : U) : (n.put k u).Ok := by
  unfold N.put
  split
  · exact ⟨h.m1, h.m2, by simpa using h.le⟩
  · exact h
theorem N.Ok.twice {n : N} (h : n.Ok) (k : Int) : (n.twice k).Ok := by
  unfold N.twice
  split
  · exact h.push _
  · exact h
/-! ### In a row -/
/-- Those under way were sent one behind the other. -/
structure N.Row (n : N) (f : ByteArray) (next last : Int) : Prop where
  ok : n.Ok
  to : ∀ j : Nat, j < n.l.length → (n.l.getD j .zero).s = f ∧ (n.l.getD j .zero).to = next - n.l.length + j
  lt : last < next - n.l.length
  n0 : 0 ≤ next
theorem N.Row.start (m : Int) (f : ByteArray) (h1 : 1 ≤ m) (h2 : m ≤ 65536) : N.Row ⟨m, []⟩ f 0 (-1) :=
  ⟨⟨h1, h2, by simp; omega⟩, fun j hj => by simp at hj, by simp, by omega⟩
theorem N.Row.send {n : N} {f : ByteArray} {next last : Int} (h : n.Row f next last) : (n.push ⟨f, next, false⟩).Row f (next + 1) last := by
  have hl := n.len_push ⟨f, next, false⟩ h.ok
  have hlt := h.lt
  refine ⟨h.ok.push _, fun j hj => ?_, ?_, ?_⟩
  · rw [hl] at hj ⊢
    have m1 := h.ok.m1
    unfold N.push
    by_cases hf : (n.l.length : Int) = n.max
    · rw [if_pos hf] at hj ⊢
      simp only [hf, if_true]
      by_cases hj1 : j + 1 < n.l.length
      · rw [List.getD_eq_getElem?_getD, List.getElem?_append_left (by simp; omega), List.getElem?_tail]
        have := h.to (j + 1) hj1
        rw [List.getD_eq_getElem?_getD] at this
        refine ⟨this.1, ?_⟩
        rw [this.2]; omega
      · have e : j = n.l.tail.length := by simp; omega
        rw [List.getD_eq_getElem?_getD, List.getElem?_append_right (by omega), e]
        simp
        omega
    · rw [if_neg hf] at hj ⊢
      simp only [hf, if_false]
      by_cases hj1 : j < n.l.length
      · rw [List.getD_eq_getElem?_getD, List.getElem?_append_left hj1]
        have := h.to j hj1
        rw [List.getD_eq_getElem?_getD] at this
        refine ⟨this.1, ?_⟩
        rw [this.2]; omega
      · have e : j = n.l.length := by omega
        rw [List.getD_eq_getElem?_getD, List.getElem?_append_right (by omega), e]
        simp
        omega
  · rw [hl]; split <;> omega
  · have := h.n0; omega
theorem N.Row.give {n : N} {f : ByteArray} {next last : Int} (h : n.Row f next last) (hp : 0 < n.l.length) :
    (n.lose 0).Row f next (next - n.l.length) ∧ (n.get 0).to = next - n.l.length := by
  have hk : n.has 0 = true := by simp [N.has, hp]
  have hl := n.len_lose 0 hk
  have h0 := h.to 0 hp
  refine ⟨⟨h.ok.lose 0, fun j hj => ?_, by rw [hl]; omega, h.n0⟩, ?_⟩
  · rw [hl] at hj ⊢
    unfold N.lose
    rw [if_pos hk]
    have := h.to (j + 1) (by omega)
    have e : (n.l.eraseIdx (0 : Int).toNat).getD j .zero = n.l.getD (j + 1) .zero := by
      rw [List.getD_eq_getElem?_getD, List.getD_eq_getElem?_getD, List.getElem?_eraseIdx]
      simp
    simp only [e]
    exact ⟨this.1, by rw [this.2]; omega⟩
  · unfold N.get
    rw [if_pos hk]
    simpa using h0.2
/-! ### How many -/
def N.many (n : N) (s : ByteArray) (to : Int) : Nat := n.l.countP fun u => decide (u.s = s) && decide (u.to = to)
/-- No more are under way than were sent. -/
def N.Sent (n : N) (f : ByteArray → Int → Int) : Prop := ∀ s to, (n.many s to : Int) ≤ f s to
def more (f : ByteArray → Int → Int) (s : ByteArray) (to d : Int) : ByteArray → Int → Int := fun a b => if a = s ∧ b = to then f a b + d else f a b
theorem count_tail {α : Type} (p : α → Bool) (l : List α) : l.tail.countP p ≤ l.countP p := by
  cases l with
  | nil => simp
  | cons a l => simp [List.countP_cons]
theorem N.Sent.push {n : N} {f : ByteArray → Int → Int} (h : n.Sent f) (u : U) : (n.push u).Sent (more f u.s u.to 1) := by
  intro s to
  have := h s to
  have ht := count_tail (fun u : U => decide (u.s = s) && decide (u.to = to)) n.l
  unfold N.many at this ⊢
  unfold N.push more
  by_cases hu : s = u.s ∧ to = u.to
  · obtain ⟨rfl, rfl⟩ := hu
    simp only [List.countP_append, List.countP_singleton]
    split <;> simp <;> omega
  · rw [if_neg hu]
    have e : (decide (u.s = s) && decide (u.to = to)) = false := by
      rw [Bool.and_eq_false_iff]
      by_cases h1 : u.s = s
      · right
        simp only [decide_eq_false_iff_not]
        intro h2
        exact hu ⟨h1.symm, h2.symm⟩
      · left; simpa using h1
    simp only [List.countP_append, List.countP_singleton, e]
    split <;> simp <;> omega
theorem count_erase {α : Type} (p : α → Bool) (l : List α) (k : Nat) (h : k < l.length) : (l.eraseIdx k).countP p + (if p l[k] then 1 else 0) = l.countP p := by
  induction l generalizing k with
  | nil => simp at h
  | cons a l ih =>
    cases k with
    | zero => simp [List.countP_cons]
    | succ k =>
      simp only [List.eraseIdx_cons_succ, List.countP_cons, List.getElem_cons_succ]
      have := ih k (by simpa using h)
      omega
theorem count_set {α : Type} (p : α → Bool) (l : List α) (k : Nat) (u : α) (h : k < l.length) : (l.set k u).countP p + (if p l[k] then 1 else 0) = l.countP p + (if p u then 1 else 0) := by
  induction l generalizing k with
  | nil => simp at h
  | cons a l ih =>
    cases k with
    | zero => simp [List.countP_cons]; omega
    | succ k =>
      simp only [List.set_cons_succ, List.countP_cons, List.getElem_cons_succ]
      have := ih k (by simpa using h)
      omega
theorem N.get_of {n : N} {k : Int} (hk : n.has k = true) : ∃ h : k.toNat < n.l.length, n.get k = n.l[k.toNat] := by
  have hk' : 0 ≤ k ∧ k < n.l.length := by simpa [N.has] using hk
  refine ⟨by omega, ?_⟩
  unfold N.get
  rw [if_pos hk, List.getD_eq_getElem?_getD, List.getElem?_eq_getElem (by omega)]
  rfl
theorem N.Sent.lose {n : N} {f : ByteArray → Int → Int} (h : n.Sent f) (k : Int) : (n.lose k).Sent f := by
  cases hk : n.has k
  · unfold N.lose; rw [hk]; exact h
  · intro s to
    have := h s to
    obtain ⟨hl, he⟩ := N.get_of hk
    have := count_erase (fun u : U => decide (u.s = s) && decide (u.to = to)) n.l k.toNat hl
    unfold N.many at *
    unfold N.lose
    rw [if_pos hk]
    simp only
    omega
/-- Given: one less of that. -/
theorem N.Sent.give {n : N} {f : ByteArray → Int → Int} (h : n.Sent f) (k : Int) (hk : n.has k = true) : (n.lose k).Sent (more f (n.get k).s (n.get k).to (-1)) ∧ 1 ≤ f (n.get k).s (n.get k).to := by
  obtain ⟨hl, he⟩ := N.get_of hk
  rw [he]
  have hc := fun s to => count_erase (fun u : U => decide (u.s = s) && decide (u.to = to)) n.l k.toNat hl
  constructor
  · intro s to
    have h1 := h s to
    have h2 := hc s to
    unfold N.many at *
    unfold N.lose more
    rw [if_pos hk]
    simp only
    by_cases hu : s = n.l[k.toNat].s ∧ to = n.l[k.toNat].to
    · rw [if_pos hu]
      rw [if_pos (by simp [hu.1, hu.2])] at h2
      omega
    · rw [if_neg hu]
      omega
  · have h1 := h n.l[k.toNat].s n.l[k.toNat].to
    have h2 := hc n.l[k.toNat].s n.l[k.toNat].to
    unfold N.many at *
    rw [if_pos (by simp)] at h2
    omega
theorem N.Sent.twice {n : N} {f : ByteArray → Int → Int} (h : n.Sent f) (k : Int) (hk : n.has k = true) : (n.twice k).Sent (more f (n.get k).s (n.get k).to 1) := by
  unfold N.twice
  rw [if_pos hk]
  exact h.push _
/-- Bent: it counts as what it is now. -/
theorem N.Sent.put {n : N} {f : ByteArray → Int → Int} (h : n.Sent f) (k : Int) (hk : n.has k = true) (u : U) (ht : u.to = (n.get k).to) :
    (n.put k u).Sent (more (more f (n.get k).s (n.get k).to (-1)) u.s (n.get k).to 1) := by
  obtain ⟨hl, he⟩ := N.get_of hk
  rw [he] at ht ⊢
  intro s to
  have h1 := h s to
  have h2 := count_set (fun u : U => decide (u.s = s) && decide (u.to = to)) n.l k.toNat u hl
  unfold N.many at *
  unfold N.put more
  rw [if_pos hk]
  simp only
  by_cases ha : s = n.l[k.toNat].s ∧ to = n.l[k.toNat].to <;> by_cases hb : s = u.s ∧ to = n.l[k.toNat].to
  · rw [if_pos hb, if_pos ha]
    rw [if_pos (by simp [ha.1, ha.2]), if_pos (by simp [hb.1, hb.2, ht])] at h2
    omega
  · rw [if_neg hb, if_pos ha]
    rw [if_pos (by simp [ha.1, ha.2])] at h2
    rw [if_neg (by simp only [Bool.and_eq_true, decide_eq_true_eq, not_and]; intro e1 e2; exact hb ⟨e1.symm, by rw [← e2, ht]⟩)] at h2
    omega
  · rw [if_pos hb, if_neg ha]
    rw [if_neg (by simp only [Bool.and_eq_true, decide_eq_true_eq, not_and]; intro e1 e2; exact ha ⟨e1.symm, e2.symm⟩), if_pos (by simp [hb.1, hb.2, ht])] at h2
    omega
  · rw [if_neg hb, if_neg ha]
    rw [if_neg (by simp only [Bool.and_eq_true, decide_eq_true_eq, not_and]; intro e1 e2; exact ha ⟨e1.symm, e2.symm⟩), if_neg (by simp only [Bool.and_eq_true, decide_eq_true_eq, not_and]; intro e1 e2; exact hb ⟨e1.symm, by rw [← e2, ht]⟩)] at h2
    omega
end Go.Proofs.Ytialfpmfiapepaa
