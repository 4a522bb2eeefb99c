/-
  The bytes of IDs and of lists, and how they are read: plain lists, without the program.
-/
import Derived.Test.YtimlenapeghknaaPlain
namespace Go.Proofs.Ytimlenapeghknaa
set_option linter.unusedVariables false
set_option linter.unusedSimpArgs false
/-- An ID: its address, its incarnation. -/
structure Idn where
  a : Int
  i : Int
deriving DecidableEq
/-- May an ID be? -/
def mayB (a i : Int) : Bool := decide (1 ≤ a ∧ a ≤ 12 ∧ 1 ≤ i ∧ i ≤ 1048576)
def Idn.may (x : Idn) : Bool := mayB x.a x.i
theorem Idn.may_iff (x : Idn) : x.may = true ↔ 1 ≤ x.a ∧ x.a ≤ 12 ∧ 1 ≤ x.i ∧ x.i ≤ 1048576 := by simp [Idn.may, mayB]
/-- The numbers read, from nothing on. -/
def rn (l : List UInt8) : Nat × Int × List UInt8 := rd 8 4 0 0 l
theorem rn_enc {n : Nat} (h : n ≤ most) (r : List UInt8) : rn (enc n ++ r) = (n, 0, r) := by
  have := rd_enc (short := 8) (form := 4) n 0 0 r (by simpa using h) (.inl rfl)
  simpa [rn] using this
theorem rn_short {n k : Nat} (h : n ≤ most) (hk : k < (enc n).length) : rn ((enc n).take k) = (0, 8, []) :=
  rd_short (short := 8) (form := 4) n 0 0 k (by simpa using h) (.inl rfl) hk
theorem rn_inv {l r : List UInt8} {v : Nat} (h : rn l = (v, 0, r)) : l = enc v ++ r ∧ v ≤ most := by
  obtain ⟨n, h1, h2, -, h3⟩ := rd_inv (short := 8) (form := 4) l 0 0 v r (by decide) (by decide) h
  have : v = n := by simpa using h2
  subst this
  exact ⟨h1, h3⟩
theorem rn_wrong {l r : List UInt8} {v : Nat} {e : Int} (h : rn l = (v, e, r)) : e = 0 ∨ (v = 0 ∧ r = [] ∧ (e = 8 ∨ e = 4)) := rd_wrong l 0 0 v e r h
/-- A number is read whole, or nothing is. -/
inductive Num (l : List UInt8) : Prop
  | wrong (e : Int) (h : rn l = (0, e, [])) (he : e = 8 ∨ e = 4)
  | right (n : Nat) (r : List UInt8) (h : rn l = (n, 0, r)) (hn : n ≤ most) (hl : l = enc n ++ r)
theorem num_of (l : List UInt8) : Num l := by
  obtain ⟨v, e, r⟩ : Nat × Int × List UInt8 := rn l
  cases h : rn l with
  | mk v p =>
    obtain ⟨e, r⟩ := p
    by_cases he : e = 0
    · subst he; exact .right v r h (rn_inv h).2 (rn_inv h).1
    · rcases rn_wrong h with h0 | ⟨rfl, rfl, h2⟩
      · exact absurd h0 he
      · exact .wrong e h h2
/-- The bytes of an ID. -/
def encId (x : Idn) : List UInt8 := enc x.a.toNat ++ enc x.i.toNat
/-- What an ID is read as. -/
def ri (l : List UInt8) : Idn × Int × List UInt8 :=
  if (rn l).2.1 = 0 then
    (if (rn (rn l).2.2).2.1 = 0 then
      (if mayB ((rn l).1 : Int) ((rn (rn l).2.2).1 : Int) = true then (⟨((rn l).1 : Int), ((rn (rn l).2.2).1 : Int)⟩, 0, (rn (rn l).2.2).2.2) else (⟨0, 0⟩, 4, []))
    else (⟨0, 0⟩, (rn (rn l).2.2).2.1, []))
  else (⟨0, 0⟩, (rn l).2.1, [])
theorem ri_enc {x : Idn} (h : x.may = true) (r : List UInt8) : ri (encId x ++ r) = (x, 0, r) := by
  have hx := (x.may_iff).1 h
  obtain ⟨a, i⟩ := x
  simp only at hx
  have h1 : rn (encId ⟨a, i⟩ ++ r) = (a.toNat, 0, enc i.toNat ++ r) := by
    unfold encId; rw [List.append_assoc]; exact rn_enc (by unfold most; simp only; omega) _
  have h2 : rn (enc i.toNat ++ r) = (i.toNat, 0, r) := rn_enc (by unfold most; omega) _
  have ha : ((a.toNat : Nat) : Int) = a := by omega
  have hi : ((i.toNat : Nat) : Int) = i := by omega
  have hm : mayB a i = true := h
  unfold ri
  rw [h1]
  simp only
  rw [h2, ha, hi]
  simp [hm]
theorem encId_split (x : Idn) (k : Nat) : (encId x).take k = if k < (enc x.a.toNat).length then (enc x.a.toNat).take k else enc x.a.toNat ++ (enc x.i.toNat).take (k - (enc x.a.toNat).length) := by
  unfold encId
  split
  · rw [List.take_append_of_le_length (by omega)]
  · next h => rw [List.take_append, List.take_of_length_le (by omega)]
theorem ri_short {x : Idn} (h : x.may = true) {k : Nat} (hk : k < (encId x).length) : ri ((encId x).take k) = (⟨0, 0⟩, 8, []) := by
  have hx := (x.may_iff).1 h
  rw [encId_split]
  by_cases h1 : k < (enc x.a.toNat).length
  · rw [if_pos h1]
    have h2 := rn_short (n := x.a.toNat) (by unfold most; omega) h1
    unfold ri; rw [h2]; simp
  · rw [if_neg h1]
    have h2 : rn (enc x.a.toNat ++ (enc x.i.toNat).take (k - (enc x.a.toNat).length)) = _ := rn_enc (by unfold most; omega) _
    have hk' : k - (enc x.a.toNat).length < (enc x.i.toNat).length := by
      unfold encId at hk; rw [List.length_append] at hk; omega
    have h3 := rn_short (n := x.i.toNat) (by unfold most; omega) hk'
    unfold ri; rw [h2]; simp only; rw [h3]; simp
/-- An ID is read whole, or nothing is. -/
inductive Aid (l : List UInt8) : Prop
  | wrong (e : Int) (h : ri l = (⟨0, 0⟩, e, [])) (he : e = 8 ∨ e = 4)
  | right (x : Idn) (r : List UInt8) (h : ri l = (x, 0, r)) (hx : x.may = true) (hl : l = encId x ++ r)
theorem aid_of (l : List UInt8) : Aid l := by
  rcases num_of l with ⟨e, h, he⟩ | ⟨a, r, h, ha, hl⟩
  · exact .wrong e (by unfold ri; rw [h]; rcases he with rfl | rfl <;> simp) he
  · rcases num_of r with ⟨e, h2, he⟩ | ⟨i, s, h2, hi, hr⟩
    · exact .wrong e (by unfold ri; rw [h]; simp only; rw [h2]; rcases he with rfl | rfl <;> simp) he
    · by_cases hm : mayB (a : Int) (i : Int) = true
      · exact .right ⟨a, i⟩ s (by unfold ri; rw [h]; simp only; rw [h2]; simp [hm]) hm (by rw [hl, hr]; simp [encId])
      · exact .wrong 4 (by unfold ri; rw [h]; simp only; rw [h2]; simp [hm]) (.inr rfl)
/-- Do IDs rise, from one on? -/
def riseFrom (x : Idn) : List Idn → Bool
  | [] => true
  | y :: l => (y.may && !(decide (y.a < x.a) || (y.a == x.a && decide (y.i ≤ x.i)))) && riseFrom y l
def rise (l : List Idn) : Bool := riseFrom ⟨0, 0⟩ l
theorem riseFrom_may {l : List Idn} : ∀ {x : Idn}, riseFrom x l = true → ∀ y ∈ l, y.may = true := by
  induction l with
  | nil => intro x _ y hy; simp at hy
  | cons z l ih =>
    intro x h y hy
    simp only [riseFrom, Bool.and_eq_true] at h
    rcases List.mem_cons.1 hy with rfl | hy
    · exact h.1.1
    · exact ih h.2 y hy
/-- The bytes of IDs, one behind the other. -/
def encAll : List Idn → List UInt8
  | [] => []
  | x :: l => encId x ++ encAll l
theorem encAll_append (a b : List Idn) : encAll (a ++ b) = encAll a ++ encAll b := by
  induction a with
  | nil => rfl
  | cons x a ih => simp [encAll, ih]
def encIds (l : List Idn) : List UInt8 := enc l.length ++ encAll l
/-- So many IDs are read, behind those that were: these, the error, what is left. -/
def rm : Nat → List UInt8 → List Idn → List Idn × Int × List UInt8
  | 0, s, acc => if rise acc = true then (acc, 0, s) else ([], 4, [])
  | n + 1, s, acc => if (ri s).2.1 = 0 then rm n (ri s).2.2 (acc ++ [(ri s).1]) else ([], (ri s).2.1, [])
/-- What a list is read as. -/
def rl (l : List UInt8) : List Idn × Int × List UInt8 :=
  if (rn l).2.1 = 0 then (if 64 < (rn l).1 then ([], 40, []) else rm (rn l).1 (rn l).2.2 []) else ([], (rn l).2.1, [])
theorem rm_enc (l : List Idn) : ∀ (acc : List Idn) (r : List UInt8), (∀ y ∈ l, y.may = true) → rise (acc ++ l) = true → rm l.length (encAll l ++ r) acc = (acc ++ l, 0, r) := by
  induction l with
  | nil => intro acc r _ h; rw [List.append_nil] at h; simp [rm, encAll, h]
  | cons x l ih =>
    intro acc r hm h
    have h1 : ri (encAll (x :: l) ++ r) = (x, 0, encAll l ++ r) := by
      simp only [encAll, List.append_assoc]; exact ri_enc (hm x (by simp)) _
    simp only [List.length_cons, rm]
    rw [h1]
    simp only [if_true]
    rw [ih _ _ (fun y hy => hm y (by simp [hy])) (by simpa using h)]
    simp
theorem rl_enc {l : List Idn} (h : rise l = true) (hl : l.length ≤ 64) (r : List UInt8) : rl (encIds l ++ r) = (l, 0, r) := by
  have h1 : rn (encIds l ++ r) = (l.length, 0, encAll l ++ r) := by
    unfold encIds; rw [List.append_assoc]; exact rn_enc (by unfold most; omega) _
  unfold rl
  rw [h1]
  simp only [if_true]
  rw [if_neg (by omega), rm_enc l [] r (riseFrom_may h) (by simpa using h)]
  simp
theorem rm_short (l : List Idn) : ∀ (acc : List Idn) (k : Nat), (∀ y ∈ l, y.may = true) → k < (encAll l).length → rm l.length ((encAll l).take k) acc = ([], 8, []) := by
  induction l with
  | nil => intro acc k _ hk; simp [encAll] at hk
  | cons x l ih =>
    intro acc k hm hk
    rw [show encAll (x :: l) = encId x ++ encAll l from rfl] at hk ⊢
    by_cases h1 : k < (encId x).length
    · rw [List.take_append_of_le_length (by omega)]
      simp only [List.length_cons, rm]
      rw [ri_short (hm x (by simp)) h1]; simp
    · rw [List.take_append, List.take_of_length_le (by omega)]
      simp only [List.length_cons, rm]
      rw [ri_enc (hm x (by simp))]
      simp only [if_true]
      exact ih _ _ (fun y hy => hm y (by simp [hy])) (by rw [List.length_append] at hk; omega)
theorem rl_short {l : List Idn} (h : rise l = true) (hl : l.length ≤ 64) {k : Nat} (hk : k < (encIds l).length) : rl ((encIds l).take k) = ([], 8, []) := by
  unfold encIds at hk ⊢
  by_cases h1 : k < (enc l.length).length
  · rw [List.take_append_of_le_length (by omega)]
    have h2 := rn_short (n := l.length) (by unfold most; omega) h1
    unfold rl; rw [h2]; simp
  · rw [List.take_append, List.take_of_length_le (by omega)]
    have h2 : rn (enc l.length ++ (encAll l).take (k - (enc l.length).length)) = _ := rn_enc (by unfold most; omega) _
    unfold rl; rw [h2]
    simp only [if_true]
    rw [if_neg (by omega)]
    exact rm_short l [] _ (riseFrom_may h) (by rw [List.length_append] at hk; omega)
theorem rm_inv (n : Nat) : ∀ (s : List UInt8) (acc l : List Idn) (r : List UInt8), rm n s acc = (l, 0, r) → ∃ t, l = acc ++ t ∧ t.length = n ∧ s = encAll t ++ r ∧ rise l = true := by
  induction n with
  | zero =>
    intro s acc l r h
    simp only [rm] at h
    split at h
    · next hr =>
      simp only [Prod.mk.injEq, true_and] at h
      obtain ⟨rfl, rfl⟩ := h
      exact ⟨[], by simp, rfl, by simp [encAll], hr⟩
    · simp at h
  | succ n ih =>
    intro s acc l r h
    simp only [rm] at h
    rcases aid_of s with ⟨e, h1, he⟩ | ⟨x, r1, h1, hx, hs⟩
    · rw [h1] at h
      simp only at h
      rw [if_neg (by omega)] at h
      simp only [Prod.mk.injEq] at h
      omega
    · rw [h1] at h
      simp only [if_true] at h
      obtain ⟨t, ht, hn, hr, hl⟩ := ih _ _ _ _ h
      exact ⟨x :: t, by simp [ht], by simp [hn], by rw [hs, hr]; simp [encAll], hl⟩
/-- A list is read whole, or nothing is. -/
inductive Lst (l : List UInt8) : Prop
  | wrong (e : Int) (h : rl l = ([], e, [])) (he : e = 8 ∨ e = 4 ∨ e = 40)
  | right (x : List Idn) (r : List UInt8) (h : rl l = (x, 0, r)) (hx : rise x = true) (hn : x.length ≤ 64) (hl : l = encIds x ++ r)
theorem rm_wrong (n : Nat) : ∀ (s : List UInt8) (acc : List Idn), (∃ e, rm n s acc = ([], e, []) ∧ (e = 8 ∨ e = 4)) ∨ ∃ l r, rm n s acc = (l, 0, r) := by
  induction n with
  | zero =>
    intro s acc
    simp only [rm]
    split
    · exact .inr ⟨_, _, rfl⟩
    · exact .inl ⟨4, rfl, .inr rfl⟩
  | succ n ih =>
    intro s acc
    simp only [rm]
    rcases aid_of s with ⟨e, h1, he⟩ | ⟨x, r1, h1, hx, hs⟩
    · rw [h1]
      simp only
      rw [if_neg (by omega)]
      exact .inl ⟨e, rfl, he⟩
    · rw [h1]
      simp only [if_true]
      exact ih _ _
theorem lst_of (l : List UInt8) : Lst l := by
  rcases num_of l with ⟨e, h, he⟩ | ⟨n, r, h, hn, hl⟩
  · exact .wrong e (by unfold rl; rw [h]; rcases he with rfl | rfl <;> simp) (by rcases he with h | h <;> simp [h])
  · by_cases h64 : 64 < n
    · exact .wrong 40 (by unfold rl; rw [h]; simp [h64]) (.inr (.inr rfl))
    · have e1 : rl l = rm n r [] := by unfold rl; rw [h]; simp [h64]
      rcases rm_wrong n r [] with ⟨e, h1, he⟩ | ⟨x, s, h1⟩
      · exact .wrong e (by rw [e1, h1]) (by rcases he with h | h <;> simp [h])
      · obtain ⟨t, ht, hlen, hr, hrise⟩ := rm_inv _ _ _ _ _ h1
        rw [List.nil_append] at ht
        subst ht
        exact .right x s (by rw [e1, h1]) hrise (by omega) (by rw [hl, hr, ← hlen]; simp [encIds])
end Go.Proofs.Ytimlenapeghknaa
