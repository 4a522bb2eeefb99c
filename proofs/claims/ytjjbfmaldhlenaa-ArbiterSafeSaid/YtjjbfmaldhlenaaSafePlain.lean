/-
  ArbiterSafe in plain words: three that ask, what they count on, and why no two of them count on it at once.
-/
import Derived.Test.YtjjbfmaldhlenaaBase
namespace Go.Proofs.Ytjjbfmaldhlenaa

/-- An event of a play. -/
structure Ev where
  what : Int
  who : Int
  num : Int
instance : Inhabited Ev := ⟨⟨0, 0, 0⟩⟩
/-- Whose it is: 0, 1 or 2. -/
def Ev.k (e : Ev) : Nat := (e.who % 3).toNat
/-- Its number. -/
def Ev.m (e : Ev) : Nat := ((e.num % 18446744073709551616) % 1000).toNat
theorem Ev.k_lt (e : Ev) : e.k < 3 := by unfold Ev.k; omega
def ticks (l : List Ev) : Nat := l.countP (fun e => e.what == 0)
def owns (k : Nat) (l : List Ev) : Nat := l.countP (fun e => e.what == 2 && e.k == k)
theorem ticks_append (a b : List Ev) : ticks (a ++ b) = ticks a + ticks b := List.countP_append
theorem owns_append (k : Nat) (a b : List Ev) : owns k (a ++ b) = owns k a + owns k b := List.countP_append
theorem ticks_le (l : List Ev) : ticks l ≤ l.length := List.countP_le_length
theorem owns_le (k : Nat) (l : List Ev) : owns k l ≤ l.length := List.countP_le_length
theorem ticks_one (e : Ev) : ticks [e] = if e.what = 0 then 1 else 0 := by simp [ticks, List.countP_cons]
theorem owns_one (k : Nat) (e : Ev) : owns k [e] = if e.what = 2 ∧ e.k = k then 1 else 0 := by simp [owns, List.countP_cons]
/-- Wherever Term ticks lie each of the three ticks Hold times at least. -/
def Enough (term hold : Int) (l : List Ev) : Prop := ∀ a b c, l = a ++ b ++ c → term ≤ ticks b → ∀ k, k < 3 → hold ≤ owns k b
/-- The look from one place on was well. -/
def OkAt (term hold : Int) (l : List Ev) (i : Nat) : Prop :=
  (ticks (l.drop i) : Int) < term ∨ ∃ m, (m = 0 ∨ (ticks ((l.drop i).take (m - 1)) : Int) < term) ∧ (ticks ((l.drop i).take m) : Int) = term ∧ ∀ k, k < 3 → hold ≤ owns k ((l.drop i).take m)
theorem enough_of {term hold : Int} {l : List Ev} (ht : 1 ≤ term) (h : ∀ i, i < l.length → (l[i]?.map Ev.what) = some 0 → OkAt term hold l i) : Enough term hold l := by
  intro a b
  induction b generalizing a with
  | nil => intro c _ hb; simp [ticks] at hb; omega
  | cons x b ih =>
    intro c hl hb k hk
    by_cases hx : x.what = 0
    · have hd : l.drop a.length = x :: b ++ c := by rw [hl]; simp
      have hi : a.length < l.length := by rw [hl]; simp
      have hg : l[a.length]? = some x := by rw [hl]; simp
      rcases h a.length hi (by rw [hg]; simp [hx]) with h1 | ⟨m, hm, hT, hN⟩
      · exfalso
        rw [hd, ticks_append] at h1
        omega
      · rw [hd] at hm hT hN
        have hle : m ≤ (x :: b).length := by
          rcases hm with rfl | hm
          · omega
          · by_cases hc : m ≤ (x :: b).length
            · exact hc
            · exfalso
              rw [List.take_append, ticks_append, List.take_of_length_le (l := x :: b) (by omega)] at hm
              omega
        have e : (x :: b ++ c).take m = (x :: b).take m := List.take_append_of_le_length hle
        have hNk := hN k hk
        rw [e] at hNk
        have h2 : owns k (x :: b) = owns k ((x :: b).take m) + owns k ((x :: b).drop m) := by rw [← owns_append, List.take_append_drop]
        omega
    · have e1 : ticks (x :: b) = ticks b := by simp [ticks, hx]
      have h2 : owns k (x :: b) = owns k [x] + owns k b := owns_append k [x] b
      have h3 := ih (a ++ [x]) c (by rw [hl]; simp) (by rw [← e1]; exact hb) k hk
      omega

/-- One that asks. -/
structure Asker where
  now : Int
  last : Int
  sent : Int
  till : Int
  token : Int
structure Play where
  a : St
  w : Nat → Asker
  asked : List Fr
  told : List Fr
def upd (w : Nat → Asker) (k : Nat) (x : Asker) : Nat → Asker := fun j => if j = k then x else w j
theorem upd_same (w : Nat → Asker) (k : Nat) (x : Asker) : upd w k x k = x := by simp [upd]
theorem upd_other (w : Nat → Asker) {j k : Nat} (x : Asker) (h : j ≠ k) : upd w k x j = w j := by simp [upd, h]
def Play.start (term : Int) : Play := ⟨.fresh term, fun _ => ⟨0, 0, 0, 0, 0⟩, [], []⟩
def Asker.tick (x : Asker) : Asker := { x with now := x.now + 1 }
def Asker.send (x : Asker) : Asker := { x with last := x.last + 1, sent := x.now }
/-- The question that is sent. -/
def Asker.asks (x : Asker) (k : Nat) (odd : Bool) : Fr := if (decide (0 < x.token) && odd) = true then ⟨10, k + 1, 1, 0, 0, x.last + 1, x.token⟩ else ⟨9, k + 1, 1, 0, 0, x.last + 1, 0⟩
def Asker.hear (x : Asker) (hold : Int) (f : Fr) : Asker := if f.kind = 12 ∧ f.n = x.last then { x with till := x.sent + hold, token := f.token } else x
def Play.step (hold : Int) (p : Play) (e : Ev) : Play :=
  if e.what = 0 then { p with a := p.a.tick }
  else if e.what = 1 then { p with a := p.a.start }
  else if e.what = 2 then { p with w := upd p.w e.k (p.w e.k).tick }
  else if e.what = 3 then { p with w := upd p.w e.k (p.w e.k).send, asked := p.asked ++ [(p.w e.k).asks e.k (e.m % 2 == 1)] }
  else if e.what = 4 then
    match p.asked[e.m % p.asked.length]? with
    | none => p
    | some f => { p with a := (p.a.take f).st, told := if (p.a.take f).is = true then p.told ++ [(p.a.take f).fr] else p.told }
  else
    match p.told[e.m % p.told.length]? with
    | none => p
    | some f => { p with w := upd p.w (f.ta - 1).toNat ((p.w (f.ta - 1).toNat).hear hold f) }
/-- What holds behind the events pre: the last grant was to the asker h, behind the events g. -/
structure Safe (term hold : Int) (pre : List Ev) (p : Play) (h : Nat) (g suf : List Ev) : Prop where
  cut : pre = g ++ suf
  hlt : h < 3
  now : ∀ k : Nat, k < 3 → (p.w k).now = owns k pre
  last : ∀ k : Nat, k < 3 → 0 ≤ (p.w k).last ∧ (p.w k).last ≤ pre.length
  sent : ∀ k : Nat, k < 3 → 0 ≤ (p.w k).sent ∧ (p.w k).sent ≤ (p.w k).now
  tok : ∀ k : Nat, k < 3 → 0 ≤ (p.w k).token ∧ (p.w k).token ≤ pre.length
  till0 : ∀ k : Nat, k < 3 → 0 ≤ (p.w k).till ∧ (p.w k).till ≤ (p.w k).now + hold
  asked : ∀ f ∈ p.asked, ∃ k : Nat, k < 3 ∧ f.fa = k + 1 ∧ f.fi = 1 ∧ 1 ≤ f.n ∧ f.n ≤ (p.w k).last ∧ (f.kind = 9 ∨ f.kind = 10)
  told : ∀ f ∈ p.told, ∃ k : Nat, k < 3 ∧ f.ta = k + 1 ∧ f.ti = 1 ∧ 1 ≤ f.n ∧ f.n ≤ (p.w k).last ∧ 0 ≤ f.token ∧ f.token ≤ pre.length ∧
    (f.kind = 12 → f.n = (p.w k).last → (k = h ∧ (p.w k).sent ≤ owns h g) ∨ (p.w k).sent + hold ≤ (p.w k).now)
  la : p.asked.length ≤ pre.length
  lt : p.told.length ≤ pre.length
  trm : p.a.term = term
  n0 : 0 ≤ p.a.now
  n1 : p.a.now ≤ pre.length
  k0 : 0 ≤ p.a.token
  k1 : p.a.token ≤ pre.length
  era : (p.a.til = p.a.now - (ticks suf : Int) + term ∧ p.a.ta = h + 1 ∧ p.a.ti = 1 ∧ (ticks suf : Int) ≤ p.a.now) ∨ (p.a.til = 0 ∧ p.a.now ≤ ticks suf)
  till : ∀ k : Nat, k < 3 → (k = h ∧ (p.w k).till ≤ owns h g + hold) ∨ (p.w k).till ≤ (p.w k).now
theorem Safe.begin (term hold : Int) (hh : 1 ≤ hold) : Safe term hold [] (.start term) 0 [] [] := by
  constructor <;> simp [Play.start, St.fresh, owns, ticks] <;> omega
theorem Safe.one {term hold : Int} {pre : List Ev} {p : Play} {h : Nat} {g suf : List Ev} (s : Safe term hold pre p h g suf) {j k : Nat} (hj : j < 3) (hk : k < 3)
    (h1 : (p.w j).now < (p.w j).till) (h2 : (p.w k).now < (p.w k).till) : j = k := by
  have a := s.till j hj
  have b := s.till k hk
  omega
section
variable {term hold : Int} {pre : List Ev} {p : Play} {h : Nat} {g suf : List Ev} {e : Ev}
theorem owns_snoc0 (k : Nat) (l : List Ev) (e : Ev) (he : e.what ≠ 2) : owns k (l ++ [e]) = owns k l := by
  rw [owns_append, owns_one, if_neg (by omega)]; rfl
theorem ticks_snoc0 (l : List Ev) (e : Ev) (he : e.what ≠ 0) : ticks (l ++ [e]) = ticks l := by
  rw [ticks_append, ticks_one, if_neg (by omega)]; rfl
theorem ticks_snoc1 (l : List Ev) (e : Ev) (he : e.what = 0) : ticks (l ++ [e]) = ticks l + 1 := by
  rw [ticks_append, ticks_one, if_pos he]
theorem Safe.told_le (s : Safe term hold pre p h g suf) (e : Ev) {f : Fr} (hf : f ∈ p.told) : ∃ k : Nat, k < 3 ∧ f.ta = k + 1 ∧ f.ti = 1 ∧ 1 ≤ f.n ∧ f.n ≤ (p.w k).last ∧ 0 ≤ f.token ∧ f.token ≤ ((pre ++ [e]).length : Int) ∧
    (f.kind = 12 → f.n = (p.w k).last → (k = h ∧ (p.w k).sent ≤ owns h g) ∨ (p.w k).sent + hold ≤ (p.w k).now) := by
  obtain ⟨k, a1, a2, a3, a4, a5, a6, a7, a8⟩ := s.told f hf
  exact ⟨k, a1, a2, a3, a4, a5, a6, by simp; omega, a8⟩
/-- An event that leaves the askers and the frames, and the arbiter's lease. -/
theorem Safe.arb (s : Safe term hold pre p h g suf) (he : e.what ≠ 2) (a' : St) (ht : a'.term = term) (n0 : 0 ≤ a'.now) (n1 : a'.now ≤ ((pre ++ [e]).length : Int)) (k0 : 0 ≤ a'.token) (k1 : a'.token ≤ ((pre ++ [e]).length : Int))
    (era : (a'.til = a'.now - (ticks (suf ++ [e]) : Int) + term ∧ a'.ta = h + 1 ∧ a'.ti = 1 ∧ (ticks (suf ++ [e]) : Int) ≤ a'.now) ∨ (a'.til = 0 ∧ a'.now ≤ ticks (suf ++ [e]))) :
    Safe term hold (pre ++ [e]) { p with a := a' } h g (suf ++ [e]) where
  cut := by rw [s.cut]; simp
  hlt := s.hlt
  now := fun k hk => by rw [owns_snoc0 _ _ _ he]; exact s.now k hk
  last := fun k hk => by have := s.last k hk; simp; omega
  sent := s.sent
  tok := fun k hk => by have := s.tok k hk; simp; omega
  till0 := s.till0
  asked := s.asked
  told := fun f hf => s.told_le e hf
  la := by have := s.la; simp; omega
  lt := by have := s.lt; simp; omega
  trm := ht
  n0 := n0
  n1 := n1
  k0 := k0
  k1 := k1
  era := era
  till := s.till
theorem Safe.tick (s : Safe term hold pre p h g suf) (he : e.what = 0) : Safe term hold (pre ++ [e]) { p with a := p.a.tick } h g (suf ++ [e]) := by
  have n0 := s.n0
  have n1 := s.n1
  have k0 := s.k0
  have k1 := s.k1
  have hera := s.era
  refine s.arb (by omega) p.a.tick s.trm (by simp only [St.tick]; omega) (by simp [St.tick]; omega) k0 (by simp [St.tick]; omega) ?_
  rw [ticks_snoc1 _ _ he]
  simp only [St.tick]
  omega
theorem Safe.restart (s : Safe term hold pre p h g suf) (he : e.what = 1) : Safe term hold (pre ++ [e]) { p with a := p.a.start } h g (suf ++ [e]) := by
  have k0 := s.k0
  have k1 := s.k1
  refine s.arb (by omega) p.a.start s.trm (by simp [St.start]) (by simp [St.start]; omega) k0 (by simp [St.start]; omega) (.inr ?_)
  simp [St.start]
/-- An event that turns one asker, but not the arbiter. -/
theorem Safe.turn (s : Safe term hold pre p h g suf) (he : e.what ≠ 0) (j : Nat) (x : Asker) (asked : List Fr)
    (hnow : x.now = owns j (pre ++ [e])) (hoth : e.what = 2 → e.k = j) (hge : (p.w j).now ≤ x.now) (hl0 : (p.w j).last ≤ x.last) (hl1 : x.last ≤ ((pre ++ [e]).length : Int)) (hs0 : 0 ≤ x.sent) (hs1 : x.sent ≤ x.now)
    (htk : 0 ≤ x.token ∧ x.token ≤ ((pre ++ [e]).length : Int)) (ht0 : 0 ≤ x.till ∧ x.till ≤ x.now + hold) (hla : (asked.length : Int) ≤ ((pre ++ [e]).length : Int))
    (hq : ∀ f ∈ asked, f ∈ p.asked ∨ (f.fa = j + 1 ∧ f.fi = 1 ∧ 1 ≤ f.n ∧ f.n ≤ x.last ∧ (f.kind = 9 ∨ f.kind = 10))) (hj : j < 3)
    (hsame : x.last = (p.w j).last → x.sent = (p.w j).sent)
    (hnot : x.till = (p.w j).till ∨ ((j = h ∧ x.till ≤ owns h g + hold) ∨ x.till ≤ x.now)) :
    Safe term hold (pre ++ [e]) { p with w := upd p.w j x, asked := asked } h g (suf ++ [e]) where
  cut := by rw [s.cut]; simp
  hlt := s.hlt
  now := fun k hk => by
    by_cases hkj : k = j
    · subst hkj; simp only [upd_same]; exact hnow
    · simp only [upd_other _ _ hkj]; rw [owns_append, owns_one, if_neg (by intro hc; have := hoth hc.1; omega)]; exact s.now k hk
  last := fun k hk => by
    have := s.last k hk
    by_cases hkj : k = j
    · subst hkj; simp only [upd_same]; omega
    · simp only [upd_other _ _ hkj]; simp; omega
  sent := fun k hk => by
    by_cases hkj : k = j
    · subst hkj; simp only [upd_same]; omega
    · simp only [upd_other _ _ hkj]; exact s.sent k hk
  tok := fun k hk => by
    by_cases hkj : k = j
    · subst hkj; simp only [upd_same]; exact htk
    · have := s.tok k hk
      simp only [upd_other _ _ hkj]; simp; omega
  till0 := fun k hk => by
    by_cases hkj : k = j
    · subst hkj; simp only [upd_same]; exact ht0
    · simp only [upd_other _ _ hkj]; exact s.till0 k hk
  asked := fun f hf => by
    rcases hq f hf with hf | hf
    · obtain ⟨k, a1, a2, a3, a4, a5, a6⟩ := s.asked f hf
      refine ⟨k, a1, a2, a3, a4, ?_, a6⟩
      by_cases hkj : k = j
      · subst hkj; simp only [upd_same]; omega
      · simp only [upd_other _ _ hkj]; exact a5
    · exact ⟨j, hj, hf.1, hf.2.1, hf.2.2.1, by simp only [upd_same]; exact hf.2.2.2.1, hf.2.2.2.2⟩
  told := fun f hf => by
    obtain ⟨k, a1, a2, a3, a4, a5, a6, a7, a8⟩ := s.told_le e hf
    refine ⟨k, a1, a2, a3, a4, ?_, a6, a7, ?_⟩
    · by_cases hkj : k = j
      · subst hkj; simp only [upd_same]; omega
      · simp only [upd_other _ _ hkj]; exact a5
    · by_cases hkj : k = j
      · subst hkj
        simp only [upd_same]
        intro h12 hn
        have hle : x.last = (p.w k).last := by omega
        have := hsame hle
        have := a8 h12 (by omega)
        omega
      · simp only [upd_other _ _ hkj]; exact a8
  la := by have := hla; simp at *; omega
  lt := by have := s.lt; simp; omega
  trm := s.trm
  n0 := s.n0
  n1 := by have := s.n1; simp; omega
  k0 := s.k0
  k1 := by have := s.k1; simp; omega
  era := by rw [ticks_snoc0 _ _ he]; exact s.era
  till := fun k hk => by
    by_cases hkj : k = j
    · subst hkj
      simp only [upd_same]
      have := s.till k hk
      omega
    · simp only [upd_other _ _ hkj]; exact s.till k hk
theorem Safe.own (s : Safe term hold pre p h g suf) (he : e.what = 2) : Safe term hold (pre ++ [e]) { p with w := upd p.w e.k (p.w e.k).tick } h g (suf ++ [e]) := by
  have hk := e.k_lt
  have h1 := s.now _ hk
  have h2 := s.last _ hk
  have h3 := s.sent _ hk
  have h4 := s.tok _ hk
  have h5 := s.till0 _ hk
  have h6 := s.la
  refine s.turn (by omega) e.k (p.w e.k).tick p.asked ?_ (fun _ => rfl) ?_ ?_ ?_ ?_ ?_ ?_ ?_ ?_ (fun f hf => .inl hf) hk (fun _ => rfl) (.inl rfl) <;> simp only [Asker.tick, List.length_append, List.length_cons, List.length_nil] <;> try omega
  rw [owns_append, owns_one, if_pos ⟨he, rfl⟩]; omega
theorem Safe.ask (s : Safe term hold pre p h g suf) (he : e.what = 3) : Safe term hold (pre ++ [e]) { p with w := upd p.w e.k (p.w e.k).send, asked := p.asked ++ [(p.w e.k).asks e.k (e.m % 2 == 1)] } h g (suf ++ [e]) := by
  have hk := e.k_lt
  have h1 := s.now _ hk
  have h2 := s.last _ hk
  have h3 := s.sent _ hk
  have h4 := s.tok _ hk
  have h5 := s.till0 _ hk
  have h6 := s.la
  have hq : ∀ f ∈ p.asked ++ [(p.w e.k).asks e.k (e.m % 2 == 1)], f ∈ p.asked ∨ (f.fa = e.k + 1 ∧ f.fi = 1 ∧ 1 ≤ f.n ∧ f.n ≤ (p.w e.k).send.last ∧ (f.kind = 9 ∨ f.kind = 10)) := by
    intro f hf
    rcases List.mem_append.1 hf with hf | hf
    · exact .inl hf
    · right
      simp only [List.mem_singleton] at hf
      subst hf
      unfold Asker.asks
      split <;> simp [Asker.send] <;> omega
  have hn : (p.w e.k).now = owns e.k (pre ++ [e]) := by rw [owns_snoc0 _ _ _ (by omega)]; exact h1
  refine s.turn (by omega) e.k (p.w e.k).send _ hn (fun _ => rfl) ?_ ?_ ?_ ?_ ?_ ?_ ?_ ?_ hq hk (fun hc => ?_) (.inl rfl) <;> (try simp only [Asker.send, List.length_append, List.length_cons, List.length_nil] at *) <;> omega
/-- An answer comes. -/
theorem Safe.hear (s : Safe term hold pre p h g suf) (hh : 1 ≤ hold) (he : 5 ≤ e.what) {f : Fr} (hf : f ∈ p.told) :
    (f.ta - 1).toNat < 3 ∧ f.ta = ((f.ta - 1).toNat : Int) + 1 ∧ Safe term hold (pre ++ [e]) { p with w := upd p.w (f.ta - 1).toNat ((p.w (f.ta - 1).toNat).hear hold f) } h g (suf ++ [e]) := by
  obtain ⟨k, a1, a2, a3, a4, a5, a6, a7, a8⟩ := s.told f hf
  have ek : (f.ta - 1).toNat = k := by omega
  rw [ek]
  refine ⟨a1, a2, ?_⟩
  have h1 := s.now _ a1
  have h2 := s.last _ a1
  have h3 := s.sent _ a1
  have h4 := s.tok _ a1
  have h5 := s.till0 _ a1
  have h6 := s.la
  have h7 : (p.w k).now = owns k (pre ++ [e]) := by rw [owns_snoc0 _ _ _ (by omega)]; exact h1
  by_cases hc : f.kind = 12 ∧ f.n = (p.w k).last
  · have a9 := a8 hc.1 hc.2
    simp only [Asker.hear, if_pos hc]
    refine s.turn (by omega) k _ p.asked h7 (fun _ => by omega) ?_ ?_ ?_ ?_ ?_ ?_ ?_ ?_ (fun f hf => .inl hf) a1 (fun _ => rfl) (.inr ?_) <;> (try simp only [List.length_append, List.length_cons, List.length_nil]) <;> omega
  · simp only [Asker.hear, if_neg hc]
    refine s.turn (by omega) k _ p.asked h7 (fun _ => by omega) ?_ ?_ ?_ ?_ ?_ ?_ ?_ ?_ (fun f hf => .inl hf) a1 (fun _ => rfl) (.inl rfl) <;> (try simp only [List.length_append, List.length_cons, List.length_nil]) <;> omega
/-- Nothing is done. -/
theorem Safe.idle (s : Safe term hold pre p h g suf) (he : 3 ≤ e.what) : Safe term hold (pre ++ [e]) p h g (suf ++ [e]) := by
  have n1 := s.n1
  have k1 := s.k1
  exact s.arb (by omega) p.a s.trm s.n0 (by simp; omega) s.k0 (by simp; omega) (by rw [ticks_snoc0 _ _ (by omega)]; exact s.era)
/-- What a question of the lease comes to. -/
theorem take_cases (s : St) (f : Fr) (hm : mayB f.fa f.fi = true) (hk : f.kind = 9 ∨ f.kind = 10) (ht : s.token < 1099511627776) :
    (s.take f = s.refuse f) ∨ (s.own f.fa f.fi = true ∧ s.take f = s.grant f) ∨ (s.own f.fa f.fi = false ∧ s.term ≤ s.now ∧ s.til ≤ s.now ∧ s.take f = s.more.grant f) := by
  have h40 : (s.token == 1099511627776) = false := by simp; omega
  rcases hk with hk | hk
  · simp only [St.take, hm, hk, if_true, St.acquire]
    by_cases h1 : (decide (s.now < s.term) || (decide (s.now < s.til) && !(s.ta == f.fa && s.ti == f.fi))) = true
    · left; rw [if_pos h1]
    · rw [if_neg h1]
      by_cases h2 : s.own f.fa f.fi = true
      · right; left; exact ⟨h2, by rw [if_pos h2]⟩
      · right; right
        have h2' : s.own f.fa f.fi = false := by simpa using h2
        refine ⟨h2', ?_, ?_, ?_⟩
        · simp at h1; omega
        · simp only [St.own] at h2
          simp at h1 h2
          by_cases hc : s.now < s.til
          · exact absurd (h1.2 hc) (by intro hx; exact absurd hx.2 (h2 hc hx.1))
          · omega
        · rw [if_neg h2, h40]; rfl
  · simp only [St.take, hm, hk, if_true, St.renew]
    by_cases h1 : (!s.own f.fa f.fi || !(f.token == s.token)) = true
    · left; rw [if_pos h1]; rfl
    · right; left
      rw [if_neg h1]
      simp at h1
      exact ⟨h1.1, rfl⟩
/-- The arbiter answers without a grant. -/
theorem Safe.refused (s : Safe term hold pre p h g suf) (he : e.what = 4) {f : Fr} (hf : f ∈ p.asked) : Safe term hold (pre ++ [e]) { p with told := p.told ++ [(p.a.refuse f).fr] } h g (suf ++ [e]) := by
  have b := s.idle (e := e) (by omega)
  obtain ⟨k, a1, a2, a3, a4, a5, a6⟩ := s.asked f hf
  refine { b with told := fun x hx => ?_, lt := by have := s.lt; simp; omega }
  rcases List.mem_append.1 hx with hx | hx
  · exact b.told x hx
  · simp only [List.mem_singleton] at hx
    subst hx
    exact ⟨k, a1, a2, a3, a4, a5, by simp [St.refuse], by simp [St.refuse]; omega, fun hc => by simp [St.refuse] at hc⟩
/-- The arbiter grants: to who holds it, or another one. -/
theorem Safe.granted (s : Safe term hold pre p h g suf) (he : e.what = 4) (_hh : 1 ≤ hold) {f : Fr} (hf : f ∈ p.asked) (a : St) (ha : a = p.a ∨ a = p.a.more)
    (hg : p.a.own f.fa f.fi = true ∨ (p.a.term ≤ p.a.now ∧ p.a.til ≤ p.a.now)) (henough : term ≤ ticks suf → hold ≤ owns h suf) :
    ∃ h', Safe term hold (pre ++ [e]) { p with a := (a.grant f).st, told := p.told ++ [(a.grant f).fr] } h' (pre ++ [e]) [] := by
  have b := s.idle (e := e) (by omega)
  obtain ⟨k, a1, a2, a3, a4, a5, a6⟩ := s.asked f hf
  have hpre := s.cut
  have hera := s.era
  have hterm := s.trm
  have n0 := s.n0
  have n1 := s.n1
  have k0 := s.k0
  have k1 := s.k1
  have e1 : a.term = term ∧ a.now = p.a.now ∧ 0 ≤ a.token ∧ a.token ≤ (pre.length : Int) + 1 := by
    rcases ha with rfl | rfl
    · refine ⟨hterm, rfl, k0, by omega⟩
    · refine ⟨hterm, rfl, by simp only [St.more]; omega, by simp only [St.more]; omega⟩
  obtain ⟨e1, e2, e3, e4⟩ := e1
  have hno : ∀ j, owns j (pre ++ [e]) = owns j pre := fun j => owns_snoc0 _ _ _ (by omega)
  have hsp : owns h pre = owns h g + owns h suf := by rw [hpre, owns_append]
  have hnh := s.now h s.hlt
  -- who is not the new one does not count on it
  have hcut : k ≠ h → (owns h g : Int) + hold ≤ (p.w h).now := by
    intro hne
    have hd : term ≤ ticks suf := by
      rcases hg with ho | ⟨g1, g2⟩
      · have : p.a.now < p.a.til ∧ p.a.ta = f.fa := by
          simp only [St.own] at ho
          simp at ho
          exact ⟨ho.1, ho.2.1⟩
        rcases hera with ⟨q1, q2, q3, q4⟩ | ⟨q1, q2⟩ <;> omega
      · rcases hera with ⟨q1, q2, q3, q4⟩ | ⟨q1, q2⟩ <;> omega
    have := henough hd
    omega
  refine ⟨k, ⟨by simp, a1, b.now, b.last, b.sent, b.tok, b.till0, b.asked, fun x hx => ?_, b.la, by have := s.lt; simp; omega, by simp only [St.grant]; exact e1, by simp only [St.grant]; omega, by simp [St.grant]; omega, by simp only [St.grant]; exact e3, by simp [St.grant]; omega, .inl ?_, fun j hj => ?_⟩⟩
  · rcases List.mem_append.1 hx with hx | hx
    · obtain ⟨j, c1, c2, c3, c4, c5, c6, c7, c8⟩ := b.told x hx
      refine ⟨j, c1, c2, c3, c4, c5, c6, c7, fun h12 hn => ?_⟩
      have c9 := c8 h12 hn
      by_cases hjk : j = k
      · left
        refine ⟨hjk, ?_⟩
        have := (s.sent j c1).2
        have := s.now j c1
        subst hjk
        rw [hno]
        show (p.w j).sent ≤ _
        omega
      · right
        rcases c9 with ⟨rfl, c9⟩ | c9
        · have := hcut (Ne.symm hjk)
          show (p.w j).sent + hold ≤ (p.w j).now
          omega
        · exact c9
    · simp only [List.mem_singleton] at hx
      subst hx
      refine ⟨k, a1, a2, a3, a4, a5, by simp only [St.grant]; exact e3, by simp [St.grant]; omega, fun _ _ => .inl ⟨rfl, ?_⟩⟩
      have := (s.sent k a1).2
      have := s.now k a1
      rw [hno]
      show (p.w k).sent ≤ _
      omega
  · simp only [St.grant, ticks, List.countP_nil]
    refine ⟨by omega, a2, a3, by simp; omega⟩
  · have := s.till j hj
    have t0 := s.till0 j hj
    have hnj := s.now j hj
    by_cases hjk : j = k
    · left
      refine ⟨hjk, ?_⟩
      subst hjk
      rw [hno]
      show (p.w j).till ≤ _
      omega
    · right
      rcases this with ⟨rfl, c⟩ | c
      · have := hcut (Ne.symm hjk)
        show (p.w j).till ≤ (p.w j).now
        omega
      · exact c
end
/-- A question comes to the arbiter: what it answers, and what then holds. -/
theorem Safe.put {term hold : Int} {pre : List Ev} {p : Play} {h : Nat} {g suf : List Ev} {e : Ev} (s : Safe term hold pre p h g suf) (he : e.what = 4) (hh : 1 ≤ hold) (hn : pre.length ≤ 1000) {f : Fr} (hf : f ∈ p.asked) (henough : term ≤ ticks suf → hold ≤ owns h suf) :
    (p.a.take f).err = 0 ∧ (p.a.take f).is = true ∧ ∃ h' g' suf', Safe term hold (pre ++ [e]) { p with a := (p.a.take f).st, told := p.told ++ [(p.a.take f).fr] } h' g' suf' := by
  obtain ⟨k, a1, a2, a3, a4, a5, a6⟩ := s.asked f hf
  have hm : mayB f.fa f.fi = true := by unfold mayB; rw [a3]; apply decide_eq_true; omega
  have k1 := s.k1
  rcases take_cases p.a f hm a6 (by omega) with hc | ⟨ho, hc⟩ | ⟨ho, h1, h2, hc⟩ <;> rw [hc]
  · exact ⟨rfl, rfl, h, g, suf ++ [e], s.refused he hf⟩
  · obtain ⟨h', hs⟩ := s.granted he hh hf p.a (.inl rfl) (.inl ho) henough
    exact ⟨rfl, rfl, h', _, _, hs⟩
  · obtain ⟨h', hs⟩ := s.granted he hh hf p.a.more (.inr rfl) (.inr ⟨h1, h2⟩) henough
    exact ⟨rfl, rfl, h', _, _, hs⟩
end Go.Proofs.Ytjjbfmaldhlenaa
