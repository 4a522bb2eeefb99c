/-
  ArbiterOne in plain words: what the law's own four variables tell of an arbiter.
-/
import Derived.Test.YtjjbfmaldhlenaaSteps
namespace Go.Proofs.Ytjjbfmaldhlenaa
/-- What any frame comes to. -/
theorem take_all (s : St) (f : Fr) (ht : s.token < 1099511627776) :
    (s.take f = s.refuse f ∧ f.kind ≠ 11) ∨ (s.own f.fa f.fi = true ∧ mayB f.fa f.fi = true ∧ f.kind ≠ 11 ∧ s.take f = s.grant f) ∨
    (s.own f.fa f.fi = false ∧ mayB f.fa f.fi = true ∧ f.kind ≠ 11 ∧ s.term ≤ s.now ∧ s.til ≤ s.now ∧ s.take f = s.more.grant f) ∨
    (f.kind = 11 ∧ mayB f.fa f.fi = true ∧ s.own f.fa f.fi = true ∧ f.token = s.token ∧ s.take f = s.free.nothing) ∨
    (s.take f = s.nothing ∧ (f.kind = 11 → mayB f.fa f.fi = true → s.own f.fa f.fi = true → f.token ≠ s.token)) := by
  by_cases hm : mayB f.fa f.fi = true
  · by_cases h9 : f.kind = 9 ∨ f.kind = 10
    · rcases take_cases s f hm h9 ht with h | ⟨h1, h2⟩ | ⟨h1, h2, h3, h4⟩
      · exact .inl ⟨h, by omega⟩
      · exact .inr (.inl ⟨h1, hm, by omega, h2⟩)
      · exact .inr (.inr (.inl ⟨h1, hm, by omega, h2, h3, h4⟩))
    · by_cases h11 : f.kind = 11
      · by_cases hc : (s.own f.fa f.fi && f.token == s.token) = true
        · have hc' := hc
          simp at hc'
          refine .inr (.inr (.inr (.inl ⟨h11, hm, hc'.1, hc'.2, ?_⟩)))
          simp only [St.take, hm, h11, St.release, hc]; rfl
        · refine .inr (.inr (.inr (.inr ⟨?_, fun _ _ ho he => hc (by simp [ho, he])⟩)))
          have hc' : (s.own f.fa f.fi && f.token == s.token) = false := by simpa using hc
          simp only [St.take, hm, h11, St.release, hc']; rfl
      · refine .inr (.inr (.inr (.inr ⟨?_, fun e => absurd e h11⟩)))
        have a9 : ¬ f.kind = 9 := fun e => h9 (.inl e)
        have a10 : ¬ f.kind = 10 := fun e => h9 (.inr e)
        simp only [St.take, hm, a9, a10, h11, if_true, if_false]
  · refine .inr (.inr (.inr (.inr ⟨?_, fun _ e => absurd e hm⟩)))
    simp only [St.take, hm]; rfl
/-- What the law's variables tell behind k steps. -/
structure One (term : Int) (k : Nat) (s : St) (ha hi token left since : Int) : Prop where
  trm : s.term = term
  t1 : 1 ≤ term
  t2 : term ≤ 4096
  n0 : 0 ≤ s.now
  n1 : s.now ≤ k
  sc : since = s.now
  k0 : 0 ≤ s.token
  k1 : s.token ≤ k
  tk : token = s.token
  l0 : -(k : Int) ≤ left
  l1 : left ≤ 4096
  live : 0 < left → left = s.til - s.now ∧ s.ta = ha ∧ s.ti = hi ∧ mayB ha hi = true
  dead : left ≤ 0 → s.til ≤ s.now
section
variable {term : Int} {k : Nat} {s : St} {ha hi token left since : Int}
theorem One.begin (h1 : 1 ≤ term) (h2 : term ≤ 4096) : One term 0 (.fresh term) 0 0 0 0 0 := by
  constructor <;> first | omega | (simp [St.fresh]; done) | (simp [St.fresh]; omega)
theorem One.ok (o : One term k s ha hi token left since) (hk : k ≤ 1000) : s.Ok := by
  obtain ⟨a, b, c, d, e, f, g, h, i, j, l, -, -⟩ := o
  constructor <;> omega
theorem One.tick (o : One term k s ha hi token left since) : One term (k + 1) s.tick ha hi token (left - 1) (since + 1) := by
  obtain ⟨a, b, c, d, e, f, g, h, i, j, l, lv, dd⟩ := o
  refine ⟨a, b, c, by simp only [St.tick]; omega, by simp only [St.tick]; omega, by simp only [St.tick]; omega, g, by simp only [St.tick]; omega, i, by omega, by omega, fun h => ?_, fun h => ?_⟩
  · have := lv (by omega)
    simp only [St.tick]
    exact ⟨by omega, this.2⟩
  · simp only [St.tick]
    by_cases hl : left ≤ 0
    · have := dd hl; omega
    · have := lv (by omega); omega
theorem One.restart (o : One term k s ha hi token left since) : One term (k + 1) s.start ha hi token 0 0 := by
  obtain ⟨a, b, c, d, e, f, g, h, i, j, l, lv, dd⟩ := o
  refine ⟨a, b, c, by simp [St.start], by simp [St.start]; omega, by simp [St.start], g, by simp only [St.start]; omega, i, by omega, by omega, fun h => by omega, fun _ => by simp [St.start]⟩
theorem One.later (o : One term k s ha hi token left since) : One term (k + 1) s ha hi token left since := by
  obtain ⟨a, b, c, d, e, f, g, h, i, j, l, lv, dd⟩ := o
  exact ⟨a, b, c, d, by omega, f, g, by omega, i, by omega, l, lv, dd⟩
theorem One.over (o : One term k s ha hi token left since) (hl : left ≤ 0) : One term (k + 1) s ha hi token 0 since := by
  have hd := o.dead hl
  obtain ⟨a, b, c, d, e, f, g, h, i, j, l, lv, dd⟩ := o
  exact ⟨a, b, c, d, by omega, f, g, by omega, i, by omega, by omega, fun h => by omega, fun _ => hd⟩
theorem One.grant (o : One term k s ha hi token left since) (f : Fr) (a : St) (ht : a.term = term) (hn : a.now = s.now) (h0 : 0 ≤ a.token) (h1 : a.token ≤ (k : Int) + 1) (hm : mayB f.fa f.fi = true) : One term (k + 1) (a.grant f).st f.fa f.fi a.token term since := by
  obtain ⟨e0, b, c, d, e, fs, g, h, i, j, l, lv, dd⟩ := o
  refine ⟨ht, b, c, by simp only [St.grant]; omega, by simp only [St.grant]; omega, by simp only [St.grant]; omega, h0, by simp only [St.grant]; omega, rfl, by omega, c, fun _ => ⟨by simp only [St.grant]; omega, rfl, rfl, hm⟩, fun h => by omega⟩
theorem One.free (o : One term k s ha hi token left since) : One term (k + 1) s.free ha hi token 0 since := by
  obtain ⟨a, b, c, d, e, f, g, h, i, j, l, lv, dd⟩ := o
  exact ⟨a, b, c, d, by simp only [St.free]; omega, f, g, by simp only [St.free]; omega, i, by omega, by omega, fun h => by omega, fun _ => d⟩
/-- Who holds it, of the law's variables. -/
theorem One.owns (o : One term k s ha hi token left since) {a i : Int} (h : s.own a i = true) : 0 < left ∧ ha = a ∧ hi = i := by
  simp only [St.own] at h
  simp at h
  by_cases hl : left ≤ 0
  · have := o.dead hl; omega
  · have := o.live (by omega); omega
theorem One.owns_of (o : One term k s ha hi token left since) (hl : 0 < left) : s.own ha hi = true ∧ mayB ha hi = true := by
  have := o.live hl
  refine ⟨?_, this.2.2.2⟩
  simp only [St.own]
  simp [this.2.1, this.2.2.1]
  omega
end
end Go.Proofs.Ytjjbfmaldhlenaa
