/-
  What holds of a holder whatever is done with it.
-/
import Derived.Test.YtfbmjaelkijmnaaWorks
namespace Go.Proofs.Ytfbmjaelkijmnaa
open Go.RowKit

/-- A holder of (a, i), with its two numbers, behind k things that were done with it. -/
structure Inv (a i h r : Int) (k : Nat) (s : St) : Prop where
  addr : s.addr = a
  inc : s.inc = i
  hold : s.hold = h
  retry : s.retry = r
  n0 : 0 ≤ s.n
  n1 : s.n ≤ k
  a0 : 0 ≤ s.asked
  a1 : s.asked ≤ 1099511627776
  s0 : 0 ≤ s.since
  s1 : s.since ≤ s.asked
  t0 : 0 ≤ s.token
  none : s.token = 0 → s.since = 0
  kind : s.waits = true → s.kind = 9 ∨ s.kind = 10
theorem Inv.start (a i h r : Int) : Inv a i h r 0 (St.fresh a i h r) := by
  constructor <;> simp [St.fresh]
theorem Inv.later {a i h r : Int} {k : Nat} {s : St} (v : Inv a i h r k s) : Inv a i h r (k + 1) s := { v with n1 := by have := v.n1; omega }
theorem Inv.ok {a i h r : Int} {k : Nat} {s : St} (v : Inv a i h r k s) (hm : may a i h r) (hk : k ≤ 1000) : s.Ok := by
  obtain ⟨-, h1, h2, r1, r2⟩ := hm
  obtain ⟨e1, e2, e3, e4, n0, n1, a0, a1, s0, s1, t0, -, -⟩ := v
  constructor <;> omega
theorem Inv.ask {a i h r : Int} {k : Nat} {s : St} (v : Inv a i h r k s) (kind t : Int) (hk : kind = 9 ∨ kind = 10) (t0 : s.asked ≤ t) (t1 : t ≤ 1099511627776) : Inv a i h r (k + 1) (s.ask kind t) := by
  obtain ⟨e1, e2, e3, e4, n0, n1, a0, a1, s0, s1, t0, hn, -⟩ := v
  constructor <;> simp only [St.ask] <;> first | assumption | omega | (intro _; exact hk)
theorem Inv.dropped {a i h r : Int} {k : Nat} {s : St} (v : Inv a i h r k s) : Inv a i h r k s.none := by
  obtain ⟨e1, e2, e3, e4, n0, n1, a0, a1, s0, s1, t0, hn, hk⟩ := v
  constructor <;> simp only [St.none] <;> first | assumption | omega | (intro _; rfl) | (intro _; trivial)
theorem time_ge (s : St) (now : Int) (h : s.asked ≤ 1099511627776) : s.asked ≤ s.time now := by unfold St.time; omega
theorem Inv.want {a i h r : Int} {k : Nat} {s : St} (v : Inv a i h r k s) (now : Int) : Inv a i h r (k + 1) (s.want now).1 := by
  have g := time_ge s now v.a1
  have g2 := time_hi s now
  unfold St.want
  split
  · exact v.later
  · split
    · exact v.dropped.ask 9 _ (.inl rfl) g g2
    · split
      · exact v.ask 10 _ (.inr rfl) g g2
      · exact v.later
theorem Inv.take {a i h r : Int} {k : Nat} {s : St} (v : Inv a i h r k s) (f : Fr) : Inv a i h r (k + 1) (s.take f).1 := by
  have w := v.later
  obtain ⟨e1, e2, e3, e4, n0, n1, a0, a1, s0, s1, t0, hn, hk⟩ := w
  unfold St.take
  split
  · exact v.later
  · split
    · exact v.later
    · split
      · exact v.later
      · split
        · rename_i ht
          simp only [Bool.and_eq_true, decide_eq_true_eq] at ht
          constructor <;> simp only <;> first | assumption | omega | (intro _; rfl) | (intro h; omega) | (intro _; trivial) | (intro h; cases h)
        · constructor <;> simp only <;> first | assumption | omega | (intro _; rfl) | (intro _; trivial) | (intro h; cases h)
theorem Inv.drop {a i h r : Int} {k : Nat} {s : St} (v : Inv a i h r k s) : Inv a i h r (k + 1) s.drop.1 := by
  obtain ⟨e1, e2, e3, e4, n0, n1, a0, a1, s0, s1, t0, hn, hk⟩ := v.later
  unfold St.drop
  constructor <;> simp only <;> first | assumption | omega | (intro _; rfl) | (intro _; trivial) | (intro h; cases h)
/-- A time that the law makes: from the last question on. -/
def lawTime (last now : Int) : Int := max last (min (max now 0) 1099511627776)
theorem time_law {s : St} (a1 : s.asked ≤ 1099511627776) (a0 : 0 ≤ s.asked) (now : Int) : s.time (lawTime s.asked now) = lawTime s.asked now := by
  unfold St.time lawTime; omega
theorem time_time (s : St) (now : Int) (a1 : s.asked ≤ 1099511627776) : s.time (s.time now) = s.time now := by unfold St.time; omega
theorem holds_time (s : St) (now : Int) (a1 : s.asked ≤ 1099511627776) : s.holds (s.time now) = s.holds now := by
  unfold St.holds; rw [time_time s now a1]
/-- The holder behind a question of a kind, at a time, with a lease. -/
def St.asking (a i h r n t kind token since : Int) : St := ⟨a, i, h, r, n, t, true, kind, token, since, false⟩
/-- What Want comes to. -/
theorem Inv.cases {a i h r : Int} {k : Nat} {s : St} (v : Inv a i h r k s) (now : Int) :
    (s.want now = (s, .zero, false)) ∨
    (s.refused = false ∧ (s.waits = true → r ≤ s.time now - s.asked) ∧ s.holds now = false ∧ s.want now = (St.asking a i h r (s.n + 1) (s.time now) 9 0 0, ⟨9, a, i, 0, 0, s.n + 1, 0⟩, true)) ∨
    (s.refused = false ∧ (s.waits = true → r ≤ s.time now - s.asked) ∧ s.holds now = true ∧ s.want now = (St.asking a i h r (s.n + 1) (s.time now) 10 s.token s.since, ⟨10, a, i, 0, 0, s.n + 1, s.token⟩, true)) := by
  have ht := holds_time s now v.a1
  obtain ⟨e1, e2, e3, e4, -⟩ := v
  by_cases h1 : (s.refused || (s.waits && decide (s.time now - s.asked < s.retry))) = true
  · left; simp only [St.want, h1, if_true]
  · have hr : s.refused = false := by
      cases hr : s.refused
      · rfl
      · simp [hr] at h1
    have hw : s.waits = true → r ≤ s.time now - s.asked := by
      intro hw
      rw [hr, hw] at h1
      simp at h1
      omega
    have h1' : (s.refused || (s.waits && decide (s.time now - s.asked < s.retry))) = false := by simpa using h1
    cases hh : s.holds (s.time now)
    · right; left
      refine ⟨hr, hw, by rw [← ht]; exact hh, ?_⟩
      simp only [St.want, h1', hh]
      simp [St.asking, St.ask, St.asks, St.none, e1, e2, e3, e4, hr]
    · by_cases h2 : (s.waits || decide (max 1 (s.hold / 3) ≤ s.time now - s.since)) = true
      · right; right
        refine ⟨hr, hw, by rw [← ht]; exact hh, ?_⟩
        simp only [St.want, h1', hh, h2]
        simp [St.asking, St.ask, St.asks, e1, e2, e3, e4, hr]
      · left
        have h2' : (s.waits || decide (max 1 (s.hold / 3) ≤ s.time now - s.since)) = false := by simpa using h2
        simp only [St.want, h1', hh, h2']
        rfl
end Go.Proofs.Ytfbmjaelkijmnaa
