/-
  HolderKeeps in plain words: asked at each tick and granted at once, the lease is held at each tick.
-/
import Derived.Test.YtfbmjaelkijmnaaWorks
namespace Go.Proofs.Ytfbmjaelkijmnaa
open Go.RowKit
/-- The holder ahead of tick k. -/
structure Keeps (a i h r tok : Int) (k : Nat) (s : St) : Prop where
  addr : s.addr = a
  inc : s.inc = i
  hold : s.hold = h
  retry : s.retry = r
  waits : s.waits = false
  refused : s.refused = false
  n0 : 0 ≤ s.n
  n1 : s.n ≤ k
  first : k = 0 → s = St.fresh a i h r
  later : 1 ≤ k → s.token = tok ∧ 0 ≤ s.since ∧ s.since ≤ k - 1 ∧ (k : Int) - 1 - s.since < max 1 (h / 3) ∧ s.asked = s.since
theorem Keeps.start (a i h r tok : Int) : Keeps a i h r tok 0 (St.fresh a i h r) := by
  constructor <;> simp [St.fresh]
theorem Keeps.ok {a i h r tok : Int} {k : Nat} {s : St} (J : Keeps a i h r tok k s) (hk : k ≤ 500) (h1 : 2 ≤ h) (h2 : h ≤ 4096) (r1 : 1 ≤ r) (r2 : r ≤ 4096) : s.Ok := by
  have e1 := J.hold
  have e2 := J.retry
  have e3 := J.n0
  have e4 := J.n1
  by_cases h0 : k = 0
  · have e := J.first h0
    rw [e]
    constructor <;> simp [St.fresh] <;> omega
  · obtain ⟨t1, t2, t3, t4, t5⟩ := J.later (by omega)
    constructor <;> omega
/-- What one tick comes to: what is asked (is it asked?), and the holder behind it. -/
def Tick (a i h r tok : Int) (k : Nat) (s : St) : Prop :=
  (k = 0 ∧ ∃ s1 s2, s.want 0 = (s1, ⟨9, a, i, 0, 0, 1, 0⟩, true) ∧ s1.Ok ∧ s1.take ⟨12, 0, 0, 0, 0, 1, tok⟩ = (s2, true) ∧ Keeps a i h r tok (k + 1) s2) ∨
  (1 ≤ k ∧ s.want k = (s, .zero, false) ∧ Keeps a i h r tok (k + 1) s) ∨
  (1 ≤ k ∧ ∃ s1 s2 n, s.want k = (s1, ⟨10, a, i, 0, 0, n, tok⟩, true) ∧ s1.Ok ∧ s1.take ⟨12, 0, 0, 0, 0, n, tok⟩ = (s2, true) ∧ Keeps a i h r tok (k + 1) s2)
theorem holds_true {s : St} {now : Int} (h1 : 1 ≤ s.token) (h2 : 0 ≤ now) (h3 : now ≤ 1099511627776) (h4 : s.asked ≤ now) (h5 : now - s.since < s.hold) : s.holds now = true := by
  have e : s.time now = now := by unfold St.time; omega
  have e2 : (s.token == 0) = false := by simp; omega
  simp [St.holds, e, e2, h5]
/-- Behind a tick it holds, now and at the next tick. -/
theorem Keeps.behind {a i h r tok : Int} {k : Nat} {s : St} (J : Keeps a i h r tok (k + 1) s) (hk : k ≤ 500) (h1 : 2 ≤ h) (ht : 1 ≤ tok) : s.holds k = true ∧ s.holds (k + 1) = true ∧ s.token = tok ∧ s.refused = false := by
  obtain ⟨t1, t2, t3, t4, t5⟩ := J.later (by omega)
  have e1 := J.hold
  refine ⟨holds_true (by omega) (by omega) (by omega) (by omega) (by omega), holds_true (by omega) (by omega) (by omega) (by omega) (by omega), t1, J.refused⟩
theorem Keeps.tick {a i h r tok : Int} {k : Nat} {s : St} (J : Keeps a i h r tok k s) (hk : k < 500) (h1 : 2 ≤ h) (h2 : h ≤ 4096) (r1 : 1 ≤ r) (r2 : r ≤ 4096) (ht : 1 ≤ tok) : Tick a i h r tok k s := by
  have hok := J.ok (by omega) h1 h2 r1 r2
  by_cases h0 : k = 0
  · have e := J.first h0
    subst h0
    rw [e] at hok ⊢
    have ht2 : (decide (0 < tok)) = true := decide_eq_true (by omega)
    refine .inl ⟨rfl, (St.fresh a i h r).none.ask 9 0, ⟨a, i, h, r, 1, 0, false, 9, tok, 0, false⟩, rfl, ask_ok _ _ _ (none_ok _ hok) (by simp [St.none, St.fresh]) (by decide) (by decide), ?_, ?_⟩
    · simp [St.take, St.ask, St.none, St.fresh, ht2]
    · constructor <;> simp <;> omega
  · obtain ⟨t1, t2, t3, t4, t5⟩ := J.later (by omega)
    have ha := J.addr
    have hi := J.inc
    have e1 := J.hold
    have e2 := J.retry
    have e3 := J.n0
    have e4 := J.n1
    have hw := J.waits
    have hr := J.refused
    have et : s.time k = k := by unfold St.time; omega
    have hh : s.holds k = true := holds_true (by omega) (by omega) (by omega) (by omega) (by omega)
    have ht2 : (decide (0 < tok)) = true := decide_eq_true (by omega)
    by_cases hm : max 1 (s.hold / 3) ≤ (k : Int) - s.since
    · have hwant : s.want k = (s.ask 10 k, ⟨10, a, i, 0, 0, s.n + 1, tok⟩, true) := by
        simp [St.want, hw, hr, et, hh, hm, St.asks, ha, hi, t1]
      refine .inr (.inr ⟨by omega, _, ⟨a, i, h, r, s.n + 1, k, false, 10, tok, k, false⟩, _, hwant, ask_ok _ _ _ hok (by omega) (by omega) (by omega), ?_, ?_⟩)
      · simp [St.take, St.ask, ht2, ha, hi, e1, e2, hr]
      · constructor <;> simp <;> omega
    · refine .inr (.inl ⟨by omega, ?_, ?_⟩)
      · simp [St.want, hw, hr, et, hh, hm]
      · refine ⟨ha, hi, e1, e2, hw, hr, e3, by omega, fun h => by omega, fun _ => ⟨t1, t2, by omega, ?_, t5⟩⟩
        rw [e1] at hm; omega
end Go.Proofs.Ytfbmjaelkijmnaa
