/-
  HolderAsked in plain words: the law's own list of the times of the questions.
-/
import Derived.Test.YtfbmjaelkijmnaaSteps
import Derived.Test.YtfbmjaelkijmnaaInv
import Derived.Laws.AppendOwn
namespace Go.Proofs.Ytfbmjaelkijmnaa
open Go.RowKit
/-- The law's own list of numbers, in a row of its own behind the holder. -/
def Row (C G cap : Nat) (xs : List Int) (w : World) : Prop := w.ownsRow (C + 1) 3 1 (.slice (some ⟨G, 0, none⟩) xs.length cap) xs.length (xs.map (Value.int .i64))
theorem Row.lt {C G cap : Nat} {xs : List Int} {w : World} (h : Row C G cap xs w) : C < G ∧ G < w.heap.size := by
  have := World.ownsRow.lt h G rfl
  omega
theorem Row.keep {C G cap : Nat} {xs : List Int} {w w' : World} (h : Row C G cap xs w) (k : Keep C w w') : Row C G cap xs w' :=
  World.ownsRow.kept (row := some C) h ⟨k.os, k.tape, k.output, k.size, fun i hi hne => k.block i hi (by simpa using hne)⟩ (.inr (by have := h.lt; simp [Value.ownBlock]; omega))
theorem Row.below {C G cap : Nat} {xs : List Int} {w w' : World} (h : Row C G cap xs w) (b : Below w.heap.size w w') : Row C G cap xs w' := h.keep (Keep.of_below b)
theorem Row.cell {C G cap : Nat} {xs : List Int} {w : World} (h : Row C G cap xs w) (j : Nat) (x : Int) (hj : xs[j]? = some x) : w.cell? ⟨G, j, none⟩ = some (.int .i64 x) := by
  have := World.ownsRow.cells h (g := G) rfl j (.int .i64 x) (by simp [hj])
  have e : (⟨G, 0, none⟩ : Addr).add j = ⟨G, j, none⟩ := by unfold Addr.add; split <;> simp_all
  rw [e] at this
  exact this
/-- The holder, where another block of the call's own has grown. -/
theorem Has.grown {C G : Nat} {s : St} {W w w' : World} (h : Has C s W w) (hg : w.grownBy w' (some G)) (hG : C < G) : Has C s W w' := by
  refine ⟨?_, h.own, ⟨hg.os.trans h.below.os, hg.tape.trans h.below.tape, hg.output.trans h.below.output, Nat.le_trans h.below.size hg.size, fun k hk => ?_⟩⟩
  · unfold At; rw [hg.block C h.here.lt (by simp; omega)]; exact h.here
  · have := h.own
    rw [hg.block k (Nat.lt_of_lt_of_le hk h.below.size) (by simp; omega)]; exact h.below.block k hk
/-- What the law's list tells of a holder. -/
structure Told (a i h r : Int) (k : Nat) (s : St) (xs : List Int) (g : Nat) : Prop where
  inv : Inv a i h r k s
  len : (xs.length : Int) = s.n + 1
  g1 : (g : Int) ≤ s.n
  tok : 0 < g ↔ 0 < s.token
  at_ : 0 < g → xs[g]? = some s.since
  last : xs[s.n.toNat]? = some s.asked
  some : s.waits = true → 1 ≤ s.n
theorem Told.start (a i h r : Int) : Told a i h r 0 (St.fresh a i h r) [0] 0 := by
  refine ⟨Inv.start a i h r, ?_, ?_, ?_, ?_, ?_, ?_⟩ <;> simp [St.fresh]
/-- What Holds tells at a time from the last question on. -/
theorem Told.holds {a i h r : Int} {k : Nat} {s : St} {xs : List Int} {g : Nat} (T : Told a i h r k s xs g) {t : Int} (ht : s.time t = t) :
    (g = 0 → s.holds t = false ∧ s.token = 0) ∧ (0 < g → s.holds t = decide (t - s.since < h) ∧ 0 < s.token) := by
  have hh := T.inv.hold
  have t0 := T.inv.t0
  refine ⟨fun e => ?_, fun e => ?_⟩
  · have h0 : s.token = 0 := by
      have := T.tok
      omega
    have h1 := T.inv.none h0
    simp [St.holds, h0, h1]
  · have h0 := T.tok.1 e
    have h1 : (s.token == 0) = false := by simp; omega
    simp [St.holds, h1, ht, hh, h0]
theorem Told.later {a i h r : Int} {k : Nat} {s : St} {xs : List Int} {g : Nat} (T : Told a i h r k s xs g) : Told a i h r (k + 1) s xs g := { T with inv := T.inv.later }
/-- Asked for the lease. -/
theorem Told.acquire {a i h r : Int} {k : Nat} {s : St} {xs : List Int} {g : Nat} (T : Told a i h r k s xs g) (t : Int) (J : Inv a i h r (k + 1) (St.asking a i h r (s.n + 1) t 9 0 0)) :
    Told a i h r (k + 1) (St.asking a i h r (s.n + 1) t 9 0 0) (xs ++ [t]) 0 := by
  have hl := T.len
  have h0 := T.inv.n0
  refine ⟨J, ?_, ?_, ?_, ?_, ?_, ?_⟩ <;> simp [St.asking]
  · omega
  · omega
  · rw [List.getElem?_append_right (by omega), show (s.n + 1).toNat - xs.length = 0 by omega]; rfl
  · omega
/-- Asked to renew it. -/
theorem Told.renew {a i h r : Int} {k : Nat} {s : St} {xs : List Int} {g : Nat} (T : Told a i h r k s xs g) (t : Int) (J : Inv a i h r (k + 1) (St.asking a i h r (s.n + 1) t 10 s.token s.since)) :
    Told a i h r (k + 1) (St.asking a i h r (s.n + 1) t 10 s.token s.since) (xs ++ [t]) g := by
  have hl := T.len
  have h0 := T.inv.n0
  have hg1 := T.g1
  refine ⟨J, ?_, ?_, T.tok, fun e => ?_, ?_, ?_⟩ <;> simp only [St.asking]
  · simp; omega
  · omega
  · rw [List.getElem?_append_left (by omega)]; exact T.at_ e
  · rw [List.getElem?_append_right (by omega), show (s.n + 1).toNat - xs.length = 0 by omega]; rfl
  · omega
/-- Let go. -/
theorem Told.drop {a i h r : Int} {k : Nat} {s : St} {xs : List Int} {g : Nat} (T : Told a i h r k s xs g) : Told a i h r (k + 1) s.drop.1 xs 0 := by
  have h0 := T.inv.n0
  refine ⟨T.inv.drop, T.len, h0, ?_, ?_, T.last, ?_⟩ <;> simp [St.drop]
/-- Granted. -/
theorem Told.grant {a i h r : Int} {k : Nat} {s : St} {xs : List Int} {g : Nat} (T : Told a i h r k s xs g) (hw : s.waits = true) (tok : Int) (ht : 0 < tok) :
    s.take ⟨12, 0, 0, 0, 0, s.n, tok⟩ = ({ s with waits := false, token := tok, since := s.asked }, true) ∧ Told a i h r (k + 1) { s with waits := false, token := tok, since := s.asked } xs s.n.toNat := by
  have e : s.take ⟨12, 0, 0, 0, 0, s.n, tok⟩ = ({ s with waits := false, token := tok, since := s.asked }, true) := by simp [St.take, hw, ht]
  have J := T.inv.take ⟨12, 0, 0, 0, 0, s.n, tok⟩
  rw [e] at J
  have h1 := T.some hw
  exact ⟨e, J, T.len, by simp only; omega, ⟨fun _ => ht, fun _ => by omega⟩, fun _ => T.last, T.last, fun c => by cases c⟩
/-- Refused, or granted with no token. -/
theorem Told.refuse {a i h r : Int} {k : Nat} {s : St} {xs : List Int} {g : Nat} (T : Told a i h r k s xs g) (hw : s.waits = true) (kind tok : Int) (hk : (kind = 12 ∧ ¬ 0 < tok) ∨ kind = 13) :
    s.take ⟨kind, 0, 0, 0, 0, s.n, tok⟩ = ({ s with waits := false, token := 0, since := 0, refused := s.refused || s.kind == 9 }, true) ∧
      Told a i h r (k + 1) { s with waits := false, token := 0, since := 0, refused := s.refused || s.kind == 9 } xs 0 := by
  have e : s.take ⟨kind, 0, 0, 0, 0, s.n, tok⟩ = ({ s with waits := false, token := 0, since := 0, refused := s.refused || s.kind == 9 }, true) := by
    rcases hk with ⟨rfl, ht⟩ | rfl
    · simp [St.take, hw, ht]
    · simp [St.take, hw]
  have J := T.inv.take ⟨kind, 0, 0, 0, 0, s.n, tok⟩
  rw [e] at J
  exact ⟨e, J, T.len, T.inv.n0, by simp, fun c => by omega, T.last, fun c => by cases c⟩
/-- Not taken. -/
theorem take_not {s : St} (kind n tok : Int) (h : s.waits = false ∨ n ≠ s.n ∨ (kind ≠ 12 ∧ kind ≠ 13)) : s.take ⟨kind, 0, 0, 0, 0, n, tok⟩ = (s, false) := by
  unfold St.take
  rcases h with h | h | ⟨h1, h2⟩ <;> simp [*]
end Go.Proofs.Ytfbmjaelkijmnaa
