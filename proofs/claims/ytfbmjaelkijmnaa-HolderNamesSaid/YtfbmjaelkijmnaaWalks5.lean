/-
  The walks of New, May, and of the frames held against one another.
-/
import Derived.Test.YtfbmjaelkijmnaaWalks4
namespace Go.Proofs.Ytfbmjaelkijmnaa
open Go.RowKit
def St.fresh (a i h r : Int) : St := ⟨a, i, h, r, 0, 0, false, 0, 0, 0, false⟩
/-- May somebody be? -/
def mayB (a i : Int) : Bool := decide (1 ≤ a ∧ a ≤ 12 ∧ 1 ≤ i ∧ i ≤ 1048576)
/-- May a holder be made so? -/
def may (a i h r : Int) : Prop := mayB a i = true ∧ 1 ≤ h ∧ h ≤ 4096 ∧ 1 ≤ r ∧ r ≤ 4096
def Fr.same (f g : Fr) : Bool := f.kind == g.kind && f.fa == g.fa && f.fi == g.fi && f.ta == g.ta && f.ti == g.ti && f.n == g.n && f.token == g.token
theorem Fr.same_iff (f g : Fr) : f.same g = true ↔ f = g := by
  obtain ⟨k1, b1, c1, d1, e1, f1, g1⟩ := f
  obtain ⟨k2, b2, c2, d2, e2, f2, g2⟩ := g
  simp [Fr.same, and_assoc]
theorem Fr.same_self (f : Fr) : f.same f = true := (Fr.same_iff f f).2 rfl
set_option maxRecDepth 100000 in
set_option maxHeartbeats 400000 in
theorem may_any (a i : Int) (w : World) :
    Calls Try.prog 30 #[.agg #[.int .i64 a, .int .i64 i]] w fun e w' => e = .returned (.bool (mayB a i)) ∧ Below w.heap.size w w' := by
  go_enter Try.func30, Try.ntmps30
  go_wp2
  all_goals
    go_ret
    refine ⟨ret_b ?_, (Below.refl _ _).alloc (Nat.le_refl _) _⟩
    unfold mayB
    first
      | (simp [*]; done)
      | (symm; apply decide_eq_false; omega)
set_option maxRecDepth 100000 in
set_option maxHeartbeats 400000 in
theorem ref_may_any (a i : Int) (w : World) :
    Calls Try.prog 37 #[.agg #[.int .i64 a, .int .i64 i]] w fun e w' => e = .returned (.bool (mayB a i)) ∧ Below w.heap.size w w' := by
  go_enter Try.func37, Try.ntmps37
  go_wp2
  all_goals
    go_ret
    refine ⟨ret_b ?_, (Below.refl _ _).alloc (Nat.le_refl _) _⟩
    unfold mayB
    first
      | (simp [*]; done)
      | (symm; apply decide_eq_false; omega)
set_option maxRecDepth 100000 in
set_option maxHeartbeats 400000 in
theorem new_yes (a i h r : Int) (w : World) (hm : may a i h r) :
    Calls Try.prog 11 #[.agg #[.int .i64 a, .int .i64 i], .int .i64 h, .int .i64 r] w fun e w' => ∃ C, e = .returned (.tuple #[.pointer (some ⟨C, 0, none⟩), .int .i64 0]) ∧ At C (.fresh a i h r) w' ∧ w.heap.size ≤ C ∧ Below w.heap.size w w' := by
  obtain ⟨hb, h1, h2, r1, r2⟩ := hm
  go_enter Try.func11, Try.ntmps11
  go_wp2_with fail
  refine (may_any _ _ _).mono ?_
  rintro e w1 ⟨rfl, hb1⟩
  have hc := fun (b o : Nat) (h : b < _) => hb1.cell (p := ⟨b, o, none⟩) h
  have hb1 := then_below ((Below.refl _ _).alloc (Nat.le_refl _) _) hb1
  have hs := hb1.size
  rw [hb]
  go_wp2_with fail
  go_ret2
  exact ⟨w1.heap.size, rfl, heap_alloc_new _ _, hs, hb1.alloc hs _⟩
set_option maxRecDepth 100000 in
set_option maxHeartbeats 400000 in
theorem new_no (a i h r : Int) (w : World) (hm : ¬ may a i h r) :
    Calls Try.prog 11 #[.agg #[.int .i64 a, .int .i64 i], .int .i64 h, .int .i64 r] w fun e w' => e = .returned (.tuple #[.pointer none, .int .i64 1]) ∧ Below w.heap.size w w' := by
  have HM := Lib.hid hm
  clear hm
  cases hd : mayB a i
  all_goals
    go_enter Try.func11, Try.ntmps11
    go_wp2_with fail
    refine (may_any _ _ _).mono ?_
    rintro e w1 ⟨rfl, hb⟩
    have hb1 := then_below ((Below.refl _ _).alloc (Nat.le_refl _) _) hb
    rw [hd]
    go_wp2_with fail
  · go_ret2
    exact ⟨rfl, hb1⟩
  all_goals first
    | (go_ret2; exact ⟨rfl, hb1⟩)
    | (exfalso; refine HM.out ⟨hd, ?_, ?_, ?_, ?_⟩ <;> omega)
set_option maxRecDepth 100000 in
set_option maxHeartbeats 400000 in
theorem bare_any (f g : Fr) (w : World) :
    Calls Try.prog 20 #[f.val, g.val] w fun e w' => e = .returned (.bool (f.same g)) ∧ Below w.heap.size w w' := by
  obtain ⟨k1, b1, c1, d1, e1, f1, g1⟩ := f
  obtain ⟨k2, b2, c2, d2, e2, f2, g2⟩ := g
  simp only [Fr.val, Fr.cells]
  go_enter Try.func20, Try.ntmps20
  go_wp2
  all_goals
    go_ret
    refine ⟨ret_b ?_, ?_⟩
    · simp [Fr.same, *]
    · first
        | exact ((Below.refl _ _).alloc (Nat.le_refl _) _).alloc (by simp) _
        | exact (((Below.refl _ _).alloc (Nat.le_refl _) _).alloc (by simp) _).alloc (by simp; omega) _
        | exact ((((Below.refl _ _).alloc (Nat.le_refl _) _).alloc (by simp) _).alloc (by simp; omega) _).alloc (by simp; omega) _
end Go.Proofs.Ytfbmjaelkijmnaa
