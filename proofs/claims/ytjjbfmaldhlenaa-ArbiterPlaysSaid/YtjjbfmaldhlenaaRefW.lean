/-
  The document's arbiter in memory, and the walks of its small functions.
-/
import Derived.Test.YtjjbfmaldhlenaaWorks
namespace Go.Proofs.Ytjjbfmaldhlenaa
open Go.RowKit
set_option linter.unusedVariables false
set_option linter.unusedSimpArgs false
attribute [local go_sem ↓] Go.wp_at_zero Go.wp_at_succ
def St.ref (s : St) : Array Value := #[.int .i64 s.term, .int .i64 s.now, .int .i64 s.token, .int .i64 s.til, .int .i64 s.ta, .int .i64 s.ti]
/-- The block holds the document's arbiter. -/
def Rf (B : Nat) (s : St) (w : World) : Prop := w.heap[B]? = some (.cells s.ref 66 (0, 0))
section
variable {B C : Nat} {s : St} {w w' : World}
theorem Rf.lt (h : Rf B s w) : B < w.heap.size := (Array.getElem?_eq_some_iff.1 h).1
theorem Rf.free (h : Rf B s w) (o : Nat) : w.frozen? ⟨B, o, none⟩ = false := frozen_of_row _ _ _ _ _ h
theorem Rf.kept (h : Rf B s w) (hb : Below w.heap.size w w') : Rf B s w' := (hb.block B h.lt).trans h
theorem Rf.other (h : Rf B s w) (hb : Keep C w w') (hC : B ≠ C) : Rf B s w' := (hb.block B h.lt hC).trans h
theorem Rf.reads (h : Rf B s w) :
    w.cell? ⟨B, 0, none⟩ = some (.int .i64 s.term) ∧ w.cell? ⟨B, 1, none⟩ = some (.int .i64 s.now) ∧ w.cell? ⟨B, 2, none⟩ = some (.int .i64 s.token) ∧ w.cell? ⟨B, 3, none⟩ = some (.int .i64 s.til) ∧
    w.cell? ⟨B, 4, none⟩ = some (.int .i64 s.ta) ∧ w.cell? ⟨B, 5, none⟩ = some (.int .i64 s.ti) := by
  refine ⟨?_, ?_, ?_, ?_, ?_, ?_⟩ <;> (rw [cell_of_row _ _ _ _ _ _ h]; rfl)
theorem Rf.set (h : Rf B s w) (o : Nat) (v : Value) (s' : St) (hs : s.ref.setIfInBounds o v = s'.ref) : Rf B s' (w.setCell ⟨B, o, none⟩ v) := by
  unfold Rf; rw [heap_setCell_same _ _ _ _ _ _ h, hs]
theorem Rf.drew (h : Rf B s w) : Rf B s w.drew := h
theorem Rf.drewN (h : Rf B s w) (n : Nat) : Rf B s (w.drewN n) := h
theorem Rf.alloc (h : Rf B s w) (o : Obj) : Rf B s (w.alloc o) := h.kept ((Below.refl _ _).alloc (Nat.le_refl _) _)
theorem Rf.setOther (h : Rf B s w) {p : Addr} (hp : p.block ≠ B) (u : Value) : Rf B s (w.setCell p u) := by
  unfold Rf; rw [Below.heap_setCell _ _ _ _ (Ne.symm hp)]; exact h
end
theorem rnew_yes (t : Int) (w : World) (h1 : 1 ≤ t) (h2 : t ≤ 4096) :
    Calls Try.prog 17 #[.int .i64 t] w fun e w' => e = .returned (.tuple #[.pointer (some ⟨w.heap.size, 0, none⟩), .int .i64 0]) ∧ Rf w.heap.size (.fresh t) w' ∧ Below w.heap.size w w' := by
  go_enter Try.func17, Try.ntmps17
  go_wp2
  go_ret2
  exact ⟨rfl, heap_alloc_new _ _, (Below.refl _ _).alloc (Nat.le_refl _) _⟩
theorem rnew_no (t : Int) (w : World) (h : t < 1 ∨ 4096 < t) :
    Calls Try.prog 17 #[.int .i64 t] w fun e w' => e = .returned (.tuple #[.pointer none, .int .i64 1]) ∧ w' = w := by
  have hd : t < 1 ∨ (¬ t < 1 ∧ 4096 < t) := by omega
  clear h
  rcases hd with h | ⟨h, h'⟩
  all_goals
    go_enter Try.func17, Try.ntmps17
    go_wp2
    go_ret2
    exact ⟨rfl, rfl⟩
theorem rtick_any (B : Nat) (s : St) (w : World) (h : Rf B s w) (ok : s.Ok) :
    Calls Try.prog 20 #[.pointer (some ⟨B, 0, none⟩)] w fun e w' => e = .returned (.tuple #[]) ∧ Rf B s.tick w' ∧ Keep B w w' := by
  obtain ⟨-, c1, -⟩ := h.reads
  have f1 := h.free 1
  have n1 := ok.n1
  have n2 := ok.n2
  have hA := h.set 1 (.int .i64 (s.now + 1)) s.tick rfl
  go_enter Try.func20, Try.ntmps20
  go_wp2
  go_end0
  exact ⟨rfl, hA, (Keep.refl B w).setCell (.inl rfl) _⟩
theorem rstart_any (B : Nat) (s : St) (w : World) (h : Rf B s w) :
    Calls Try.prog 21 #[.pointer (some ⟨B, 0, none⟩)] w fun e w' => e = .returned (.int .i64 0) ∧ Rf B s.start w' ∧ Keep B w w' := by
  obtain ⟨c0, c1, c2, c3, c4, c5⟩ := h.reads
  have f1 := h.free 1
  have f3 := h.free 3
  have f4 := h.free 4
  have f5 := h.free 5
  have hA : Rf B s.start ((((w.setCell ⟨B, 1, none⟩ (.int .i64 0)).setCell ⟨B, 3, none⟩ (.int .i64 0)).setCell ⟨B, 4, none⟩ (.int .i64 0)).setCell ⟨B, 5, none⟩ (.int .i64 0)) :=
    (((h.set 1 _ { s with now := 0 } rfl).set 3 _ { s with now := 0, til := 0 } rfl).set 4 _ { s with now := 0, til := 0, ta := 0 } rfl).set 5 _ s.start rfl
  have HA := Lib.hid hA
  clear hA
  go_enter Try.func21, Try.ntmps21
  go_wp2
  go_ret
  exact ⟨rfl, HA.out, ((((Keep.refl B w).setCell (.inl rfl) _).setCell (.inl rfl) _).setCell (.inl rfl) _).setCell (.inl rfl) _⟩
theorem rcopy_any (B : Nat) (s : St) (w : World) (h : Rf B s w) :
    Calls Try.prog 19 #[.pointer (some ⟨B, 0, none⟩)] w fun e w' => e = .returned (.pointer (some ⟨w.heap.size, 0, none⟩)) ∧ Rf w.heap.size s w' ∧ Below w.heap.size w w' := by
  have hlt := h.lt
  obtain ⟨c0, c1, c2, c3, c4, c5⟩ := h.reads
  go_enter Try.func19, Try.ntmps19
  go_wp2
  go_ret
  exact ⟨rfl, heap_alloc_new _ _, (Below.refl _ _).alloc (Nat.le_refl _) _⟩
set_option maxRecDepth 100000 in
set_option maxHeartbeats 400000 in
theorem rmay_any (a i : Int) (w : World) :
    Calls Try.prog 32 #[.agg #[.int .i64 a, .int .i64 i]] w fun e w' => e = .returned (.bool (mayB a i)) ∧ Below w.heap.size w w' := by
  go_enter Try.func32, Try.ntmps32
  go_wp2
  all_goals
    go_ret
    refine ⟨ret_b ?_, (Below.refl _ _).alloc (Nat.le_refl _) _⟩
    unfold mayB
    first
      | (simp [*]; done)
      | (symm; apply decide_eq_false; omega)
theorem held_any (B : Nat) (s : St) (w : World) (h : Rf B s w) :
    Calls Try.prog 33 #[.pointer (some ⟨B, 0, none⟩)] w fun e w' => e = .returned (.bool (decide (s.now < s.til))) ∧ ∃ n, w' = w.drewN n := by
  obtain ⟨-, c1, -, c3, -⟩ := h.reads
  go_enter Try.func33, Try.ntmps33
  go_wp2
  go_quiet (fail)
  go_wp2
  go_ret
  exact ⟨rfl, _, rfl⟩
set_option maxRecDepth 100000 in
set_option maxHeartbeats 1000000 in
theorem rholder_any (B : Nat) (s : St) (w : World) (h : Rf B s w) :
    Calls Try.prog 24 #[.pointer (some ⟨B, 0, none⟩)] w fun e w' => e = .returned (.tuple (if s.now < s.til then #[.agg #[.int .i64 s.ta, .int .i64 s.ti], .bool true] else #[.agg #[.int .i64 0, .int .i64 0], .bool false])) ∧ Below w.heap.size w w' := by
  have hlt := h.lt
  obtain ⟨-, -, -, -, c4, c5⟩ := h.reads
  by_cases hd : s.now < s.til
  · rw [if_pos hd]
    have HD := Lib.hid (show decide (s.now < s.til) = true by simpa using hd)
    clear hd
    go_enter Try.func24, Try.ntmps24
    go_wp2_with fail
    refine (held_any B s _ (h.alloc _)).mono ?_
    rintro e w1 ⟨rfl, n, rfl⟩
    rw [HD.out]
    go_wp2_with fail
    refine bodyPost_ret (v := .tuple #[.agg #[.int .i64 s.ta, .int .i64 s.ti], .bool true]) (by simp [results, Try.results24, go_sem]) rfl ⟨rfl, ?_⟩
    exact below_drewN ((Below.refl _ _).alloc (Nat.le_refl _) _) _
  · rw [if_neg hd]
    have HD := Lib.hid (show decide (s.now < s.til) = false by simpa using hd)
    clear hd
    go_enter Try.func24, Try.ntmps24
    go_wp2_with fail
    refine (held_any B s _ (h.alloc _)).mono ?_
    rintro e w1 ⟨rfl, n, rfl⟩
    rw [HD.out]
    go_wp2_with fail
    refine bodyPost_ret (v := .tuple #[.agg #[.int .i64 0, .int .i64 0], .bool false]) (by simp [results, Try.results24, go_sem]) rfl ⟨rfl, ?_⟩
    exact below_drewN ((Below.refl _ _).alloc (Nat.le_refl _) _) _
set_option maxRecDepth 100000 in
set_option maxHeartbeats 1000000 in
theorem same_any (f : Fr) (w : World) :
    Calls Try.prog 23 #[.agg f.cells, .agg f.cells] w fun e w' => e = .returned (.bool true) ∧ Below w.heap.size w w' := by
  obtain ⟨kind, fa, fi, ta, ti, n, token⟩ := f
  simp only [Fr.cells]
  go_enter Try.func23, Try.ntmps23
  go_wp2
  go_ret
  exact ⟨rfl, ((Below.refl _ _).alloc (Nat.le_refl _) _).alloc (by simp) _⟩
end Go.Proofs.Ytjjbfmaldhlenaa
