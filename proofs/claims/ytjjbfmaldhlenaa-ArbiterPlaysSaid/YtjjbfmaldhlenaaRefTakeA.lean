/-
  The document's Take.
-/
import Derived.Test.YtjjbfmaldhlenaaRefW
import Derived.Deep.CutBlock
import Derived.Deep.DeepCutAuto
namespace Go.Proofs.Ytjjbfmaldhlenaa
open Go.RowKit
set_option linter.unusedVariables false
set_option linter.unusedSimpArgs false
attribute [local go_sem ↓] Go.wp_at_zero Go.wp_at_succ
theorem rmay_exact (a i : Int) (w : World) :
    Calls Try.prog 32 #[.agg #[.int .i64 a, .int .i64 i]] w fun e w' => e = .returned (.bool (mayB a i)) ∧ w' = w.alloc (.cells #[.int .i64 a, .int .i64 i] 39) := by
  go_enter Try.func32, Try.ntmps32
  go_wp2
  all_goals
    go_ret
    refine ⟨ret_b ?_, rfl⟩
    unfold mayB
    first
      | (simp [*]; done)
      | (symm; apply decide_eq_false; omega)
theorem held_no (B : Nat) (s : St) (w : World) (h : Rf B s w) (hd : decide (s.now < s.til) = false) : Calls Try.prog 33 #[.pointer (some ⟨B, 0, none⟩)] w fun e w' => e = .returned (.bool false) ∧ ∃ n, w' = w.drewN n := by
  rw [← hd]; exact held_any B s w h
theorem held_yes (B : Nat) (s : St) (w : World) (h : Rf B s w) (hd : decide (s.now < s.til) = true) : Calls Try.prog 33 #[.pointer (some ⟨B, 0, none⟩)] w fun e w' => e = .returned (.bool true) ∧ ∃ n, w' = w.drewN n := by
  rw [← hd]; exact held_any B s w h
set_option maxRecDepth 100000 in
set_option maxHeartbeats 4000000 in
theorem rtake_no (B : Nat) (s : St) (f : Fr) (w : World) (h : Rf B s w) (ok : s.Ok) (hm : mayB f.fa f.fi = false) :
    Calls Try.prog 22 #[.pointer (some ⟨B, 0, none⟩), f.val] w fun e w' => e = .returned (s.take f).val ∧ Rf B (s.take f).st w' ∧ Keep B w w' := by
  have hlt := h.lt
  have hlt1 : B < w.heap.size + 1 := by omega
  have hlt2 : B < w.heap.size + 1 + 1 := by omega
  have hlt3 : B < w.heap.size + 1 + 1 + 1 := by omega
  have hlt4 : B < w.heap.size + 1 + 1 + 1 + 1 := by omega
  have hlt5 : B < w.heap.size + 1 + 1 + 1 + 1 + 1 := by omega
  obtain ⟨c0, c1, c2, c3, c4, c5⟩ := h.reads
  have f2 := h.free 2
  have f3 := h.free 3
  have f4 := h.free 4
  have f5 := h.free 5
  obtain ⟨t1, t2, n1, n2, k1, k2⟩ := id ok
  obtain ⟨kind, fa, fi, ta, ti, n, token⟩ := f
  simp only [Fr.val, Fr.cells]
  simp only at hm
  have HT := Lib.hid (show s.take ⟨kind, fa, fi, ta, ti, n, token⟩ = s.nothing by simp [St.take, hm])
  go_enter Try.func22, Try.ntmps22
  go_wp2_with fail
  refine (rmay_exact fa fi _).mono ?_
  rintro e w1 ⟨rfl, rfl⟩
  rw [hm]
  go_wp2_with fail
  refine bodyPost_ret (v := .tuple #[.agg #[.int .u8 0, .int .i64 0, .int .i64 0, .int .i64 0, .int .i64 0, .int .i64 0, .int .i64 0, .int .i64 0, .int .i64 0, .slice none 0 0, .slice none 0 0, .slice none 0 0, .slice none 0 0, .slice none 0 0], .bool false, .int .i64 0]) (by simp [results, Try.results22, go_sem]) rfl ?_
  rw [HT.out]
  exact ⟨rfl, (((h.alloc _).alloc _).alloc _), ((((Keep.refl B w).alloc _).alloc _).alloc _)⟩
end Go.Proofs.Ytjjbfmaldhlenaa
