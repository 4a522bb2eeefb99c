/-
  At, Give, Lose, Twice, Bend, Copy.
-/
import Derived.Test.YtialfpmfiapepaaBends
namespace Go.Proofs.Ytialfpmfiapepaa
open Go.RowKit
set_option linter.unusedVariables false
set_option linter.unusedSimpArgs false
attribute [local go_sem ↓] Go.wp_at_zero Go.wp_at_succ
theorem two_new (w : World) (a b : Obj) : ((w.alloc a).alloc b).heap[w.heap.size]? = some a ∧ ((w.alloc a).alloc b).heap[w.heap.size + 1]? = some b := by
  constructor
  · rw [Below.heap_alloc _ _ _ (by simp)]; exact heap_alloc_new _ _
  · rw [show w.heap.size + 1 = (w.alloc a).heap.size by simp]; exact heap_alloc_new _ _
theorem not_has {n : N} {k : Int} (hk : n.has k = false) : n.get k = .zero := by unfold N.get; rw [hk]; rfl
set_option maxRecDepth 100000 in
set_option maxHeartbeats 1000000 in
theorem at_any (P B : Nat) (v : Value) (n : N) (k : Int) (w : World) (h : Nt P B v n w) :
    Calls Try.prog 15 #[.pointer (some ⟨B, 0, none⟩), .int .i64 k] w fun e w' => e = .returned (.tuple #[.string (n.get k).s, .int .i64 (n.get k).to, .bool (n.has k)]) ∧ Below w.heap.size w w' := by
  have hlt := h.lt
  obtain ⟨hq, hr⟩ := two_new w (.cells #[.string ⟨#[]⟩] 9) (.cells #[.int .i64 0] 3)
  cases hk : n.has k
  · have HG := Lib.hid (not_has hk)
    have HH := Lib.hid h
    clear h hq hr
    go_enter Try.func15, Try.ntmps15
    go_wp2_with fail
    refine (at_out P B v n k _ _ ((HH.out.alloc _).alloc _) hk).mono ?_
    rintro e w1 ⟨rfl, rfl⟩
    clear hk
    go_wp2_with fail
    go_region
    all_goals
      go_wp2_with fail
      refine bodyPost_ret (v := .tuple #[.string ⟨#[]⟩, .int .i64 0, .bool false]) (by simp [results, Try.results15, go_sem]) rfl ?_
      rw [HG.out]
      exact ⟨rfl, (((Below.refl _ _).alloc (Nat.le_refl _) _).alloc (by simp) _).drew⟩
  · have HH := Lib.hid h
    have hv := h.vlt
    have HQ := Lib.hid (And.intro hq hr)
    clear h hq hr
    go_enter Try.func15, Try.ntmps15
    go_wp2_with fail
    refine (at_at P B v n k w.heap.size w.heap.size (w.heap.size + 1) _ _ _ ((HH.out.alloc _).alloc _) hk hlt (fun g hg => (hv g hg).2) HQ.out.1 HQ.out.2 (Nat.le_refl _) (by omega) (by omega)).mono ?_
    rintro e w1 ⟨rfl, hQ, hR, hs, hb⟩
    have hbW : Below w.heap.size w w1 := (((Below.refl _ _).alloc (Nat.le_refl _) _).alloc (by simp) _).trans hb
    have q0 : w1.cell? ⟨w.heap.size, 0, none⟩ = some (.string (n.get k).s) := by rw [cell_of_row _ _ _ _ _ _ hQ]; rfl
    have r0 : w1.cell? ⟨w.heap.size + 1, 0, none⟩ = some (.int .i64 (n.get k).to) := by rw [cell_of_row _ _ _ _ _ _ hR]; rfl
    have fq : w1.frozen? ⟨w.heap.size, 0, none⟩ = false := frozen_of_row _ _ _ _ _ hQ
    have fr : w1.frozen? ⟨w.heap.size + 1, 0, none⟩ = false := frozen_of_row _ _ _ _ _ hR
    have HB := Lib.hid hbW
    clear hQ hR hb hbW hk hv
    obtain ⟨gs, hgs⟩ : ∃ gs, gs = (n.get k).s := ⟨_, rfl⟩
    obtain ⟨gt, hgt⟩ : ∃ gt, gt = (n.get k).to := ⟨_, rfl⟩
    rw [← hgs] at q0
    rw [← hgt] at r0
    have HG := Lib.hid (And.intro hgs hgt)
    clear hgs hgt
    go_wp2_with fail
    go_region
    all_goals
      go_wp2_with fail
      refine bodyPost_ret (v := .tuple #[.string gs, .int .i64 gt, .bool true]) (by simp [results, Try.results15, go_sem, q0, r0]) rfl ?_
      rw [← HG.out.1, ← HG.out.2]
      refine ⟨rfl, ?_⟩
      first
        | exact ((HB.out.setCell (p := ⟨w.heap.size, 0, none⟩) (Nat.le_refl _) _).setCell (p := ⟨w.heap.size + 1, 0, none⟩) (by show _ ≤ w.heap.size + 1; omega) _).drew
        | exact ((HB.out.setCell (p := ⟨w.heap.size + 1, 0, none⟩) (by show _ ≤ w.heap.size + 1; omega) _).setCell (p := ⟨w.heap.size, 0, none⟩) (Nat.le_refl _) _).drew
theorem at_of_nil (k : Int) (w : World) : Calls Try.prog 15 #[.pointer none, .int .i64 k] w fun e w' => e = .returned (.tuple #[.string ⟨#[]⟩, .int .i64 0, .bool false]) ∧ Below w.heap.size w w' := by
  go_enter Try.func15, Try.ntmps15
  go_wp2_with fail
  refine (at_nil k _ _).mono ?_
  rintro e w1 ⟨rfl, rfl⟩
  go_wp2_with fail
  go_region
  all_goals
    go_wp2_with fail
    refine bodyPost_ret (v := .tuple #[.string ⟨#[]⟩, .int .i64 0, .bool false]) (by simp [results, Try.results15, go_sem]) rfl ?_
    exact ⟨rfl, (((Below.refl _ _).alloc (Nat.le_refl _) _).alloc (by simp) _).drew⟩
end Go.Proofs.Ytialfpmfiapepaa
