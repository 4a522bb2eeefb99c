/-
  The walk of what compares frames that bear no view.
-/
import Derived.Test.YtjdhdmljchnidaaWalks2
namespace Go.Proofs.Ytjdhdmljchnidaa
open Go.RowKit
set_option linter.unusedVariables false
set_option linter.unusedSimpArgs false
attribute [local go_sem ↓] Go.wp_at_zero Go.wp_at_succ
theorem ms_nil_same (w : World) : Calls Try.prog 43 #[.slice none 0 0, .slice none 0 0] w fun e w' => e = .returned (.bool true) ∧ w' = w := by
  go_enter Try.func43, Try.ntmps43
  go_wp2_with fail
  go_loopw [5] (fun i wr => i = .int .i64 0 ∧ wr = w) (fun i _ => 0)
  case atStart => exact ⟨rfl, rfl⟩
  case round =>
    obtain ⟨rfl, rfl⟩ := hrel
    go_wp2_with fail
    go_ret
    exact ⟨rfl, rfl⟩
theorem ids_nil_same (w : World) : Calls Try.prog 44 #[.slice none 0 0, .slice none 0 0] w fun e w' => e = .returned (.bool true) ∧ w' = w := by
  go_enter Try.func44, Try.ntmps44
  go_wp2_with fail
  go_loopw [5] (fun i wr => i = .int .i64 0 ∧ wr = w) (fun i _ => 0)
  case atStart => exact ⟨rfl, rfl⟩
  case round =>
    obtain ⟨rfl, rfl⟩ := hrel
    go_wp2_with fail
    go_ret
    exact ⟨rfl, rfl⟩
theorem ts_nil_same (w : World) : Calls Try.prog 45 #[.slice none 0 0, .slice none 0 0] w fun e w' => e = .returned (.bool true) ∧ w' = w := by
  go_enter Try.func45, Try.ntmps45
  go_wp2_with fail
  go_loopw [5] (fun i wr => i = .int .i64 0 ∧ wr = w) (fun i _ => 0)
  case atStart => exact ⟨rfl, rfl⟩
  case round =>
    obtain ⟨rfl, rfl⟩ := hrel
    go_wp2_with fail
    go_ret
    exact ⟨rfl, rfl⟩
set_option maxRecDepth 100000 in
set_option maxHeartbeats 1000000 in
theorem views_nil_same (w : World) : Calls Try.prog 42 #[.agg #[.slice none 0 0, .slice none 0 0, .slice none 0 0, .slice none 0 0, .slice none 0 0], .agg #[.slice none 0 0, .slice none 0 0, .slice none 0 0, .slice none 0 0, .slice none 0 0]] w fun e w' => e = .returned (.bool true) ∧ Below w.heap.size w w' := by
  have hb : Below w.heap.size w ((w.alloc (.cells #[.slice none 0 0, .slice none 0 0, .slice none 0 0, .slice none 0 0, .slice none 0 0] 36)).alloc (.cells #[.slice none 0 0, .slice none 0 0, .slice none 0 0, .slice none 0 0, .slice none 0 0] 36)) := ((Below.refl _ _).alloc (Nat.le_refl _) _).alloc (by simp) _
  go_enter Try.func42, Try.ntmps42
  go_wp2_with (first
    | (go_at_call 43; (with_reducible refine (ms_nil_same _).mono ?_); rintro e w1 ⟨rfl, rfl⟩)
    | (go_at_call 44; (with_reducible refine (ids_nil_same _).mono ?_); rintro e w1 ⟨rfl, rfl⟩)
    | (go_at_call 45; (with_reducible refine (ts_nil_same _).mono ?_); rintro e w1 ⟨rfl, rfl⟩)
    | fail)
  go_loopw [5] (fun i wr => i = .int .i64 0 ∧ wr = (w.alloc (.cells #[.slice none 0 0, .slice none 0 0, .slice none 0 0, .slice none 0 0, .slice none 0 0] 36)).alloc (.cells #[.slice none 0 0, .slice none 0 0, .slice none 0 0, .slice none 0 0, .slice none 0 0] 36)) (fun i _ => 0)
  case atStart => exact ⟨rfl, rfl⟩
  case round =>
    obtain ⟨rfl, rfl⟩ := hrel
    go_wp2_with fail
    go_ret
    exact ⟨rfl, hb⟩
set_option maxRecDepth 100000 in
set_option maxHeartbeats 1000000 in
theorem same_lit (k fa fi ta ti fn tk ba bi : Int) (w : World) : Calls Try.prog 35 #[.agg #[.int .u8 k, .int .i64 fa, .int .i64 fi, .int .i64 ta, .int .i64 ti, .int .i64 fn, .int .i64 tk, .int .i64 ba, .int .i64 bi, .slice none 0 0, .slice none 0 0, .slice none 0 0, .slice none 0 0, .slice none 0 0], .agg #[.int .u8 k, .int .i64 fa, .int .i64 fi, .int .i64 ta, .int .i64 ti, .int .i64 fn, .int .i64 tk, .int .i64 ba, .int .i64 bi, .slice none 0 0, .slice none 0 0, .slice none 0 0, .slice none 0 0, .slice none 0 0]] w fun e w' => e = .returned (.bool true) ∧ Below w.heap.size w w' := by
  have hb : Below w.heap.size w ((w.alloc (.cells #[.int .u8 k, .int .i64 fa, .int .i64 fi, .int .i64 ta, .int .i64 ti, .int .i64 fn, .int .i64 tk, .int .i64 ba, .int .i64 bi, .slice none 0 0, .slice none 0 0, .slice none 0 0, .slice none 0 0, .slice none 0 0] 38)).alloc (.cells #[.int .u8 k, .int .i64 fa, .int .i64 fi, .int .i64 ta, .int .i64 ti, .int .i64 fn, .int .i64 tk, .int .i64 ba, .int .i64 bi, .slice none 0 0, .slice none 0 0, .slice none 0 0, .slice none 0 0, .slice none 0 0] 38)) := ((Below.refl _ _).alloc (Nat.le_refl _) _).alloc (by simp) _
  go_enter Try.func35, Try.ntmps35
  go_wp2_with fail
  refine (views_nil_same _).mono ?_
  rintro e w1 ⟨rfl, hb1⟩
  go_wp2_with fail
  go_ret
  exact ⟨rfl, hb.trans (hb1.mono (by simp; omega))⟩
set_option maxRecDepth 100000 in
set_option maxHeartbeats 1000000 in
theorem same2_lit (k fa fi ta ti fn tk ba bi : Int) (w : World) : Calls Try.prog 19 #[.agg #[.int .u8 k, .int .i64 fa, .int .i64 fi, .int .i64 ta, .int .i64 ti, .int .i64 fn, .int .i64 tk, .int .i64 ba, .int .i64 bi, .slice none 0 0, .slice none 0 0, .slice none 0 0, .slice none 0 0, .slice none 0 0], .agg #[.int .u8 k, .int .i64 fa, .int .i64 fi, .int .i64 ta, .int .i64 ti, .int .i64 fn, .int .i64 tk, .int .i64 ba, .int .i64 bi, .slice none 0 0, .slice none 0 0, .slice none 0 0, .slice none 0 0, .slice none 0 0]] w fun e w' => e = .returned (.bool true) ∧ Below w.heap.size w w' := by
  have hb : Below w.heap.size w ((w.alloc (.cells #[.int .u8 k, .int .i64 fa, .int .i64 fi, .int .i64 ta, .int .i64 ti, .int .i64 fn, .int .i64 tk, .int .i64 ba, .int .i64 bi, .slice none 0 0, .slice none 0 0, .slice none 0 0, .slice none 0 0, .slice none 0 0] 38)).alloc (.cells #[.int .u8 k, .int .i64 fa, .int .i64 fi, .int .i64 ta, .int .i64 ti, .int .i64 fn, .int .i64 tk, .int .i64 ba, .int .i64 bi, .slice none 0 0, .slice none 0 0, .slice none 0 0, .slice none 0 0, .slice none 0 0] 38)) := ((Below.refl _ _).alloc (Nat.le_refl _) _).alloc (by simp) _
  go_enter Try.func19, Try.ntmps19
  go_wp2_with fail
  refine (same_lit k fa fi ta ti fn tk ba bi _).mono ?_
  rintro e w1 ⟨rfl, hb1⟩
  go_wp2_with fail
  go_ret
  exact ⟨rfl, hb.trans (hb1.mono (by simp; omega))⟩
theorem same_bare (f : Fr) (hf : f.Bare) (w : World) : Calls Try.prog 19 #[f.val, f.val] w fun e w' => e = .returned (.bool true) ∧ Below w.heap.size w w' := by
  obtain ⟨k, fa, fi, ta, ti, n, tk, ba, bi, ms, fs, rs, cs, ss⟩ := f
  obtain ⟨h1, h2, h3, h4, h5⟩ := hf
  simp only at h1 h2 h3 h4 h5
  subst h1 h2 h3 h4 h5
  exact same2_lit k fa fi ta ti n tk ba bi w
end Go.Proofs.Ytjdhdmljchnidaa
