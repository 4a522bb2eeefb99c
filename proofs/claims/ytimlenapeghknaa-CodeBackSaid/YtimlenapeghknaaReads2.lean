/-
  The walks of a reader of numbers.
-/
import Derived.Test.YtimlenapeghknaaReads1
namespace Go.Proofs.Ytimlenapeghknaa
open Go.RowKit
set_option linter.unusedVariables false
set_option linter.unusedSimpArgs false
attribute [local go_sem ↓] Go.wp_at_zero Go.wp_at_succ
theorem num27_wrong (R Bp : Nat) (l : List UInt8) (e : Int) (w : World) (h : Rd R l 0 w) (hp : w.cell? ⟨Bp, 0, none⟩ = some (.pointer (some ⟨R, 0, none⟩))) (hl : l.length ≤ 100000) (hr : rn l = (0, e, [])) (he : e ≠ 0) :
    Calls Try.prog 27 #[.pointer (some ⟨Bp, 0, none⟩)] w fun r w' => r = .returned (.tuple #[.int .i64 0, .int .i64 e]) ∧ Rd R l 0 w' ∧ Keep R w w' :=
  (num27 R Bp l w h hp hl).mono fun r w' ⟨h1, h2, h3⟩ => by
    rw [hr] at h1 h2
    rw [if_neg he] at h2
    exact ⟨h1, h2, h3⟩
theorem num27_right (R Bp : Nat) (l m : List UInt8) (n : Nat) (w : World) (h : Rd R l 0 w) (hp : w.cell? ⟨Bp, 0, none⟩ = some (.pointer (some ⟨R, 0, none⟩))) (hl : l.length ≤ 100000) (hr : rn l = (n, 0, m)) :
    Calls Try.prog 27 #[.pointer (some ⟨Bp, 0, none⟩)] w fun r w' => r = .returned (.tuple #[.int .i64 n, .int .i64 0]) ∧ Rd R m 0 w' ∧ Keep R w w' :=
  (num27 R Bp l w h hp hl).mono fun r w' ⟨h1, h2, h3⟩ => by
    rw [hr] at h1 h2
    exact ⟨h1, h2, h3⟩
theorem Rd.end_ {R : Nat} {l : List UInt8} {e : Int} {w : World} (h : Rd R l 0 w) : Rd R [] e ((w.setCell ⟨R, 0, none⟩ (.string ⟨#[]⟩)).setCell ⟨R, 1, none⟩ (.int .i64 e)) := (h.set0 []).set1 e
theorem Keep.two {R : Nat} {w w' : World} (h : Keep R w w') (u v : Value) : Keep R w ((w'.setCell ⟨R, 0, none⟩ u).setCell ⟨R, 1, none⟩ v) := (h.setCell (p := ⟨R, 0, none⟩) (.inl rfl) u).setCell (p := ⟨R, 1, none⟩) (.inl rfl) v
set_option maxRecDepth 100000 in
set_option maxHeartbeats 4000000 in
theorem read26_wrong (R Bp : Nat) (l : List UInt8) (e : Int) (w : World) (h : Rd R l 0 w) (hp : w.cell? ⟨Bp, 0, none⟩ = some (.pointer (some ⟨R, 0, none⟩))) (hl : l.length ≤ 100000) (hr : rn l = (0, e, [])) (he : e ≠ 0) :
    Calls Try.prog 26 #[.pointer (some ⟨R, 0, none⟩), .func (.func 27) #[] #[.pointer (some ⟨Bp, 0, none⟩)]] w fun r w' => r = .returned (.tuple #[.int .i64 0, .int .i64 e]) ∧ Rd R [] e w' ∧ Keep R w w' := by
  have c1 := h.c1
  have heb : (e != 0) = true := by simpa using he
  go_enter Try.func26, Try.ntmps26
  go_wp2_with fail
  refine (num27_wrong R Bp l e w h hp hl hr he).mono ?_
  rintro r w1 ⟨rfl, h1, hK⟩
  have d0 := h1.c0
  have d1 := h1.c1
  have f0 := h1.free 0
  have f1 := h1.free 1
  clear c1 hr
  go_wp2_with fail
  go_ret2
  exact ⟨rfl, h1.end_, hK.two _ _⟩
set_option maxRecDepth 100000 in
set_option maxHeartbeats 4000000 in
theorem read26_right (R Bp : Nat) (l m : List UInt8) (n : Nat) (w : World) (h : Rd R l 0 w) (hp : w.cell? ⟨Bp, 0, none⟩ = some (.pointer (some ⟨R, 0, none⟩))) (hl : l.length ≤ 100000) (hr : rn l = (n, 0, m)) :
    Calls Try.prog 26 #[.pointer (some ⟨R, 0, none⟩), .func (.func 27) #[] #[.pointer (some ⟨Bp, 0, none⟩)]] w fun r w' => r = .returned (.tuple #[.int .i64 n, .int .i64 0]) ∧ Rd R m 0 w' ∧ Keep R w w' := by
  have c1 := h.c1
  go_enter Try.func26, Try.ntmps26
  go_wp2_with fail
  refine (num27_right R Bp l m n w h hp hl hr).mono ?_
  rintro r w1 ⟨rfl, h1, hK⟩
  clear c1 hr
  go_wp2_with fail
  go_ret2
  exact ⟨rfl, h1, hK⟩
set_option maxRecDepth 100000 in
set_option maxHeartbeats 4000000 in
theorem num17_wrong (R : Nat) (l : List UInt8) (e : Int) (w : World) (h : Rd R l 0 w) (hl : l.length ≤ 100000) (hr : rn l = (0, e, [])) (he : e ≠ 0) :
    Calls Try.prog 17 #[.pointer (some ⟨R, 0, none⟩)] w fun r w' => r = .returned (.tuple #[.int .i64 0, .int .i64 e]) ∧ Rd R [] e w' ∧ Keep R w w' := by
  go_enter Try.func17, Try.ntmps17
  go_wp2_with fail
  refine (read26_wrong R w.heap.size l e _ (h.alloc _) (by simp) hl hr he).mono ?_
  rintro r w1 ⟨rfl, h1, hK⟩
  clear hr
  go_wp2_with fail
  go_ret2
  exact ⟨rfl, h1, ((Keep.refl R w).alloc _).trans hK⟩
set_option maxRecDepth 100000 in
set_option maxHeartbeats 4000000 in
theorem num17_right (R : Nat) (l m : List UInt8) (n : Nat) (w : World) (h : Rd R l 0 w) (hl : l.length ≤ 100000) (hr : rn l = (n, 0, m)) :
    Calls Try.prog 17 #[.pointer (some ⟨R, 0, none⟩)] w fun r w' => r = .returned (.tuple #[.int .i64 n, .int .i64 0]) ∧ Rd R m 0 w' ∧ Keep R w w' := by
  go_enter Try.func17, Try.ntmps17
  go_wp2_with fail
  refine (read26_right R w.heap.size l m n _ (h.alloc _) (by simp) hl hr).mono ?_
  rintro r w1 ⟨rfl, h1, hK⟩
  clear hr
  go_wp2_with fail
  go_ret2
  exact ⟨rfl, h1, ((Keep.refl R w).alloc _).trans hK⟩
end Go.Proofs.Ytimlenapeghknaa
