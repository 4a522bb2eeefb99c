/-
  The walk of a reader's list.
-/
import Derived.Test.YtimlenapeghknaaReads6
namespace Go.Proofs.Ytimlenapeghknaa
open Go.RowKit
set_option linter.unusedVariables false
set_option linter.unusedSimpArgs false
attribute [local go_sem ↓] Go.wp_at_zero Go.wp_at_succ
/-- What reading a list right leaves. -/
def IdsRight (R : Nat) (x : List Idn) (m : List UInt8) (w : World) (r : Ending) (w' : World) : Prop :=
  ∃ (oa : Option Addr) (cap : Nat), r = .returned (.tuple #[.slice oa x.length cap, .int .i64 0]) ∧ Row oa x w' ∧ Rd R m 0 w' ∧ Keep R w w'
def IdsWrong (R : Nat) (e : Int) (w : World) (r : Ending) (w' : World) : Prop :=
  ∃ (v : Value) (m : List UInt8) (e' : Int), r = .returned (.tuple #[v, .int .i64 e]) ∧ Rd R m e' w' ∧ Keep R w w'
section
variable {R Bp : Nat} {l : List UInt8} {w : World}
theorem ids29_any (h : Rd R l 0 w) (hp : w.cell? ⟨Bp, 0, none⟩ = some (.pointer (some ⟨R, 0, none⟩))) (hBp : Bp < w.heap.size) (hBR : Bp ≠ R) (hl : l.length ≤ 100000) :
    Calls Try.prog 29 #[.pointer (some ⟨Bp, 0, none⟩)] w (IdsOut R l w) := by
  rcases num_of l with ⟨e, hr, he⟩ | ⟨n, m, hr, -, -⟩
  · exact ids29_num e h hp hl hr (by omega)
  · by_cases hn : 64 < n
    · exact ids29_large n m h hp hl hr hn
    · exact ids29_loop n m h hp hBp hBR hl hr (by omega)
theorem ids29_right (x : List Idn) (m : List UInt8) (h : Rd R l 0 w) (hp : w.cell? ⟨Bp, 0, none⟩ = some (.pointer (some ⟨R, 0, none⟩))) (hBp : Bp < w.heap.size) (hBR : Bp ≠ R) (hl : l.length ≤ 100000) (hr : rl l = (x, 0, m)) :
    Calls Try.prog 29 #[.pointer (some ⟨Bp, 0, none⟩)] w (IdsRight R x m w) :=
  (ids29_any h hp hBp hBR hl).mono fun r w' ho => by
    rcases ho with ⟨x', m', oa, cap, h1, h2, h3, h4, h5⟩ | ⟨e, v, m', e', he, h1, -⟩
    · rw [hr] at h1
      simp only [Prod.mk.injEq, true_and] at h1
      obtain ⟨rfl, rfl⟩ := h1
      exact ⟨oa, cap, h2, h3, h4, h5⟩
    · rw [hr] at h1
      simp only [Prod.mk.injEq] at h1
      exact absurd h1.2.1.symm he
theorem ids29_wrong (e : Int) (h : Rd R l 0 w) (hp : w.cell? ⟨Bp, 0, none⟩ = some (.pointer (some ⟨R, 0, none⟩))) (hBp : Bp < w.heap.size) (hBR : Bp ≠ R) (hl : l.length ≤ 100000) (hr : rl l = ([], e, [])) (he : e ≠ 0) :
    Calls Try.prog 29 #[.pointer (some ⟨Bp, 0, none⟩)] w (IdsWrong R e w) :=
  (ids29_any h hp hBp hBR hl).mono fun r w' ho => by
    rcases ho with ⟨x', m', oa, cap, h1, h2, h3, h4, h5⟩ | ⟨e2, v, m', e', he2, h1, h2, h3, h4⟩
    · rw [hr] at h1
      simp only [Prod.mk.injEq] at h1
      exact absurd h1.2.1 he
    · rw [hr] at h1
      simp only [Prod.mk.injEq, true_and, and_true] at h1
      subst h1
      exact ⟨v, m', e', h2, h3, h4⟩
set_option maxRecDepth 100000 in
set_option maxHeartbeats 4000000 in
theorem read28_right (x : List Idn) (m : List UInt8) (h : Rd R l 0 w) (hp : w.cell? ⟨Bp, 0, none⟩ = some (.pointer (some ⟨R, 0, none⟩))) (hBp : Bp < w.heap.size) (hBR : Bp ≠ R) (hl : l.length ≤ 100000) (hr : rl l = (x, 0, m)) :
    Calls Try.prog 28 #[.pointer (some ⟨R, 0, none⟩), .func (.func 29) #[] #[.pointer (some ⟨Bp, 0, none⟩)]] w (IdsRight R x m w) := by
  have c1 := h.c1
  go_enter Try.func28, Try.ntmps28
  go_wp2_with fail
  refine (ids29_right x m h hp hBp hBR hl hr).mono ?_
  rintro r w1 ⟨oa, cap, rfl, h1, h2, hK⟩
  clear c1 hr
  go_wp2_with fail
  go_ret2
  exact ⟨oa, cap, rfl, h1, h2, hK⟩
set_option maxRecDepth 100000 in
set_option maxHeartbeats 4000000 in
theorem read28_wrong (e : Int) (h : Rd R l 0 w) (hp : w.cell? ⟨Bp, 0, none⟩ = some (.pointer (some ⟨R, 0, none⟩))) (hBp : Bp < w.heap.size) (hBR : Bp ≠ R) (hl : l.length ≤ 100000) (hr : rl l = ([], e, [])) (he : e ≠ 0) :
    Calls Try.prog 28 #[.pointer (some ⟨R, 0, none⟩), .func (.func 29) #[] #[.pointer (some ⟨Bp, 0, none⟩)]] w fun r w' => r = .returned (.tuple #[.slice none 0 0, .int .i64 e]) ∧ Rd R [] e w' ∧ Keep R w w' := by
  have c1 := h.c1
  have heb : (e != 0) = true := by simpa using he
  go_enter Try.func28, Try.ntmps28
  go_wp2_with fail
  refine (ids29_wrong e h hp hBp hBR hl hr he).mono ?_
  rintro r w1 ⟨v, m, e', rfl, h1, hK⟩
  have d0 := h1.c0
  have d1 := h1.c1
  have f0 := h1.free 0
  have f1 := h1.free 1
  clear c1 hr
  go_wp2_with fail
  go_ret2
  exact ⟨rfl, (h1.set0 []).set1 e, hK.two _ _⟩
set_option maxRecDepth 100000 in
set_option maxHeartbeats 4000000 in
theorem ids18_right (x : List Idn) (m : List UInt8) (h : Rd R l 0 w) (hl : l.length ≤ 100000) (hr : rl l = (x, 0, m)) :
    Calls Try.prog 18 #[.pointer (some ⟨R, 0, none⟩)] w (IdsRight R x m w) := by
  have hRl := h.lt
  go_enter Try.func18, Try.ntmps18
  go_wp2_with fail
  refine (read28_right x m (h.alloc _) (by simp) (by simp) (by omega) hl hr).mono ?_
  rintro r w1 ⟨oa, cap, rfl, h1, h2, hK⟩
  clear hr
  go_wp2_with fail
  go_ret2
  exact ⟨oa, cap, rfl, h1, h2, ((Keep.refl R w).alloc _).trans hK⟩
set_option maxRecDepth 100000 in
set_option maxHeartbeats 4000000 in
theorem ids18_wrong (e : Int) (h : Rd R l 0 w) (hl : l.length ≤ 100000) (hr : rl l = ([], e, [])) (he : e ≠ 0) :
    Calls Try.prog 18 #[.pointer (some ⟨R, 0, none⟩)] w fun r w' => r = .returned (.tuple #[.slice none 0 0, .int .i64 e]) ∧ Rd R [] e w' ∧ Keep R w w' := by
  have hRl := h.lt
  go_enter Try.func18, Try.ntmps18
  go_wp2_with fail
  refine (read28_wrong e (h.alloc _) (by simp) (by simp) (by omega) hl hr he).mono ?_
  rintro r w1 ⟨rfl, h1, hK⟩
  clear hr
  go_wp2_with fail
  go_ret2
  exact ⟨rfl, h1, ((Keep.refl R w).alloc _).trans hK⟩
end
end Go.Proofs.Ytimlenapeghknaa
