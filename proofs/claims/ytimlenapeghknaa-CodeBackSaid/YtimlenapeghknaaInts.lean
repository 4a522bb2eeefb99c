/-
  Numbers that come in; the end of a reader.
-/
import Derived.Test.YtimlenapeghknaaAnew
namespace Go.Proofs.Ytimlenapeghknaa
open Go.RowKit Go.ChangeShapes Go.WideShapes Go.Deep
set_option linter.unusedVariables false
set_option linter.unusedSimpArgs false
attribute [local go_sem ↓] Go.wp_at_zero Go.wp_at_succ
/-- A slice that holds just these numbers. -/
def IntsHold (w : World) (v : Value) (l : List Int) : Prop :=
  ∃ (oa : Option Addr) (cap : Nat), v = .slice oa l.length cap ∧ ∀ k (hk : k < l.length), ∃ b off, oa = some ⟨b, off, none⟩ ∧ b < w.heap.size ∧ w.cell? ⟨b, off + k, none⟩ = some (.int .i64 l[k])
section
variable {H : Type} {enc : TypeId × Value → H} {w : World} {base : Nat} {held : Bool}
theorem ints_open {base' : Nat} {v : Value} {d : DataW H} {ps : List MemPlace} (h : DataW.Trod enc Try.prog w base (fun _ => true) held 46 v d ps) (hv : Value.okWide Try.prog w .any base' 46 v) : ∃ l : List Int, IntsHold w v l := by
  obtain ⟨oa, len, cap, rfl⟩ := okWide_slice Try.underlying46 hv
  obtain ⟨fuel, hf⟩ := h
  rcases open_ints Try.underlying46 Try.underlying3 (by kernel_rfl) hf with ⟨hcs, -⟩ | ⟨a, len', cap', zs, hcs, -, hl, hm, hzl, -, hc, -⟩
  · simp only [Value.cells, List.cons.injEq, Value.slice.injEq, and_true] at hcs
    obtain ⟨rfl, rfl, rfl⟩ := hcs
    exact ⟨[], none, 0, rfl, fun k hk => by simp at hk⟩
  · simp only [Value.cells, List.cons.injEq, Value.slice.injEq, and_true] at hcs
    obtain ⟨rfl, rfl, rfl⟩ := hcs
    simp only [if_true] at hzl
    have hlen : (zs.take len).length = len := by rw [List.length_take]; omega
    refine ⟨zs.take len, some a, cap, by rw [hlen], fun k hk => ?_⟩
    rw [hlen] at hk
    have hq := hc k (by omega)
    have hsp : a.spot = none := by
      have h0 := hc 0 (by omega)
      have e0 : a.add 0 = a := by simp [Addr.add]
      rw [e0] at h0
      cases hsp : a.spot with
      | none => rfl
      | some x =>
        exfalso
        simp only [World.cell?, hsp] at h0
        split at h0 <;> simp at h0
    rw [add_none hsp] at hq
    refine ⟨a.block, a.off, by cases a; simp_all, World.block_lt_of_cell? w ⟨a.block, a.off + k, none⟩ hq, ?_⟩
    rw [hq]
    simp [List.getD_eq_getElem?_getD, show k < zs.length by omega]
end
/-! ### The end -/
def endE (l : List UInt8) : Int := if l = [] then 0 else 4
theorem end32 (R Bp : Nat) (l : List UInt8) (e : Int) (w : World) (h : Rd R l e w) (hp : w.cell? ⟨Bp, 0, none⟩ = some (.pointer (some ⟨R, 0, none⟩))) :
    Calls Try.prog 32 #[.pointer (some ⟨Bp, 0, none⟩)] w fun r w' => r = .returned (.tuple #[.int .i64 0, .int .i64 (endE l)]) ∧ w = w' := by
  have c0 := h.c0
  by_cases hl : l = []
  · subst hl
    go_enter Try.func32, Try.ntmps32
    go_wp2_with fail
    go_ret2
    exact ⟨rfl, rfl⟩
  · have hl2 : l.isEmpty = false := by simpa using hl
    have HL := Lib.hid hl
    clear hl
    rw [show endE l = 4 from if_neg HL.out]
    go_enter Try.func32, Try.ntmps32
    go_wp2_with fail
    go_ret2
    exact ⟨rfl, rfl⟩
set_option maxRecDepth 100000 in
set_option maxHeartbeats 4000000 in
theorem read26_end (R Bp : Nat) (l : List UInt8) (w : World) (h : Rd R l 0 w) (hp : w.cell? ⟨Bp, 0, none⟩ = some (.pointer (some ⟨R, 0, none⟩))) :
    Calls Try.prog 26 #[.pointer (some ⟨R, 0, none⟩), .func (.func 32) #[] #[.pointer (some ⟨Bp, 0, none⟩)]] w fun r w' => r = .returned (.tuple #[.int .i64 0, .int .i64 (endE l)]) ∧ Keep R w w' := by
  have c0 := h.c0
  have c1 := h.c1
  have f0 := h.free 0
  have f1 := h.free 1
  by_cases hl : l = []
  · have HL : Hid (endE l = 0) := Lib.hid (if_pos hl)
    clear hl
    go_enter Try.func26, Try.ntmps26
    go_wp2_with fail
    refine (end32 R Bp l 0 w h hp).mono ?_
    rintro r w1 ⟨rfl, rfl⟩
    rw [HL.out]
    go_wp2_with fail
    go_ret2
    exact ⟨congrArg (fun z => Ending.returned (.tuple #[.int .i64 0, .int .i64 z])) HL.out.symm, Keep.refl _ _⟩
  · have HL : Hid (endE l = 4) := Lib.hid (if_neg hl)
    clear hl
    go_enter Try.func26, Try.ntmps26
    go_wp2_with fail
    refine (end32 R Bp l 0 w h hp).mono ?_
    rintro r w1 ⟨rfl, rfl⟩
    rw [HL.out]
    go_wp2_with fail
    go_ret2
    exact ⟨congrArg (fun z => Ending.returned (.tuple #[.int .i64 0, .int .i64 z])) HL.out.symm, (Keep.refl R w).two _ _⟩
set_option maxRecDepth 100000 in
set_option maxHeartbeats 4000000 in
theorem end21 (R : Nat) (l : List UInt8) (w : World) (h : Rd R l 0 w) :
    Calls Try.prog 21 #[.pointer (some ⟨R, 0, none⟩)] w fun r w' => r = .returned (.int .i64 (endE l)) ∧ Keep R w w' := by
  go_enter Try.func21, Try.ntmps21
  go_wp2_with fail
  refine (read26_end R w.heap.size l _ (h.alloc _) (by simp)).mono ?_
  rintro r w1 ⟨rfl, hK⟩
  go_wp2_with fail
  go_ret
  exact ⟨rfl, ((Keep.refl R w).alloc _).trans hK⟩
end Go.Proofs.Ytimlenapeghknaa
