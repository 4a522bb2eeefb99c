/-
  The walks of what tells whether IDs may be, and rise.
-/
import Derived.Test.YtimlenapeghknaaWalks1
namespace Go.Proofs.Ytimlenapeghknaa
open Go.RowKit
set_option linter.unusedVariables false
set_option linter.unusedSimpArgs false
attribute [local go_sem ↓] Go.wp_at_zero Go.wp_at_succ
theorem ret_b {a b : Bool} (h : a = b) : Ending.returned (.bool a) = .returned (.bool b) := by rw [h]
set_option maxRecDepth 100000 in
set_option maxHeartbeats 400000 in
theorem may22 (a i : Int) (w : World) :
    Calls Try.prog 22 #[.agg #[.int .i64 a, .int .i64 i]] w fun e w' => e = .returned (.bool (mayB a i)) ∧ Below w.heap.size w w' := by
  go_enter Try.func22, Try.ntmps22
  go_wp2
  all_goals
    go_ret
    refine ⟨ret_b ?_, (Below.refl _ _).alloc (Nat.le_refl _) _⟩
    simp only [mayB, Bool.decide_and]
    first | (simp [*]; done) | (simp; omega)
set_option maxRecDepth 100000 in
set_option maxHeartbeats 400000 in
theorem may23 (a i : Int) (w : World) :
    Calls Try.prog 23 #[.agg #[.int .i64 a, .int .i64 i]] w fun e w' => e = .returned (.bool (mayB a i)) ∧ Below w.heap.size w w' := by
  go_enter Try.func23, Try.ntmps23
  go_wp2
  all_goals
    go_ret
    refine ⟨ret_b ?_, (Below.refl _ _).alloc (Nat.le_refl _) _⟩
    simp only [mayB, Bool.decide_and]
    first | (simp [*]; done) | (simp; omega)

/-- A row of IDs in memory. -/
structure Row (oa : Option Addr) (l : List Idn) (w : World) : Prop where
  len : l.length ≤ 100000
  cell : ∀ k (hk : k < l.length), ∃ b off, oa = some ⟨b, off, none⟩ ∧ b < w.heap.size ∧ w.cell? ⟨b, off + k * 2, none⟩ = some (.int .i64 l[k].a) ∧ w.cell? ⟨b, off + k * 2 + 1, none⟩ = some (.int .i64 l[k].i)
theorem Row.below {oa : Option Addr} {l : List Idn} {w w' : World} (h : Row oa l w) (hb : Below w.heap.size w w') : Row oa l w' :=
  ⟨h.len, fun k hk => by
    obtain ⟨b, off, e, hlt, h1, h2⟩ := h.cell k hk
    exact ⟨b, off, e, Nat.lt_of_lt_of_le hlt hb.size, (hb.cell (p := ⟨b, _, none⟩) hlt).trans h1, (hb.cell (p := ⟨b, _, none⟩) hlt).trans h2⟩⟩
theorem Idn.Holds.row {oa : Option Addr} {cap : Nat} {l : List Idn} {w : World} (h : Idn.Holds w (.slice oa l.length cap) l) (hl : l.length ≤ 100000) : Row oa l w :=
  ⟨hl, fun k hk => by
    obtain ⟨b, off, e, hlt, -, h1, h2⟩ := h.at_ hk
    exact ⟨b, off, e, hlt, h1, h2⟩⟩
theorem drop_cons {α : Type} (l : List α) (k : Nat) (h : k < l.length) : l.drop k = l[k] :: l.drop (k + 1) := List.drop_eq_getElem_cons h
set_option maxRecDepth 100000 in
set_option maxHeartbeats 4000000 in
theorem rise_any (oa : Option Addr) (cap : Nat) (l : List Idn) (w : World) (hl : Row oa l w) :
    Calls Try.prog 24 #[.slice oa l.length cap] w fun e w' => e = .returned (.bool (rise l)) ∧ Below w.heap.size w w' := by
  have hlen := hl.len
  go_enter Try.func24, Try.ntmps24
  go_wp2_with fail
  go_loopw [9] (fun x wr => ∃ (k : Nat) (z : Idn), k ≤ l.length ∧ x = .int .i64 k ∧ wr.heap[w.heap.size]? = some (.cells #[.int .i64 z.a, .int .i64 z.i] 23 (0, 0)) ∧ Below w.heap.size w wr ∧ rise l = riseFrom z (l.drop k)) (fun x _ => l.length - (intOf x).toNat)
  case atStart => exact ⟨0, ⟨0, 0⟩, by omega, rfl, heap_alloc_new _ _, (Below.refl _ _).alloc (Nat.le_refl _) _, rfl⟩
  case round =>
    obtain ⟨k, z, hk, rfl, hz, hb, he⟩ := hrel
    by_cases hlt : k < l.length
    · obtain ⟨b, off, rfl, hbl, q0, q1⟩ := (hl.below hb).cell k hlt
      rw [drop_cons l k hlt] at he
      generalize l[k] = x at he q0 q1
      have z0 : wr.cell? ⟨w.heap.size, 0, none⟩ = some (.int .i64 z.a) := by rw [cell_of_row _ _ _ _ _ _ hz]; rfl
      have z1 : wr.cell? ⟨w.heap.size, 1, none⟩ = some (.int .i64 z.i) := by rw [cell_of_row _ _ _ _ _ _ hz]; rfl
      have zl : w.heap.size < wr.heap.size := (Array.getElem?_eq_some_iff.1 hz).1
      have HE := Lib.hid he
      have HZ := Lib.hid hz
      clear he hz
      have hm : ∃ m, m = mayB x.a x.i := ⟨_, rfl⟩
      obtain ⟨m, hm⟩ := hm
      go_upto_region 5 with fail
      go_wp2_with fail
      refine (may22 x.a x.i _).mono ?_
      rintro e w2 ⟨rfl, hb2⟩
      have hz2 : w2.heap[w.heap.size]? = some (.cells #[.int .i64 z.a, .int .i64 z.i] 23 (0, 0)) := (hb2.block _ (by simp; omega)).trans (by rw [Below.heap_alloc _ _ _ zl]; exact HZ.out)
      have y0 : w2.cell? ⟨w.heap.size, 0, none⟩ = some (.int .i64 z.a) := by rw [cell_of_row _ _ _ _ _ _ hz2]; rfl
      have y1 : w2.cell? ⟨w.heap.size, 1, none⟩ = some (.int .i64 z.i) := by rw [cell_of_row _ _ _ _ _ _ hz2]; rfl
      have y2 : w2.cell? ⟨wr.heap.size, 0, none⟩ = some (.int .i64 x.a) := (hb2.cell (p := ⟨wr.heap.size, 0, none⟩) (by simp)).trans (by simp)
      have y3 : w2.cell? ⟨wr.heap.size, 1, none⟩ = some (.int .i64 x.i) := (hb2.cell (p := ⟨wr.heap.size, 1, none⟩) (by simp)).trans (by simp)
      have f0 : w2.frozen? ⟨w.heap.size, 0, none⟩ = false := frozen_of_row _ _ _ _ _ hz2
      have f1 : w2.frozen? ⟨w.heap.size, 1, none⟩ = false := frozen_of_row _ _ _ _ _ hz2
      have hb3 := Lib.hid (((hb.alloc hb.size (.cells #[.int .i64 x.a, .int .i64 x.i] 23)).trans (hb2.mono (by simp; have := hb.size; omega))))
      have HZ2 := Lib.hid hz2
      have hnext : Hid (((w2.setCell ⟨w.heap.size, 0, none⟩ (.int .i64 x.a)).setCell ⟨w.heap.size, 1, none⟩ (.int .i64 x.i)).heap[w.heap.size]? = some (.cells #[.int .i64 x.a, .int .i64 x.i] 23 (0, 0))) := Lib.hid (by
        rw [heap_setCell_same _ _ _ _ _ _ (heap_setCell_same _ _ _ _ _ _ hz2)]; rfl)
      clear hz2 q0 q1 z0 z1 hb2
      rw [← hm]
      have HM := Lib.hid hm
      clear hm
      cases m
      · go_wp2_with fail
        go_ret
        exact ⟨ret_b (by rw [HE.out]; simp [riseFrom, Idn.may, ← HM.out]), hb3.out⟩
      · by_cases c1 : x.a < z.a
        · go_wp2_with fail
          go_ret
          exact ⟨ret_b (by rw [HE.out]; simp [riseFrom, c1]), hb3.out⟩
        · by_cases c2 : x.a = z.a
          · have c2' : (x.a == z.a) = true := by simpa using c2
            have HC := Lib.hid c2
            clear c2
            by_cases c3 : x.i ≤ z.i
            · go_wp2_with fail
              go_ret
              exact ⟨ret_b (by rw [HE.out]; simp [riseFrom, HC.out, c3]), hb3.out⟩
            · go_wp2_with fail
              go_roundw
              case rel => exact ⟨k + 1, x, by omega, by go_num, hnext.out, (hb3.out.setCell (Nat.le_refl _) _).setCell (Nat.le_refl _) _, by rw [HE.out]; simp only [riseFrom, Idn.may, ← HM.out]; simp [HC.out, c3]⟩
              case measure => simp only [intOf]; omega
          · have c2' : (x.a == z.a) = false := by simpa using c2
            have HC := Lib.hid c2
            clear c2
            go_wp2_with fail
            go_roundw
            case rel => exact ⟨k + 1, x, by omega, by go_num, hnext.out, (hb3.out.setCell (Nat.le_refl _) _).setCell (Nat.le_refl _) _, by rw [HE.out]; simp [riseFrom, Idn.may, ← HM.out, HC.out, c1]⟩
            case measure => simp only [intOf]; omega
    · obtain rfl : k = l.length := by omega
      go_wp2_with fail
      go_ret
      exact ⟨ret_b (by rw [he, List.drop_length]; rfl), hb⟩
end Go.Proofs.Ytimlenapeghknaa
