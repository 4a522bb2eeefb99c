/-
  The walk of the law ArbiterNames (closed): nobody's arbiter, what may not be, the examples.
-/
import Derived.Test.YtjjbfmaldhlenaaWorks
namespace Go.Proofs.Ytjjbfmaldhlenaa
open Go.RowKit
set_option linter.unusedVariables false
set_option linter.unusedSimpArgs false
attribute [local go_sem ↓] Go.wp_at_zero Go.wp_at_succ
set_option maxRecDepth 100000 in
set_option maxHeartbeats 1000000 in
theorem take_none (f : Fr) (w : World) :
    Calls Try.prog 13 #[.pointer none, f.val] w fun e w' => e = .returned (.tuple #[Fr.zero.val, .bool false, .int .i64 2]) ∧ Below w.heap.size w w' := by
  simp only [Fr.val, Fr.cells]
  go_enter Try.func13, Try.ntmps13
  go_wp2_with fail
  refine bodyPost_ret (v := .tuple #[Fr.zero.val, .bool false, .int .i64 2]) (by simp [results, Try.results13, go_sem, Fr.val, Fr.cells, Fr.zero]) rfl ⟨rfl, ?_⟩
  exact ((Below.refl _ _).alloc (Nat.le_refl _) _).alloc (by simp) _
set_option maxRecDepth 100000 in
set_option maxHeartbeats 1000000 in
theorem holder_none (w : World) :
    Calls Try.prog 15 #[.pointer none] w fun e w' => e = .returned (.tuple #[.agg #[.int .i64 0, .int .i64 0], .bool false]) ∧ Below w.heap.size w w' := by
  go_enter Try.func15, Try.ntmps15
  go_wp2_with fail
  go_quiet (fail)
  go_wp2_with fail
  refine bodyPost_ret (v := .tuple #[.agg #[.int .i64 0, .int .i64 0], .bool false]) (by simp [results, Try.results15, go_sem]) rfl ⟨rfl, ?_⟩
  exact below_drewN ((Below.refl _ _).alloc (Nat.le_refl _) _) _
theorem take_empty (B : Nat) (w : World) (h : At B (.fresh 4096) w) :
    Calls Try.prog 13 #[.pointer (some ⟨B, 0, none⟩), .agg (Fr.cells ⟨9, 0, 0, 0, 0, 0, 0⟩)] w fun e w' => e = .returned (.tuple #[.agg Fr.zero.cells, .bool false, .int .i64 0]) ∧ At B (.fresh 4096) w' ∧ Keep B w w' := by
  have ok : (St.fresh 4096).Ok := ⟨by decide, by decide, by decide, by decide, by decide, by decide⟩
  exact (take_any B (.fresh 4096) ⟨9, 0, 0, 0, 0, 0, 0⟩ w h ok (by decide) (by decide)).mono fun e w' ⟨h1, h2, h3⟩ => ⟨h1, h2, h3⟩
set_option maxRecDepth 100000 in
set_option maxHeartbeats 4000000 in
theorem names_walk (W : World) : Calls Try.prog 6 #[] W fun e w' => e = .returned (.bool true) ∧ Below W.heap.size W w' := by
  go_enter Try.func6, Try.ntmps6
  go_wp2_with fail
  refine (tick_nil _).mono ?_
  rintro e w1 ⟨rfl, rfl⟩
  go_wp2_with fail
  refine (take_none .zero _).mono ?_
  rintro e w2 ⟨rfl, hb2⟩
  simp only [Fr.val, Fr.cells, Fr.zero]
  go_wp2_with fail
  refine (holder_none _).mono ?_
  rintro e w3 ⟨rfl, hb3⟩
  have HB3 := Lib.hid ((hb2.alloc hb2.size (.cells Fr.zero.cells 48)).trans (hb3.mono (by simp; have := hb2.size; omega)))
  clear hb2 hb3
  go_wp2_with fail
  refine (new_no (-1) _ (.inl (by decide))).mono ?_
  rintro e w4 ⟨rfl, rfl⟩
  go_wp2_with fail
  refine (new_no 0 _ (.inl (by decide))).mono ?_
  rintro e w5 ⟨rfl, rfl⟩
  go_wp2_with fail
  refine (new_no 4097 _ (.inr (by decide))).mono ?_
  rintro e w6 ⟨rfl, rfl⟩
  go_wp2_with fail
  refine (new_yes 4096 _ (by decide) (by decide)).mono ?_
  rintro e w7 ⟨rfl, hA7, hb7⟩
  have HB7 := Lib.hid ((HB3.out.alloc HB3.out.size (.cells #[.int .i64 0, .int .i64 0] 39)).trans (hb7.mono (by simp; have := HB3.out.size; omega)))
  have hB : w1.heap.size ≤ (w3.alloc (.cells #[.int .i64 0, .int .i64 0] 39)).heap.size := by simp; have := HB3.out.size; omega
  clear hb7
  generalize (w3.alloc (.cells #[.int .i64 0, .int .i64 0] 39)).heap.size = B at hA7 hB ⊢
  go_wp2_with fail
  refine (take_empty B _ hA7).mono ?_
  rintro e w8 ⟨rfl, hA8, hK8⟩
  have hA9 := hA8.alloc (.cells Fr.zero.cells 48)
  have HB8 := Lib.hid (HB7.out.trans (hK8.below hB HB7.out.size))
  clear hK8 hA7 hA8
  simp only [Fr.cells, Fr.zero] at hA9 ⊢
  go_wp2_with fail
  refine (token_nil _).mono ?_
  rintro e w9 ⟨rfl, rfl⟩
  go_wp2_with fail
  refine (copy_nil _).mono ?_
  rintro e w10 ⟨rfl, rfl⟩
  go_wp2_with fail
  refine (start_nil _).mono ?_
  rintro e w11 ⟨rfl, rfl⟩
  go_wp2_with fail
  refine (start_any B _ _ hA9).mono ?_
  rintro e w12 ⟨rfl, hA12, hK12⟩
  go_wp2_with fail
  refine (token_any B _ _ hA12).mono ?_
  rintro e w13 ⟨rfl, rfl⟩
  rw [show (St.start (St.fresh 4096)).token = 0 from rfl]
  have HB13 := Lib.hid ((HB8.out.alloc HB8.out.size _).trans (hK12.below hB (HB8.out.alloc HB8.out.size _).size))
  clear hK12 hA12 hA9
  go_wp2_with fail
  refine (awake_any _).mono ?_
  rintro e w14 ⟨rfl, hb14⟩
  have HB14 := Lib.hid (then_below HB13.out hb14)
  clear hb14
  go_wp2_with fail
  go_ret
  exact ⟨rfl, HB14.out⟩
end Go.Proofs.Ytjjbfmaldhlenaa
