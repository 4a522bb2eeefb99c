/-
  The walk of the law LinkNames (closed): nobody's links, what may not be, the examples.
-/
import Derived.Test.YtacmplomahmaiaaPlay
namespace Go.Proofs.Ytacmplomahmaiaa
open Go.RowKit Go.Maps
set_option linter.unusedVariables false
set_option linter.unusedSimpArgs false
attribute [local go_sem ↓] Go.wp_at_zero Go.wp_at_succ
theorem copy_nil (w : World) : Calls Try.prog 18 #[.pointer none] w fun e w' => e = .returned (.pointer none) ∧ w' = w := by
  go_enter Try.func18, Try.ntmps18
  go_wp2
  go_ret
  exact ⟨rfl, rfl⟩
section
variable {B M n : Nat} {W w : World}
theorem take_odd (f : Fr) (e : Int) (h : Hs B M n (fun _ => .zero) W w) (hn : n ≤ 1000) (ha : inI64 f.fa) (he : takeE (fun _ => .zero) f 1 1 = e) (hz : e ≠ 0) :
    Calls Try.prog 11 #[.pointer (some ⟨B, 0, none⟩), f.val, .agg #[.int .i64 1, .int .i64 1]] w fun r w' => r = .returned (.int .i64 e) ∧ Hs B M (n + 1) (fun _ => .zero) W w' ∧ Keep M w w' :=
  (take_of f 1 1 h hn ha).mono fun r w' ⟨h1, h2, h3⟩ => ⟨by rw [h1, he], by rw [takeF_not (by rw [he]; exact hz)] at h2; exact h2, h3⟩
theorem fence_odd (a i : Int) (h : Hs B M n (fun _ => .zero) W w) (hn : n ≤ 1000) (ha : inI64 a) (hm : mayB a i = false) :
    Calls Try.prog 12 #[.pointer (some ⟨B, 0, none⟩), .agg #[.int .i64 a, .int .i64 i]] w fun r w' => r = .returned (.int .i64 4) ∧ Hs B M (n + 1) (fun _ => .zero) W w' ∧ Keep M w w' :=
  (fence_of a i h hn ha).mono fun r w' ⟨h1, h2, h3⟩ => ⟨by rw [h1]; simp [fenceE, hm], by simpa [fenceF, hm] using h2, h3⟩
theorem fenced_odd (a i : Int) (h : Hs B M n (fun _ => .zero) W w) (ha : inI64 a) (hm : mayB a i = false) :
    Calls Try.prog 15 #[.pointer (some ⟨B, 0, none⟩), .agg #[.int .i64 a, .int .i64 i]] w fun r w' => r = .returned (.bool false) ∧ Below w.heap.size w w' :=
  (fenced_any B M n _ a i w h.lk ha).mono fun r w' ⟨h1, h2⟩ => ⟨by rw [h1]; simp [fencedB, hm], h2⟩
theorem newest_odd (a : Int) (h : Hs B M n (fun _ => .zero) W w) (ha : inI64 a) :
    Calls Try.prog 13 #[.pointer (some ⟨B, 0, none⟩), .int .i64 a] w fun r w' => r = .returned (.int .i64 0) ∧ w = w' :=
  (newest_any B M n _ a w h.lk ha).mono fun r w' ⟨h1, h2⟩ => ⟨by rw [h1]; rfl, by first | exact h2 | exact h2.symm⟩
end
set_option maxRecDepth 100000 in
set_option maxHeartbeats 8000000 in
theorem names_walk (W : World) : Calls Try.prog 6 #[] W fun e w' => e = .returned (.bool true) ∧ Below W.heap.size W w' := by
  go_enter Try.func6, Try.ntmps6
  go_wp2_with fail
  refine (new_of (Below.refl _ W)).mono ?_
  rintro e w1 ⟨B, M, rfl, hL, hM, -, -⟩
  have hmn : w1.heap.size ≠ M := by have := hL.lk.knows.lt; omega
  have hL := hL.alloc (.cells #[.int .i64 1, .int .i64 1] 23)
  obtain ⟨mb, hmb⟩ : ∃ mb, mb = w1.heap.size := ⟨_, rfl⟩
  have m0 : (w1.alloc (.cells #[.int .i64 1, .int .i64 1] 23)).cell? ⟨mb, 0, none⟩ = some (.int .i64 1) := by rw [hmb]; simp
  have m1 : (w1.alloc (.cells #[.int .i64 1, .int .i64 1] 23)).cell? ⟨mb, 1, none⟩ = some (.int .i64 1) := by rw [hmb]; simp
  have hml : mb < (w1.alloc (.cells #[.int .i64 1, .int .i64 1] 23)).heap.size := by rw [hmb]; simp
  go_upto_region 4 with fail
  rw [← hmb] at hmn ⊢
  clear hmb
  go_wp2_with fail
  refine (take_nil .zero 1 1 _).mono ?_
  rintro e w2 ⟨rfl, hb⟩
  have hL := hL.kept hb
  have m0 := (hb.cell (p := ⟨mb, 0, none⟩) hml).trans m0
  have m1 := (hb.cell (p := ⟨mb, 1, none⟩) hml).trans m1
  have hml := Nat.lt_of_lt_of_le hml hb.size
  clear hb
  go_wp2_with fail
  refine (fence_nil 1 1 _).mono ?_
  rintro e w3 ⟨rfl, hb⟩
  have hL := hL.kept hb
  have m0 := (hb.cell (p := ⟨mb, 0, none⟩) hml).trans m0
  have m1 := (hb.cell (p := ⟨mb, 1, none⟩) hml).trans m1
  have hml := Nat.lt_of_lt_of_le hml hb.size
  clear hb
  go_wp2_with fail
  refine (fenced_nil 1 1 _).mono ?_
  rintro e w4 ⟨rfl, hb⟩
  have hL := hL.kept hb
  have m0 := (hb.cell (p := ⟨mb, 0, none⟩) hml).trans m0
  have m1 := (hb.cell (p := ⟨mb, 1, none⟩) hml).trans m1
  have hml := Nat.lt_of_lt_of_le hml hb.size
  clear hb
  go_wp2_with fail
  refine (newest_nil 1 _).mono ?_
  rintro e w5 ⟨rfl, rfl⟩
  go_wp2_with fail
  refine (copy_nil _).mono ?_
  rintro e w6 ⟨rfl, rfl⟩
  go_wp2_with fail
  refine (take_odd (⟨0, 0, 0, 0, 0, 0, 0⟩ : Fr) 4 hL (by omega) (by simp [inI64]) (by kernel_rfl) (by decide)).mono ?_
  rintro e w7 ⟨rfl, hL', hK⟩
  have hL := hL'
  have m0 := (hK.cell (p := ⟨mb, 0, none⟩) hml hmn).trans m0
  have m1 := (hK.cell (p := ⟨mb, 1, none⟩) hml hmn).trans m1
  have hml := Nat.lt_of_lt_of_le hml hK.size
  clear hK hL'
  go_wp2_with fail
  refine (take_odd (⟨0, 2, 1, 3, 0, 0, 0⟩ : Fr) 4 hL (by omega) (by simp [inI64]) (by kernel_rfl) (by decide)).mono ?_
  rintro e w8 ⟨rfl, hL', hK⟩
  have hL := hL'
  have m0 := (hK.cell (p := ⟨mb, 0, none⟩) hml hmn).trans m0
  have m1 := (hK.cell (p := ⟨mb, 1, none⟩) hml hmn).trans m1
  have hml := Nat.lt_of_lt_of_le hml hK.size
  clear hK hL'
  go_wp2_with fail
  refine (take_odd (⟨0, 1, 2, 1, 1, 0, 0⟩ : Fr) 4 hL (by omega) (by simp [inI64]) (by kernel_rfl) (by decide)).mono ?_
  rintro e w9 ⟨rfl, hL', hK⟩
  have hL := hL'
  have m0 := (hK.cell (p := ⟨mb, 0, none⟩) hml hmn).trans m0
  have m1 := (hK.cell (p := ⟨mb, 1, none⟩) hml hmn).trans m1
  have hml := Nat.lt_of_lt_of_le hml hK.size
  clear hK hL'
  go_wp2_with fail
  refine (take_odd (⟨0, 2, 1, 1, 9, 0, 0⟩ : Fr) 42 hL (by omega) (by simp [inI64]) (by kernel_rfl) (by decide)).mono ?_
  rintro e w10 ⟨rfl, hL', hK⟩
  have hL := hL'
  have m0 := (hK.cell (p := ⟨mb, 0, none⟩) hml hmn).trans m0
  have m1 := (hK.cell (p := ⟨mb, 1, none⟩) hml hmn).trans m1
  have hml := Nat.lt_of_lt_of_le hml hK.size
  clear hK hL'
  go_wp2_with fail
  refine (fence_odd 0 0 hL (by omega) (by simp [inI64]) rfl).mono ?_
  rintro e w11 ⟨rfl, hL', hK⟩
  have hL := hL'
  have m0 := (hK.cell (p := ⟨mb, 0, none⟩) hml hmn).trans m0
  have m1 := (hK.cell (p := ⟨mb, 1, none⟩) hml hmn).trans m1
  have hml := Nat.lt_of_lt_of_le hml hK.size
  clear hK hL'
  go_wp2_with fail
  refine (fenced_odd 13 1 hL (by simp [inI64]) rfl).mono ?_
  rintro e w12 ⟨rfl, hb⟩
  have hL := hL.kept hb
  have m0 := (hb.cell (p := ⟨mb, 0, none⟩) hml).trans m0
  have m1 := (hb.cell (p := ⟨mb, 1, none⟩) hml).trans m1
  have hml := Nat.lt_of_lt_of_le hml hb.size
  clear hb
  go_wp2_with fail
  refine (newest_odd 99 hL (by simp [inI64])).mono ?_
  rintro e w13 ⟨rfl, rfl⟩
  go_wp2_with fail
  refine (newest_odd (-1) hL (by simp [inI64])).mono ?_
  rintro e w14 ⟨rfl, rfl⟩
  go_wp2_with fail
  refine (take_of (⟨5, 2, 1, 1, 1, 0, 0⟩ : Fr) 1 1 hL (by omega) (by simp [inI64])).mono ?_
  rintro e w15 ⟨rfl, hL', hK⟩
  rw [show takeE (fun _ => Peer.zero) (⟨5, 2, 1, 1, 1, 0, 0⟩ : Fr) 1 1 = 0 by kernel_rfl]
  have HB := Lib.hid hL'.below
  clear hL hL' hK m0 m1
  go_wp2_with fail
  refine (awake_any _).mono ?_
  rintro e w16 ⟨rfl, hb⟩
  have HB := Lib.hid (then_below HB.out hb)
  clear hb
  go_wp2_with fail
  go_ret
  exact ⟨rfl, HB.out⟩
end Go.Proofs.Ytacmplomahmaiaa
