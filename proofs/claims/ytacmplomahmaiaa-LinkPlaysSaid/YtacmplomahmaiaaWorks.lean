/-
  Links of the call's own; the examples; steps that are played.
-/
import Derived.Test.YtacmplomahmaiaaWalks3
import Derived.Test.YtacmplomahmaiaaWalks4
import Derived.Test.YtacmplomahmaiaaSteps
namespace Go.Proofs.Ytacmplomahmaiaa
open Go.RowKit Go.Maps
set_option linter.unusedVariables false
set_option linter.unusedSimpArgs false
attribute [local go_sem ↓] Go.wp_at_zero Go.wp_at_succ
/-- Links of the call's own. -/
structure Hs (B M n : Nat) (g : Int → Peer) (W w : World) : Prop where
  lk : Lk B M n g w
  ownB : W.heap.size ≤ B
  ownM : W.heap.size ≤ M
  below : Below W.heap.size W w
section
variable {B M n n' : Nat} {g g' : Int → Peer} {W w w' : World}
theorem Hs.turn (h : Hs B M n g W w) (hl : Lk B M n' g' w') (hK : Keep M w w') : Hs B M n' g' W w' := ⟨hl, h.ownB, h.ownM, h.below.trans (hK.below h.ownM h.below.size)⟩
theorem Hs.kept (h : Hs B M n g W w) (hb : Below w.heap.size w w') : Hs B M n g W w' := h.turn (h.lk.kept hb) (Keep.of_below hb)
theorem Hs.alloc (h : Hs B M n g W w) (o : Obj) : Hs B M n g W (w.alloc o) := h.kept ((Below.refl _ _).alloc (Nat.le_refl _) _)
theorem Hs.drew (h : Hs B M n g W w) : Hs B M n g W w.drew := ⟨h.lk.drew, h.ownB, h.ownM, ⟨h.below.os, h.below.tape, h.below.output, h.below.size, h.below.block⟩⟩
theorem Hs.more (h : Hs B M n g W w) (hn : n ≤ n') : Hs B M n' g W w := ⟨⟨h.lk.here, h.lk.knows.more hn, h.lk.ne⟩, h.ownB, h.ownM, h.below⟩
theorem take_of (f : Fr) (ma mi : Int) (h : Hs B M n g W w) (hn : n ≤ 1000) (ha : inI64 f.fa) :
    Calls Try.prog 11 #[.pointer (some ⟨B, 0, none⟩), f.val, .agg #[.int .i64 ma, .int .i64 mi]] w fun e w' => e = .returned (.int .i64 (takeE g f ma mi)) ∧ Hs B M (n + 1) (takeF g f ma mi) W w' ∧ Keep M w w' :=
  (take_any B M n g f ma mi w h.lk hn ha).mono fun e w' ⟨he, hl, hK⟩ => ⟨he, h.turn hl hK, hK⟩
theorem fence_of (a i : Int) (h : Hs B M n g W w) (hn : n ≤ 1000) (ha : inI64 a) :
    Calls Try.prog 12 #[.pointer (some ⟨B, 0, none⟩), .agg #[.int .i64 a, .int .i64 i]] w fun e w' => e = .returned (.int .i64 (fenceE a i)) ∧ Hs B M (n + 1) (fenceF g a i) W w' ∧ Keep M w w' :=
  (fence_any B M n g a i w h.lk hn ha).mono fun e w' ⟨he, hl, hK⟩ => ⟨he, h.turn hl hK, hK⟩
theorem new_of (hb : Below W.heap.size W w) : Calls Try.prog 16 #[] w fun e w' => ∃ B M, e = .returned (.pointer (some ⟨B, 0, none⟩)) ∧ Hs B M 0 (fun _ => .zero) W w' ∧ w.heap.size ≤ M ∧ w.heap.size ≤ B ∧ Below w.heap.size w w' :=
  (new_any w).mono fun e w' ⟨he, hl, hb'⟩ => ⟨_, _, he, ⟨hl, Nat.le_trans hb.size (by omega), hb.size, then_below hb hb'⟩, Nat.le_refl _, by omega, hb'⟩
end
set_option maxRecDepth 100000 in
set_option maxHeartbeats 4000000 in
theorem awake_any (W : World) : Calls Try.prog 8 #[] W fun e w' => e = .returned (.bool true) ∧ Below W.heap.size W w' := by
  go_enter Try.func8, Try.ntmps8
  go_wp2_with fail
  refine (new_of (Below.refl _ W)).mono ?_
  rintro e w1 ⟨B, M, rfl, hL, hM, -, -⟩
  have hmn : w1.heap.size ≠ M := by have := hL.lk.knows.lt; omega
  have hL := (hL.alloc (.cells #[.int .i64 1, .int .i64 1] 23)).drew
  obtain ⟨mb, hmb⟩ : ∃ mb, mb = w1.heap.size := ⟨_, rfl⟩
  have m0 : ((w1.alloc (.cells #[.int .i64 1, .int .i64 1] 23)).drew).cell? ⟨mb, 0, none⟩ = some (.int .i64 1) := by rw [hmb]; simp
  have m1 : ((w1.alloc (.cells #[.int .i64 1, .int .i64 1] 23)).drew).cell? ⟨mb, 1, none⟩ = some (.int .i64 1) := by rw [hmb]; simp
  have hml : mb < ((w1.alloc (.cells #[.int .i64 1, .int .i64 1] 23)).drew).heap.size := by rw [hmb]; simp
  go_upto_region 3 with fail
  rw [← hmb] at hmn ⊢
  clear hmb
  go_region_held3 (fun v => v.cell? ⟨mb, 0, none⟩ = some (.int .i64 1) ∧ v.cell? ⟨mb, 1, none⟩ = some (.int .i64 1)) (go_keep)
    (first
      | (go_at_call 24; refine (beat_any _ _ _ _).mono ?_; rintro e wb ⟨rfl, hbb⟩; have hL := hL.kept hbb; have m0 := (hbb.cell (p := ⟨mb, 0, none⟩) hml).trans m0; have m1 := (hbb.cell (p := ⟨mb, 1, none⟩) hml).trans m1; have hml := Nat.lt_of_lt_of_le hml hbb.size; clear hbb; simp only [Fr.val, Fr.cells])
      | (go_at_call 11; refine (take_of (⟨5, _, _, 1, 1, _, 0⟩ : Fr) 1 1 hL (by omega) (by simp [inI64])).mono ?_; rintro e wt ⟨rfl, hLt, hKt⟩; have hL := hLt; have m0 := (hKt.cell (p := ⟨mb, 0, none⟩) hml hmn).trans m0; have m1 := (hKt.cell (p := ⟨mb, 1, none⟩) hml hmn).trans m1; have hml := Nat.lt_of_lt_of_le hml hKt.size; clear hKt hLt))
  have e1 : takeE (fun _ => Peer.zero) (⟨5, 2, 1, 1, 1, 5, 0⟩ : Fr) 1 1 = 0 := by kernel_rfl
  have e2 : takeE (takeF (fun _ => Peer.zero) (⟨5, 2, 1, 1, 1, 5, 0⟩ : Fr) 1 1) (⟨5, 2, 1, 1, 1, 5, 0⟩ : Fr) 1 1 = 6 := by kernel_rfl
  have e3 : takeE (takeF (takeF (fun _ => Peer.zero) (⟨5, 2, 1, 1, 1, 5, 0⟩ : Fr) 1 1) (⟨5, 2, 1, 1, 1, 5, 0⟩ : Fr) 1 1) (⟨5, 2, 2, 1, 1, 1, 0⟩ : Fr) 1 1 = 0 := by kernel_rfl
  have e4 : takeE (takeF (takeF (takeF (fun _ => Peer.zero) (⟨5, 2, 1, 1, 1, 5, 0⟩ : Fr) 1 1) (⟨5, 2, 1, 1, 1, 5, 0⟩ : Fr) 1 1) (⟨5, 2, 2, 1, 1, 1, 0⟩ : Fr) 1 1) (⟨5, 2, 1, 1, 1, 6, 0⟩ : Fr) 1 1 = 42 := by kernel_rfl
  rw [e1, e2, e3, e4]
  clear e1 e2 e3 e4
  generalize hG4 : takeF (takeF (takeF (takeF (fun _ => Peer.zero) (⟨5, 2, 1, 1, 1, 5, 0⟩ : Fr) 1 1) (⟨5, 2, 1, 1, 1, 5, 0⟩ : Fr) 1 1) (⟨5, 2, 2, 1, 1, 1, 0⟩ : Fr) 1 1) (⟨5, 2, 1, 1, 1, 6, 0⟩ : Fr) 1 1 = G4 at hL ⊢
  go_wp2_with fail
  refine (fence_of 2 2 hL (by omega) (by simp [inI64])).mono ?_
  rintro e wf ⟨rfl, hLf, hKf⟩
  have hL := hLf.drew
  have m0 := (hKf.cell (p := ⟨mb, 0, none⟩) hml hmn).trans m0
  have m1 := (hKf.cell (p := ⟨mb, 1, none⟩) hml hmn).trans m1
  have hml := Nat.lt_of_lt_of_le hml hKf.size
  clear hLf hKf
  have m0 : wf.drew.cell? ⟨mb, 0, none⟩ = some (.int .i64 1) := m0
  have m1 : wf.drew.cell? ⟨mb, 1, none⟩ = some (.int .i64 1) := m1
  have hml : mb < wf.drew.heap.size := hml
  have e5 : fenceE 2 2 = 0 := by kernel_rfl
  rw [e5]
  clear e5
  go_upto_region 5 with fail
  go_region_held3 (fun v => v.cell? ⟨mb, 0, none⟩ = some (.int .i64 1) ∧ v.cell? ⟨mb, 1, none⟩ = some (.int .i64 1)) (go_keep)
    (first
      | (go_at_call 24; refine (beat_any _ _ _ _).mono ?_; rintro e wb ⟨rfl, hbb⟩; have hL := hL.kept hbb; have m0 := (hbb.cell (p := ⟨mb, 0, none⟩) hml).trans m0; have m1 := (hbb.cell (p := ⟨mb, 1, none⟩) hml).trans m1; have hml := Nat.lt_of_lt_of_le hml hbb.size; clear hbb; simp only [Fr.val, Fr.cells])
      | (go_at_call 11; refine (take_of (⟨5, _, _, 1, 1, _, 0⟩ : Fr) 1 1 hL (by omega) (by simp [inI64])).mono ?_; rintro e wt ⟨rfl, hLt, hKt⟩; have hL := hLt; have m0 := (hKt.cell (p := ⟨mb, 0, none⟩) hml hmn).trans m0; have m1 := (hKt.cell (p := ⟨mb, 1, none⟩) hml hmn).trans m1; have hml := Nat.lt_of_lt_of_le hml hKt.size; clear hKt hLt))
  have e6 : takeE (fenceF G4 2 2) (⟨5, 2, 2, 1, 1, 9, 0⟩ : Fr) 1 1 = 7 := by subst hG4; kernel_rfl
  have e7 : takeE (takeF (fenceF G4 2 2) (⟨5, 2, 2, 1, 1, 9, 0⟩ : Fr) 1 1) (⟨5, 2, 3, 1, 1, 1, 0⟩ : Fr) 1 1 = 0 := by subst hG4; kernel_rfl
  rw [e6, e7]
  clear e6 e7
  generalize hG7 : takeF (takeF (fenceF G4 2 2) (⟨5, 2, 2, 1, 1, 9, 0⟩ : Fr) 1 1) (⟨5, 2, 3, 1, 1, 1, 0⟩ : Fr) 1 1 = G7 at hL ⊢
  have e8 : (G7 2).newest = 3 := by subst hG7; subst hG4; kernel_rfl
  go_wp2_with fail
  refine (newest_any B M _ G7 2 _ hL.lk (by simp [inI64])).mono ?_
  rintro e wn ⟨rfl, rfl⟩
  rw [e8]
  go_wp2_with fail
  go_ret
  exact ⟨rfl, hL.below⟩
end Go.Proofs.Ytacmplomahmaiaa
