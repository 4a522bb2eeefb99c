/-
  The document's links beside the program's; the walk of the law LinkPlays.
-/
import Derived.Test.YtacmplomahmaiaaRef4
import Derived.Test.YtacmplomahmaiaaCopy
namespace Go.Proofs.Ytacmplomahmaiaa
open Go.RowKit Go.Maps
set_option linter.unusedVariables false
set_option linter.unusedSimpArgs false
attribute [local go_sem ↓] Go.wp_at_zero Go.wp_at_succ
theorem rtake_any (R : Nat) (g : Int → Peer) (kind fa fi ta ti n token ma mi : Int) (w : World) (h : Rl R g w) :
    Calls Try.prog 21 #[.pointer (some ⟨R, 0, none⟩), .agg #[.int .u8 kind, .int .i64 fa, .int .i64 fi, .int .i64 ta, .int .i64 ti, .int .i64 n, .int .i64 token, .int .i64 0, .int .i64 0, .slice none 0 0, .slice none 0 0, .slice none 0 0, .slice none 0 0, .slice none 0 0], .agg #[.int .i64 ma, .int .i64 mi]] w fun e w' =>
      e = .returned (.int .i64 (takeE g ⟨kind, fa, fi, ta, ti, n, token⟩ ma mi)) ∧ Rl R (takeF g ⟨kind, fa, fi, ta, ti, n, token⟩ ma mi) w' ∧ Keep R w w' := by
  cases hf : formB ⟨kind, fa, fi, ta, ti, n, token⟩ ma
  · have h1 : takeE g ⟨kind, fa, fi, ta, ti, n, token⟩ ma mi = 4 := by unfold takeE; rw [hf]; rfl
    have h2 : takeF g ⟨kind, fa, fi, ta, ti, n, token⟩ ma mi = g := by unfold takeF; rw [hf]; rfl
    rw [h1, h2]
    exact rtake_bad R g kind fa fi ta ti n token ma mi w h hf
  · have hf2 := hf
    unfold formB at hf2
    simp only [Bool.and_eq_true, decide_eq_true_eq, Bool.not_eq_true', decide_eq_false_iff_not] at hf2
    obtain ⟨⟨hm, rfl⟩, hne⟩ := hf2
    have hd : 1 ≤ fa ∧ fa ≤ 12 ∧ 1 ≤ fi ∧ fi ≤ 1048576 := by simpa [mayB] using hm
    obtain ⟨k, rfl⟩ : ∃ k : Nat, fa = k := ⟨fa.toNat, by omega⟩
    have h1 : takeE g ⟨kind, k, fi, ta, ti, n, token⟩ ta mi = ((g k).take ⟨kind, k, fi, ta, ti, n, token⟩ mi).2 := by unfold takeE; rw [if_pos hf]
    have h2 : takeF g ⟨kind, k, fi, ta, ti, n, token⟩ ta mi = if ((g k).take ⟨kind, k, fi, ta, ti, n, token⟩ mi).2 = 0 then set g k ((g k).take ⟨kind, k, fi, ta, ti, n, token⟩ mi).1 else g := by
      unfold takeF; rw [hf]; simp
    rw [h1, h2]
    exact rtake_good R g kind k fi ti n token ta mi w h hm hne
/-- None is known outside of the addresses. -/
def Off (g : Int → Peer) : Prop := ∀ a, ¬ (1 ≤ a ∧ a ≤ 12) → g a = .zero
theorem mayB_in {a i : Int} (h : mayB a i = true) : 1 ≤ a ∧ a ≤ 12 := by
  have : 1 ≤ a ∧ a ≤ 12 ∧ 1 ≤ i ∧ i ≤ 1048576 := by simpa [mayB] using h
  omega
theorem Off.set {g : Int → Peer} (h : Off g) {a : Int} (ha : 1 ≤ a ∧ a ≤ 12) (p : Peer) : Off (set g a p) := by
  intro b hb
  unfold Proofs.Ytacmplomahmaiaa.set
  rw [if_neg (fun e => hb (by rw [e]; exact ha))]
  exact h b hb
theorem Off.take {g : Int → Peer} (h : Off g) (f : Fr) (ma mi : Int) : Off (takeF g f ma mi) := by
  unfold takeF
  split
  · rename_i hf
    have h1 := hf.1
    unfold formB at h1
    simp only [Bool.and_eq_true] at h1
    exact h.set (mayB_in h1.1.1) _
  · exact h
theorem Off.fence {g : Int → Peer} (h : Off g) (a i : Int) : Off (fenceF g a i) := by
  unfold fenceF
  split
  · rename_i hm; exact h.set (mayB_in hm) _
  · exact h
/-- Both links, that tell the same. -/
structure Two (B M R n : Nat) (g : Int → Peer) (W w : World) : Prop where
  hs : Hs B M n g W w
  rl : Rl R g w
  rB : R ≠ B
  rM : R ≠ M
  rW : W.heap.size ≤ R
  off : Off g
section
variable {B M R n n' : Nat} {g g' : Int → Peer} {W w w' : World}
theorem Keep.belowOf {K : Nat} (h : Keep K w w') (hW : Below W.heap.size W w) (hK : W.heap.size ≤ K) : Below W.heap.size W w' := hW.trans (h.below hK hW.size)
theorem Hs.keepR {K : Nat} (h : Hs B M n g W w) (hK : Keep K w w') (h1 : B ≠ K) (h2 : M ≠ K) (h3 : W.heap.size ≤ K) : Hs B M n g W w' :=
  ⟨⟨(hK.block _ h.lk.lt h1).trans h.lk.here, h.lk.knows.same (hK.block _ h.lk.knows.lt h2), h.lk.ne⟩, h.ownB, h.ownM, hK.belowOf h.below h3⟩
theorem Rl.keepK {K : Nat} (h : Rl R g w) (hK : Keep K w w') (h1 : R ≠ K) : Rl R g w' := h.same hK.size (hK.block _ h.lt h1)
theorem Two.kept (h : Two B M R n g W w) (hb : Below w.heap.size w w') : Two B M R n g W w' := ⟨h.hs.kept hb, h.rl.kept hb, h.rB, h.rM, h.rW, h.off⟩
theorem Two.other {K : Nat} (h : Two B M R n g W w) (hK : Keep K w w') (h1 : B ≠ K) (h2 : M ≠ K) (h3 : R ≠ K) (h4 : W.heap.size ≤ K) : Two B M R n g W w' := ⟨h.hs.keepR hK h1 h2 h4, h.rl.keepK hK h3, h.rB, h.rM, h.rW, h.off⟩
theorem Two.drew (h : Two B M R n g W w) : Two B M R n g W w.drew := ⟨h.hs.drew, h.rl.drew, h.rB, h.rM, h.rW, h.off⟩
theorem Two.alloc (h : Two B M R n g W w) (o : Obj) : Two B M R n g W (w.alloc o) := h.kept ((Below.refl _ _).alloc (Nat.le_refl _) _)
end
/-- What of two apart links must not meet. -/
structure Far (B M R B2 M2 R2 : Nat) : Prop where
  a1 : B2 ≠ M
  a2 : M2 ≠ M
  a3 : R2 ≠ M
  b1 : B2 ≠ R
  b2 : M2 ≠ R
  b3 : R2 ≠ R
def neqB (a b : Bool) : Bool := a != b
end Go.Proofs.Ytacmplomahmaiaa
