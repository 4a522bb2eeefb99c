/-
  Ours and the document's holder, side by side in memory.
-/
import Derived.Test.YtfbmjaelkijmnaaRefT
import Derived.Test.YtfbmjaelkijmnaaRefd
namespace Go.Proofs.Ytfbmjaelkijmnaa
open Go.RowKit
set_option linter.unusedVariables false
/-- Ours (state s) in B, the document's (state d) in C. -/
structure Two (B C : Nat) (s d : St) (W w : World) : Prop where
  here : At B s w
  doc : ∃ z, Tie d z ∧ Doc C d z w
  ne : B ≠ C
  ownB : W.heap.size ≤ B
  ownC : W.heap.size ≤ C
  below : Below W.heap.size W w
variable {B C : Nat} {s d s' : St} {W w w' : World}
theorem Two.under (h : Two B C s d W w) (hb : Below w.heap.size w w') : Two B C s d W w' := by
  obtain ⟨z, t, hd⟩ := h.doc
  exact ⟨h.here.kept hb, ⟨z, t, hd.kept hb⟩, h.ne, h.ownB, h.ownC, then_below h.below hb⟩
theorem Two.alloc (h : Two B C s d W w) (o : Obj) : Two B C s d W (w.alloc o) := h.under ((Below.refl _ _).alloc (Nat.le_refl _) _)
theorem Two.drewN (h : Two B C s d W w) (n : Nat) : Two B C s d W (w.drewN n) := ⟨h.here, h.doc, h.ne, h.ownB, h.ownC, below_drewN h.below n⟩
theorem Two.drew (h : Two B C s d W w) : Two B C s d W w.drew := ⟨h.here, h.doc, h.ne, h.ownB, h.ownC, below_drewN h.below 1⟩
theorem Two.ours (h : Two B C s d W w) (hA : At B s' w') (hK : Keep B w w') : Two B C s' d W w' := by
  obtain ⟨z, t, hd⟩ := h.doc
  exact ⟨hA, ⟨z, t, hd.other hK (Ne.symm h.ne)⟩, h.ne, h.ownB, h.ownC, h.below.trans (hK.below h.ownB h.below.size)⟩
theorem Two.docs (h : Two B C s d W w) (hA : DocAt C s' w w') : Two B C s s' W w' := by
  obtain ⟨z, t, hd, hK⟩ := hA
  exact ⟨h.here.other hK h.ne, ⟨z, t, hd⟩, h.ne, h.ownB, h.ownC, h.below.trans (hK.below h.ownC h.below.size)⟩
theorem DocAt.keep (h : DocAt C s' w w') : Keep C w w' := by obtain ⟨z, t, hd, hK⟩ := h; exact hK
theorem Two.want (h : Two B C s d W w) (ok : s.Ok) (now : Int) (f : Fr) (b : Bool) (hs : s.want now = (s', f, b)) :
    Calls Try.prog 12 #[.pointer (some ⟨B, 0, none⟩), .int .i64 now] w fun e w' => e = .returned (.tuple #[f.val, .bool b]) ∧ Two B C s' d W w' ∧ Keep B w w' := by
  have hc := want_any B s now w h.here ok
  rw [hs] at hc
  exact hc.mono fun e w' ⟨he, hA, hK⟩ => ⟨he, h.ours hA hK, hK⟩
theorem Two.take (h : Two B C s d W w) (f : Fr) (now : Int) (b : Bool) (hs : s.take f = (s', b)) :
    Calls Try.prog 13 #[.pointer (some ⟨B, 0, none⟩), f.val, .int .i64 now] w fun e w' => e = .returned (.bool b) ∧ Two B C s' d W w' ∧ Keep B w w' := by
  have hc := take_any B s f now w h.here
  rw [hs] at hc
  exact hc.mono fun e w' ⟨he, hA, hK⟩ => ⟨he, h.ours hA hK, hK⟩
theorem Two.rtake (h : Two B C s d W w) (f : Fr) (now : Int) (b : Bool) (hs : d.take f = (s', b)) :
    Calls Try.prog 26 #[.pointer (some ⟨C, 0, none⟩), f.val, .int .i64 now] w fun e w' => e = .returned (.bool b) ∧ Two B C s s' W w' ∧ Keep C w w' := by
  obtain ⟨z, t, hd⟩ := h.doc
  have hc := rtake_any C d z f now w hd t
  rw [hs] at hc
  exact hc.mono fun e w' ⟨he, hA⟩ => ⟨he, h.docs hA, hA.keep⟩
theorem Two.drop (h : Two B C s d W w) (now : Int) (f : Fr) (b : Bool) (hs : s.drop = (s', f, b)) :
    Calls Try.prog 19 #[.pointer (some ⟨B, 0, none⟩), .int .i64 now] w fun e w' => e = .returned (.tuple #[f.val, .bool b]) ∧ Two B C s' d W w' ∧ Keep B w w' := by
  have hc := drop_any B s now w h.here
  rw [hs] at hc
  exact hc.mono fun e w' ⟨he, hA, hK⟩ => ⟨he, h.ours hA hK, hK⟩
theorem Two.rdrop (h : Two B C s d W w) (f : Fr) (b : Bool) (hs : d.drop = (s', f, b)) :
    Calls Try.prog 27 #[.pointer (some ⟨C, 0, none⟩)] w fun e w' => e = .returned (.tuple #[f.val, .bool b]) ∧ Two B C s s' W w' ∧ Keep C w w' := by
  obtain ⟨z, t, hd⟩ := h.doc
  have hc := rdrop_any C d z w hd
  rw [hs] at hc
  have hz : s' = d.drop.1 := by rw [hs]
  have ht : Tie s' z := by rw [hz]; exact ⟨Int.le_refl 0, fun _ => rfl, fun e => absurd rfl e⟩
  exact hc.mono fun e w' ⟨he, hA, hK⟩ => ⟨he, h.docs ⟨z, ht, hA, hK⟩, hK⟩
theorem Two.rholds (h : Two B C s d W w) (ok : d.Ok) (now : Int) :
    Calls Try.prog 28 #[.pointer (some ⟨C, 0, none⟩), .int .i64 now] w fun e w' => e = .returned (.bool (d.holds now)) ∧ ∃ n, w' = w.drewN n := by
  obtain ⟨z, t, hd⟩ := h.doc
  exact rholds_any C d z now w hd ok t
theorem Two.rrefused (h : Two B C s d W w) :
    Calls Try.prog 29 #[.pointer (some ⟨C, 0, none⟩)] w fun e w' => e = .returned (.bool d.refused) ∧ w' = w := by
  obtain ⟨z, t, hd⟩ := h.doc
  exact rrefused_any C d z w hd
theorem Two.reads (h : Two B C s d W w) : w.cell? ⟨C, 7, none⟩ = some (.bool d.waits) ∧ w.cell? ⟨C, 8, none⟩ = some (.int .i64 d.token) := by
  obtain ⟨z, t, hd⟩ := h.doc
  obtain ⟨-, -, -, -, -, -, -, c7, c8, -⟩ := hd.reads
  exact ⟨c7, c8⟩
theorem Two.ltC (h : Two B C s d W w) : C < w.heap.size := by
  obtain ⟨z, t, hd⟩ := h.doc
  exact hd.lt
end Go.Proofs.Ytfbmjaelkijmnaa
