/-
  The laws of links in plain words: what a row of steps does, and what never goes back.
-/
import Derived.Test.YtacmplomahmaiaaWorks
namespace Go.Proofs.Ytacmplomahmaiaa
open Go.RowKit
def Step.fr (s : Step) : Fr := ⟨s.kind, s.fa, s.fi, s.ta, s.ti, s.n, 0⟩
def stepF (ma mi : Int) (g : Int → Peer) (s : Step) : Int → Peer := if s.fence = true then fenceF g s.fa s.fi else takeF g s.fr ma mi
def playF (ma mi : Int) (g : Int → Peer) (l : List Step) : Int → Peer := l.foldl (stepF ma mi) g
theorem play_snoc (ma mi : Int) (g : Int → Peer) (l : List Step) (k : Nat) (h : k < l.length) : playF ma mi g (l.take (k + 1)) = stepF ma mi (playF ma mi g (l.take k)) l[k] := by
  unfold playF
  rw [List.take_succ_eq_append_getElem h, List.foldl_append]
  rfl
/-- Nothing goes back. -/
structure Peer.Le (p q : Peer) : Prop where
  new : p.newest ≤ q.newest
  fen : p.fenced ≤ q.fenced
  nums : q.newest = p.newest → p.beat ≤ q.beat ∧ p.reply ≤ q.reply
theorem Peer.Le.refl (p : Peer) : p.Le p := ⟨by omega, by omega, fun _ => ⟨by omega, by omega⟩⟩
theorem Peer.Le.trans {p q r : Peer} (h : p.Le q) (k : q.Le r) : p.Le r := by
  obtain ⟨a, b, c⟩ := h
  obtain ⟨d, e, f⟩ := k
  refine ⟨by omega, by omega, fun hn => ?_⟩
  have := c (by omega)
  have := f (by omega)
  omega
/-- What a frame that is taken leaves. -/
theorem Peer.took (p : Peer) (f : Fr) (mi : Int) (h : (p.take f mi).2 = 0) :
    p.Le (p.take f mi).1 ∧ (p.take f mi).1.newest = f.fi ∧ (f.kind = 5 → f.n = (p.take f mi).1.beat) ∧ (f.kind = 6 → f.n = (p.take f mi).1.reply) := by
  unfold Peer.take at h ⊢
  split at h
  · simp at h
  · rename_i h1
    split at h
    · simp at h
    · rename_i h2
      simp at h1 h2
      rw [if_neg (by simpa using h1), if_neg (by simpa using h2)]
      split at h
      · rename_i h3
        simp at h3
        rw [if_pos (by simpa using h3)]
        by_cases k6 : f.kind = 6
        · simp only [k6, if_true]
          refine ⟨⟨by simp only; omega, by simp only; omega, fun hn => by simp only at hn; omega⟩, trivial, fun hk => by omega, fun _ => trivial⟩
        · by_cases k5 : f.kind = 5
          · simp only [k5, if_true]
            refine ⟨⟨by simp; omega, by simp, fun hn => by simp at hn; omega⟩, by simp, fun _ => by simp, fun hk => by omega⟩
          · simp only [k5, k6, if_false]
            refine ⟨⟨by simp only; omega, by simp only; omega, fun hn => by simp only at hn; omega⟩, trivial, fun hk => hk.elim, fun hk => hk.elim⟩
      · rename_i h3
        simp at h3
        split at h
        · simp at h
        · rename_i h4
          simp at h4
          rw [if_neg (by simpa using h3), if_neg (by simpa using h4)]
          have hfi : f.fi = p.newest := by omega
          by_cases k6 : f.kind = 6
          · simp only [k6, if_true]
            have := h4.2 k6
            refine ⟨⟨by simp, by simp, fun _ => ⟨by simp, by simp only; omega⟩⟩, hfi.symm, fun hk => by omega, fun _ => trivial⟩
          · by_cases k5 : f.kind = 5
            · have := h4.1 k5
              simp only [k5, if_true]
              refine ⟨⟨by simp, by simp, fun _ => ⟨by simp; omega, by simp⟩⟩, by simp [hfi], fun _ => by simp, fun hk => by omega⟩
            · simp only [k5, k6, if_false]
              exact ⟨Peer.Le.refl p, hfi.symm, fun hk => hk.elim, fun hk => hk.elim⟩
theorem take_le (g : Int → Peer) (f : Fr) (ma mi a : Int) : (g a).Le (takeF g f ma mi a) := by
  unfold takeF
  split
  · rename_i h
    unfold set
    split
    · rename_i e; subst e; exact (Peer.took _ _ _ h.2).1
    · exact Peer.Le.refl _
  · exact Peer.Le.refl _
theorem fence_le (g : Int → Peer) (x i a : Int) : (g a).Le (fenceF g x i a) := by
  unfold fenceF
  split
  · unfold set
    split
    · rename_i e; subst e; exact ⟨by simp [Peer.fence], by simp only [Peer.fence]; omega, fun _ => ⟨by simp [Peer.fence], by simp [Peer.fence]⟩⟩
    · exact Peer.Le.refl _
  · exact Peer.Le.refl _
theorem step_le (ma mi : Int) (g : Int → Peer) (s : Step) (a : Int) : (g a).Le (stepF ma mi g s a) := by
  unfold stepF
  split
  · exact fence_le _ _ _ _
  · exact take_le _ _ _ _ _
theorem play_le (ma mi : Int) (l : List Step) (a : Int) : ∀ g : Int → Peer, (g a).Le (playF ma mi g l a) := by
  induction l with
  | nil => intro g; exact Peer.Le.refl _
  | cons s l ih => intro g; exact (step_le ma mi g s a).trans (ih (stepF ma mi g s))
/-- A frame that was taken: its form, and what is known then. -/
theorem takeE_zero {g : Int → Peer} {f : Fr} {ma mi : Int} (h : takeE g f ma mi = 0) : formB f ma = true ∧ takeF g f ma mi f.fa = ((g f.fa).take f mi).1 ∧ ((g f.fa).take f mi).2 = 0 := by
  unfold takeE at h
  split at h
  · rename_i hf
    exact ⟨hf, by simp [takeF, hf, h, set], h⟩
  · simp at h
theorem form_may {f : Fr} {ma : Int} (h : formB f ma = true) : mayB f.fa f.fi = true := by
  simp [formB] at h; exact h.1.1
theorem may_inc {a i : Int} (h : mayB a i = true) : 1 ≤ a ∧ a ≤ 12 ∧ 1 ≤ i ∧ i ≤ 1048576 := by
  unfold mayB at h; simpa using h
/-- An older life's frame is not taken. -/
theorem older_not {g : Int → Peer} {f : Fr} {ma mi : Int} (h : f.fi < (g f.fa).newest) : takeE g f ma mi ≠ 0 := by
  unfold takeE
  split
  · unfold Peer.take
    rw [if_pos (by simp [h])]
    simp
  · simp
theorem fenced_not {g : Int → Peer} {f : Fr} {ma mi : Int} (h : f.fi ≤ (g f.fa).fenced) : takeE g f ma mi ≠ 0 := by
  unfold takeE
  split
  · unfold Peer.take
    split
    · simp
    · rw [if_pos (by simpa using h)]
      simp
  · simp
theorem twice_not {g : Int → Peer} {f : Fr} {ma mi : Int} (h : f.fi ≤ (g f.fa).newest) (hk : (f.kind = 5 ∧ (f.fi = (g f.fa).newest → f.n ≤ (g f.fa).beat)) ∨ (f.kind = 6 ∧ (f.fi = (g f.fa).newest → f.n ≤ (g f.fa).reply))) : takeE g f ma mi ≠ 0 := by
  by_cases hl : f.fi < (g f.fa).newest
  · exact older_not hl
  · have he : f.fi = (g f.fa).newest := by omega
    unfold takeE
    split
    · unfold Peer.take
      split
      · simp
      · split
        · simp
        · rw [if_neg (by simp; omega), if_pos]
          · simp
          · rcases hk with ⟨k, hn⟩ | ⟨k, hn⟩
            · simp [k, hn he]
            · simp [k, hn he]
    · simp
theorem takeF_not {g : Int → Peer} {f : Fr} {ma mi : Int} (h : takeE g f ma mi ≠ 0) : takeF g f ma mi = g := by
  unfold takeF
  rw [if_neg]
  intro hc
  apply h
  simp [takeE, hc.1, hc.2]
end Go.Proofs.Ytacmplomahmaiaa
