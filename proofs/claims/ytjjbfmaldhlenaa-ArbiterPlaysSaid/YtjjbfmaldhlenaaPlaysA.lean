/-
  Ours and the document's arbiter side by side, with a copy of each.
-/
import Derived.Test.YtjjbfmaldhlenaaRefTake
import Derived.Test.YtjjbfmaldhlenaaSteps
import Derived.Deep.CutBlock
namespace Go.Proofs.Ytjjbfmaldhlenaa
open Go.RowKit
set_option linter.unusedVariables false
set_option linter.unusedSimpArgs false
attribute [local go_sem ↓] Go.wp_at_zero Go.wp_at_succ
set_option maxRecDepth 100000 in
theorem frame14 (what a i kind n token : Int) (w : World) :
    Calls Try.prog 14 #[.agg #[.int .u8 what, .int .i64 a, .int .i64 i, .int .u8 kind, .int .i64 n, .int .i64 token]] w fun e w' => e = .returned (Fr.val ⟨kind, a, i, 0, 0, n, token⟩) ∧ Below w.heap.size w w' := by
  go_enter Try.func14, Try.ntmps14
  go_wp2
  refine bodyPost_ret (v := Fr.val ⟨kind, a, i, 0, 0, n, token⟩) (by simp [results, Try.results14, go_sem, Fr.val, Fr.cells]) rfl ⟨rfl, ?_⟩
  exact ((Below.refl _ _).alloc (Nat.le_refl _) _).alloc (by simp) _
/-- Who holds the lease, told. -/
def St.hA (s : St) : Int := if s.now < s.til then s.ta else 0
def St.hI (s : St) : Int := if s.now < s.til then s.ti else 0
def St.hB (s : St) : Bool := decide (s.now < s.til)
theorem holds15 (B : Nat) (s : St) (w : World) (h : At B s w) :
    Calls Try.prog 15 #[.pointer (some ⟨B, 0, none⟩)] w fun e w' => e = .returned (.tuple #[.agg #[.int .i64 s.hA, .int .i64 s.hI], .bool s.hB]) ∧ Below w.heap.size w w' := by
  have := holder_any B s w h
  unfold St.hA St.hI St.hB
  by_cases hd : s.now < s.til
  · simpa [hd] using this
  · simpa [hd] using this
theorem holds24 (B : Nat) (s : St) (w : World) (h : Rf B s w) :
    Calls Try.prog 24 #[.pointer (some ⟨B, 0, none⟩)] w fun e w' => e = .returned (.tuple #[.agg #[.int .i64 s.hA, .int .i64 s.hI], .bool s.hB]) ∧ Below w.heap.size w w' := by
  have := rholder_any B s w h
  unfold St.hA St.hI St.hB
  by_cases hd : s.now < s.til
  · simpa [hd] using this
  · simpa [hd] using this
/-- Ours (state s) in B, the document's (state t) in C. -/
structure Duo (B C : Nat) (s t : St) (W w : World) : Prop where
  here : At B s w
  doc : Rf C t w
  ne : B ≠ C
  ownB : W.heap.size ≤ B
  ownC : W.heap.size ≤ C
  below : Below W.heap.size W w
section
variable {B C D E : Nat} {s t s' d : St} {W w w' : World}
theorem Duo.kept (h : Duo B C s t W w) (hb : Below w.heap.size w w') : Duo B C s t W w' := ⟨h.here.kept hb, h.doc.kept hb, h.ne, h.ownB, h.ownC, then_below h.below hb⟩
theorem Duo.alloc (h : Duo B C s t W w) (o : Obj) : Duo B C s t W (w.alloc o) := h.kept ((Below.refl _ _).alloc (Nat.le_refl _) _)
theorem Duo.drew (h : Duo B C s t W w) : Duo B C s t W w.drew := ⟨h.here, h.doc, h.ne, h.ownB, h.ownC, ⟨h.below.os, h.below.tape, h.below.output, h.below.size, h.below.block⟩⟩
theorem Duo.drewN (h : Duo B C s t W w) (n : Nat) : Duo B C s t W (w.drewN n) := ⟨h.here, h.doc, h.ne, h.ownB, h.ownC, below_drewN h.below n⟩
theorem Duo.ours (h : Duo B C s t W w) (hA : At B s' w') (hK : Keep B w w') : Duo B C s' t W w' :=
  ⟨hA, h.doc.other hK (Ne.symm h.ne), h.ne, h.ownB, h.ownC, h.below.trans (hK.below h.ownB h.below.size)⟩
theorem Duo.docs (h : Duo B C s t W w) (hA : Rf C s' w') (hK : Keep C w w') : Duo B C s s' W w' :=
  ⟨h.here.other hK h.ne, hA, h.ne, h.ownB, h.ownC, h.below.trans (hK.below h.ownC h.below.size)⟩
/-- Another block alone has turned. -/
theorem Duo.beside (h : Duo B C s t W w) (hK : Keep D w w') (h1 : B ≠ D) (h2 : C ≠ D) (hD : W.heap.size ≤ D) : Duo B C s t W w' :=
  ⟨h.here.other hK h1, h.doc.other hK h2, h.ne, h.ownB, h.ownC, h.below.trans (hK.below hD h.below.size)⟩
end
/-- What a play's arbiter may be behind k steps. -/
structure Pl (term : Int) (k : Nat) (s : St) : Prop where
  t : s.term = term
  n0 : 0 ≤ s.now
  n1 : s.now ≤ k
  k0 : 0 ≤ s.token
  k1 : s.token ≤ k
theorem Pl.ok {term : Int} {k : Nat} {s : St} (h : Pl term k s) (t1 : 1 ≤ term) (t2 : term ≤ 4096) (hk : k ≤ 1000) : s.Ok := by
  obtain ⟨a, b, c, d, e⟩ := h
  exact ⟨by omega, by omega, by omega, by omega, by omega, by omega⟩
theorem Pl.start (term : Int) : Pl term 0 (.fresh term) := by constructor <;> simp [St.fresh]
theorem Pl.tick {term : Int} {k : Nat} {s : St} (h : Pl term k s) : Pl term (k + 1) s.tick := by
  obtain ⟨a, b, c, d, e⟩ := h
  constructor <;> simp [St.tick] <;> omega
theorem Pl.anew {term : Int} {k : Nat} {s : St} (h : Pl term k s) : Pl term (k + 1) s.start := by
  obtain ⟨a, b, c, d, e⟩ := h
  constructor <;> simp [St.start] <;> omega
theorem take_keeps (s : St) (f : Fr) : (s.take f).st.term = s.term ∧ (s.take f).st.now = s.now ∧ ((s.take f).st.token = s.token ∨ (s.take f).st.token = s.token + 1) := by
  unfold St.take
  split
  · split
    · unfold St.acquire
      split
      · exact ⟨rfl, rfl, .inl rfl⟩
      · split
        · exact ⟨rfl, rfl, .inl rfl⟩
        · split
          · exact ⟨rfl, rfl, .inl rfl⟩
          · exact ⟨rfl, rfl, .inr rfl⟩
    · split
      · unfold St.renew
        split
        · exact ⟨rfl, rfl, .inl rfl⟩
        · exact ⟨rfl, rfl, .inl rfl⟩
      · split
        · unfold St.release
          split
          · exact ⟨rfl, rfl, .inl rfl⟩
          · exact ⟨rfl, rfl, .inl rfl⟩
        · exact ⟨rfl, rfl, .inl rfl⟩
  · exact ⟨rfl, rfl, .inl rfl⟩
theorem Pl.take {term : Int} {k : Nat} {s : St} (h : Pl term k s) (f : Fr) : Pl term (k + 1) (s.take f).st := by
  obtain ⟨a, b, c, d, e⟩ := h
  obtain ⟨q1, q2, q3⟩ := take_keeps s f
  constructor <;> first | omega | (rcases q3 with q3 | q3 <;> omega)
end Go.Proofs.Ytjjbfmaldhlenaa
