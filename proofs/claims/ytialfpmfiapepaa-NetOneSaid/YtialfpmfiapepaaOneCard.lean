/-
  NetOne: for every input the law returns true, and each argument reads behind the call as it read before. No condition.
-/
import Derived.Test.YtialfpmfiapepaaCard
import Derived.Test.YtialfpmfiapepaaOne
import Derived.SizedLaws
import Derived.Lib.SmallJoins
namespace Go.Proofs.Ytialfpmfiapepaa.netOne
open Go.ChangeShapes Go.WideShapes Go.ChangeAt Go.RowKit
set_option linter.unusedVariables false

section
variable {H : Type} {enc : TypeId × Value → H} {w : World} {base : Nat} {spare : Nat → Bool} {held : Bool}
/-- One that comes by value. -/
theorem Step.byval {base' : Nat} {v : Value} {d : DataW H} {ps : List MemPlace} (h : DataW.Trod enc Try.prog w base spare held 32 v d ps) (hv : Value.okWide Try.prog w .any base' 32 v) :
    ∃ s : Step, v = .agg #[.int .u8 s.kind, .string s.txt, .int .i64 s.dst, .int .i64 s.k, .int .i64 s.pos, .int .u32 s.x] ∧ s.Ok ∧ s.txt.size ∈ d.weights Try.prog 32 := by
  obtain ⟨cs, rfl, hsz⟩ := okWide_struct Try.underlying32 hv
  obtain ⟨fuel, hf⟩ := h
  obtain ⟨s, hs, ok, ht⟩ := Step.of hf
  refine ⟨s, ?_, ok, ht⟩
  obtain ⟨l⟩ := cs
  simp only [Value.cells] at hs
  subst hs
  rfl
end
set_option maxRecDepth 100000 in
theorem lifted (os : Os) (started : os.Started) (H : Type) (enc : TypeId × Value → H) :
    ReturnsInHanded {} Try.checked os 7 .any (Rows.netOneSpec.pre6 enc Try.prog Try.f7 Rows.netOneRow.domain false) (Rows.netOneSpec.post enc Try.prog Try.f7 false true false false) := by
  refine returnsInHanded_of_change_sized (C := Try.checked) Try.own started (by kernel_rfl) Try.func7
    (ChangeSpec.witness6 (enc := enc) (C := Try.checked) false ⟨#[], #[.int .i64 0, .slice none 0 0, .agg #[.int .u8 0, .string ⟨#[]⟩, .int .i64 0, .int .i64 0, .int .i64 0, .int .u32 0]], []⟩ 8 (by kernel_rfl) (by kernel_rfl) (by kernel_rfl) (by kernel_rfl)) ?_
  intro W base args ds gs before hval0 hW hcnd hsz0 _
  have hval : ∀ (j : Nat) t v, Try.f7.params[j]? = some t → args[j]? = some v → Value.okWide Try.prog W .any base t v := hval0
  have hW' := hW
  obtain ⟨p, q, hA0, hV, rfl, hfz, hnd⟩ := hW
  have hsz : (DataW.weightsEach Try.prog (Try.f7.params.toList ++ Rows.netOneSpec.plain.varTypes Try.prog) (ds ++ gs)).all (· ≤ reachBytes) = true := hsz0
  have hA : DataW.TrodAll enc Try.prog W 0 (fun _ => true) true Try.f7.params.toList args.toList ds p := hA0
  rw [Try.params7] at hA hval hsz
  obtain ⟨v0, vs0, d0, ds0, p0, q0, ha0, rfl, rfl, h0, r0⟩ := trodAll_cons hA
  obtain ⟨v1, vs1, d1, ds1, p1, q1, ha1, rfl, rfl, h1, r1⟩ := trodAll_cons r0
  obtain ⟨v2, vs2, d2, ds2, p2, q2, ha2, rfl, rfl, h2, r2⟩ := trodAll_cons r1
  obtain ⟨e0, rfl, rfl⟩ := trodAll_nil r2
  subst e0
  subst ha2
  subst ha1
  obtain rfl : args = #[v0, v1, v2] := by cases args; simp_all
  obtain ⟨rfl, rfl⟩ := trodVars_none hV
  obtain ⟨x0, rfl, rfl, rfl, w0⟩ := open_int Try.underlying3 (hval 0 3 v0 rfl rfl) h0
  obtain ⟨l1, hl1, ht1⟩ := Step.open_ h1 (hval 1 22 v1 rfl rfl)
  have hl1' := hl1
  obtain ⟨oa1, cap1, rfl, -⟩ := hl1'
  obtain ⟨s2, rfl, hs2, ht2⟩ := Step.byval h2 (hval 2 32 v2 rfl rfl)
  have hz1 : ∀ s ∈ l1, s.txt.size ≤ 140737488351232 := fun s hs => of_decide_eq_true (List.all_eq_true.1 hsz _ (DataW.weights_mem_each (j := 1) rfl rfl _ (ht1 s hs)))
  have hz2 : s2.txt.size ≤ 140737488351232 := of_decide_eq_true (List.all_eq_true.1 hsz _ (DataW.weights_mem_each (j := 2) rfl rfl _ ht2))
  obtain ⟨kind, txt, dst, K, pos, xi⟩ := s2
  obtain ⟨-, -, -, -, -, hK0, hK1, hp0, hp1, hx0, hx1⟩ := hs2
  simp only at hK0 hK1 hp0 hp1 hx0 hx1 hz2
  obtain ⟨xx, rfl⟩ := u_of' xi hx0 hx1
  clear hA0 hval0 hsz0
  have h := one_walk x0 oa1 cap1 l1 kind txt dst K pos xx W hl1 hz1 hz2 hK0 hK1 hp0 hp1
  refine h.mono fun e W' ⟨he, hb⟩ => ?_
  subst he
  exact ⟨_, rfl, law_post Try.laidOut (by kernel_rfl) rfl rfl Try.underlying4 rfl hW' hb⟩

theorem proved : Rows.NetOneSaid :=
  OpenClaim.holds_of_wide 7 Try.f7 rfl rfl rfl rfl rfl rfl rfl ⟨rfl, rfl, rfl, rfl, rfl⟩ rfl rfl rfl rfl rfl (by kernel_rfl) Try.func7 (by kernel_rfl)
    (of_decide_eq_true (by kernel_rfl)) (by unfold Func.isWrapper; first | (rw [if_pos (by decide +kernel)]; kernel_rfl) | (rw [if_neg (by decide +kernel)]; exact ⟨rfl, rfl⟩))
    (fun os started H enc _ => lifted os started H enc)
#print axioms proved
end Go.Proofs.Ytialfpmfiapepaa.netOne
