/-
  The walks of the document's lists.
-/
import Derived.Test.YtimlenapeghknaaWalks4
import Derived.Test.YtimlenapeghknaaWalks5
namespace Go.Proofs.Ytimlenapeghknaa
open Go.RowKit
set_option linter.unusedVariables false
set_option linter.unusedSimpArgs false
attribute [local go_sem ↓] Go.wp_at_zero Go.wp_at_succ
theorem riseFrom_zero (x : Idn) (l : List Idn) : riseFrom ⟨0, 0⟩ (x :: l) = (x.may && riseFrom x l) := by
  cases h : x.may
  · simp [riseFrom, h]
  · have := (x.may_iff).1 h
    have h1 : ¬ x.a < 0 := by omega
    have h2 : ¬ x.a = 0 := by omega
    simp [riseFrom, h, h1, h2]
/-- The one ahead of place k. -/
def prev (l : List Idn) (k : Nat) : Idn := if k = 0 then ⟨0, 0⟩ else l.getD (k - 1) ⟨0, 0⟩
set_option maxRecDepth 100000 in
set_option maxHeartbeats 8000000 in
theorem rises_any (oa : Option Addr) (cap : Nat) (l : List Idn) (w : World) (hl : Row oa l w) :
    Calls Try.prog 25 #[.slice oa l.length cap] w fun e w' => e = .returned (.bool (rise l)) ∧ Below w.heap.size w w' := by
  have hlen := hl.len
  go_enter Try.func25, Try.ntmps25
  go_wp2_with fail
  go_loopw [3] (fun x wr => ∃ k : Nat, k ≤ l.length ∧ x = .int .i64 k ∧ Below w.heap.size w wr ∧ Hid (rise l = riseFrom (prev l k) (l.drop k))) (fun x _ => l.length - (intOf x).toNat)
  case atStart => exact ⟨0, by omega, rfl, Below.refl _ _, Lib.hid rfl⟩
  case round =>
    obtain ⟨k, hk, rfl, hb, HE⟩ := hrel
    by_cases hlt : k < l.length
    · have hR := hl.below hb
      obtain ⟨b, off, rfl, hbl, q0, q1⟩ := hR.cell k hlt
      have HX : Hid (prev l (k + 1) = l[k]) := Lib.hid (by simp [prev, hlt])
      have HC := drop_cons l k hlt
      have HE2 : Hid (rise l = riseFrom (prev l k) (l[k] :: l.drop (k + 1))) := Lib.hid (by rw [HE.out, HC])
      clear HC HE
      have hp : 0 < k → (prev l k = l.getD (k - 1) ⟨0, 0⟩ ∧ wr.cell? ⟨b, off + (k - 1) * 2, none⟩ = some (.int .i64 (l.getD (k - 1) ⟨0, 0⟩).a) ∧ wr.cell? ⟨b, off + (k - 1) * 2 + 1, none⟩ = some (.int .i64 (l.getD (k - 1) ⟨0, 0⟩).i)) := fun h0 => by
        obtain ⟨b', off', e, -, r0, r1⟩ := hR.cell (k - 1) (by omega)
        simp only [Option.some.injEq, Addr.mk.injEq, and_true] at e
        obtain ⟨rfl, rfl⟩ := e
        have hg : l.getD (k - 1) ⟨0, 0⟩ = l[k - 1] := by simp [List.getD_eq_getElem?_getD, show k - 1 < l.length by omega]
        rw [hg]
        exact ⟨by simp [prev, show k ≠ 0 by omega, hg, show k - 1 < l.length by omega], r0, r1⟩
      have HP := Lib.hid hp
      clear hp hR hl
      generalize l[k] = x at q0 q1 HX HE2
      generalize (l.getD (k - 1) ⟨0, 0⟩) = y at HP
      have hm : ∃ m, m = mayB x.a x.i := ⟨_, rfl⟩
      obtain ⟨m, hm⟩ := hm
      go_wp2_with fail
      refine (may23 x.a x.i _).mono ?_
      rintro e w2 ⟨rfl, hb2⟩
      rw [← hm]
      have HM := Lib.hid hm
      clear hm
      have hb3 := Lib.hid (hb.trans (hb2.mono hb.size))
      cases m
      · go_wp2_with fail
        go_ret
        exact ⟨ret_b (by rw [HE2.out]; simp [riseFrom, Idn.may, ← HM.out]), hb3.out⟩
      · by_cases h0 : 0 < k
        · obtain ⟨hpv, p0, p1⟩ := HP.out h0
          have HPV := Lib.hid hpv
          clear hpv HP
          have q0 := (hb2.cell (p := ⟨b, off + k * 2, none⟩) hbl).trans q0
          have q1 := (hb2.cell (p := ⟨b, off + k * 2 + 1, none⟩) hbl).trans q1
          have p0 := (hb2.cell (p := ⟨b, off + (k - 1) * 2, none⟩) hbl).trans p0
          have p1 := (hb2.cell (p := ⟨b, off + (k - 1) * 2 + 1, none⟩) hbl).trans p1
          have hk1 : IntKind.i64.wrap ((k : Int) - 1) = ((k - 1 : Nat) : Int) := by rw [IntWalk.i64_in _ (by omega)]; omega
          have hi0 : 0 < (k : Int) := by omega
          have hi1 : k - 1 < l.length := by omega
          clear hb2
          by_cases c1 : x.a < y.a
          · go_wp2_with fail
            go_quiet (fail)
            go_wp2_with fail
            go_ret
            exact ⟨ret_b (by rw [HE2.out, HPV.out]; simp [riseFrom, c1]), below_drewN hb3.out _⟩
          · by_cases c2 : y.a = x.a
            · have c2' : (y.a == x.a) = true := by simpa using c2
              have HC := Lib.hid c2
              clear c2
              by_cases c3 : x.i ≤ y.i
              · go_wp2_with fail
                go_quiet (fail)
                go_wp2_with fail
                go_ret
                exact ⟨ret_b (by rw [HE2.out, HPV.out]; simp [riseFrom, HC.out, c3]), below_drewN hb3.out _⟩
              · go_wp2_with fail
                go_quiet (fail)
                go_wp2_with fail
                refine ⟨⟨k + 1, by omega, by go_num, below_drewN hb3.out _, Lib.hid ?_⟩, ?_⟩
                · rw [HE2.out, HPV.out, HX.out]; simp only [riseFrom, Idn.may, ← HM.out]; simp [HC.out, c3]
                · simp only [intOf]; omega
            · have c2' : (y.a == x.a) = false := by simpa using c2
              have c1' : decide (x.a < y.a) = false := by simpa using c1
              have HC := Lib.hid c2
              have C1 := Lib.hid c1
              clear c2 c1
              go_wp2_with fail
              go_quiet (fail)
              go_wp2_with fail
              refine ⟨⟨k + 1, by omega, by go_num, below_drewN hb3.out _, Lib.hid ?_⟩, ?_⟩
              · rw [HE2.out, HPV.out, HX.out]; simp only [riseFrom, Idn.may, ← HM.out]; simp [C1.out, Ne.symm HC.out, HC.out, show ¬ x.a = y.a from fun e => HC.out e.symm]
              · simp only [intOf]; omega
        · obtain rfl : k = 0 := by omega
          clear HP hb2
          go_wp2_with fail
          go_quiet (fail)
          go_wp2_with fail
          refine ⟨⟨0 + 1, by omega, by go_num, below_drewN hb3.out _, Lib.hid ?_⟩, ?_⟩
          · rw [HE2.out, HX.out, show prev l 0 = ⟨0, 0⟩ from rfl, riseFrom_zero]; simp [Idn.may, ← HM.out]
          · simp only [intOf]; omega
    · obtain rfl : k = l.length := by omega
      go_wp2_with fail
      go_ret
      exact ⟨ret_b (by rw [HE.out, List.drop_length]; rfl), hb⟩
end Go.Proofs.Ytimlenapeghknaa
