/-
  The walk of the law HolderRefused.
-/
import Derived.Test.YtfbmjaelkijmnaaDrop
namespace Go.Proofs.Ytfbmjaelkijmnaa
open Go.RowKit
/-- The holder behind a Refuse. -/
def St.refuse (s : St) : St := { s with waits := false, token := 0, since := 0, refused := s.refused || s.kind == 9 }
theorem take_refuse {s : St} (hw : s.waits = true) : s.take ⟨13, 0, 0, 0, 0, s.n, 0⟩ = (s.refuse, true) := by simp [St.take, St.refuse, hw]
theorem take_other {s : St} (f : Fr) (h : s.waits = false ∨ f.n ≠ s.n) : s.take f = (s, false) := by
  rcases h with h | h <;> simp [St.take, h]
theorem take_grant {s : St} (hw : s.waits = true) {t : Int} (ht : 0 < t) : s.take ⟨12, 0, 0, 0, 0, s.n, t⟩ = ({ s with waits := false, token := t, since := s.asked }, true) := by simp [St.take, hw, ht]
theorem refuse_holds (s : St) (now : Int) : s.refuse.holds now = false := by simp [St.refuse, St.holds]
theorem refuse_want_no {s : St} (h : s.refuse.refused = true) (now : Int) : s.refuse.want now = (s.refuse, .zero, false) := by
  unfold St.want; rw [h]; rfl
theorem refuse_want {a i h r : Int} {k : Nat} {s : St} (J : Inv a i h r k s) (hr : s.refuse.refused = false) (now : Int) :
    s.refuse.want now = (St.asking a i h r (s.n + 1) (s.refuse.time now) 9 0 0, ⟨9, a, i, 0, 0, s.n + 1, 0⟩, true) := by
  have e1 := J.addr
  have e2 := J.inc
  have e3 := J.hold
  have e4 := J.retry
  subst e1 e2 e3 e4
  have hr' : (s.refused || s.kind == 9) = false := hr
  simp [St.refuse, St.want, St.holds, St.ask, St.asks, St.none, St.asking, hr']
theorem take_of2 {C : Nat} {s : St} (s' : St) (f : Fr) (b : Bool) (now : Int) {W w : World} (h : Has C s W w) (hs : s.take f = (s', b)) :
    Calls Try.prog 13 #[.pointer (some ⟨C, 0, none⟩), f.val, .int .i64 now] w fun e w' => e = .returned (.bool b) ∧ Has C s' W w' ∧ Keep C w w' := by
  have hc := take_any C s f now w h.here
  rw [hs] at hc
  exact hc.mono fun e w' ⟨he, hA, hK⟩ => ⟨he, h.kept hA hK, hK⟩
/-- A copy made, and asked. -/
theorem copy_of {C : Nat} {s : St} {W w : World} (h : Has C s W w) :
    Calls Try.prog 17 #[.pointer (some ⟨C, 0, none⟩)] w fun e w' => ∃ D, e = .returned (.pointer (some ⟨D, 0, none⟩)) ∧ Has C s W w' ∧ Has D s W w' ∧ C ≠ D := by
  refine (copy_any C s w h.here).mono fun e w' ⟨D, he, hA, hD, hb⟩ => ⟨D, he, h.under hb, ⟨hA, Nat.le_trans h.below.size hD, then_below h.below hb⟩, ?_⟩
  have := h.here.lt
  omega
/-- The copy is asked: the first one is not touched. -/
theorem want_copy {C D : Nat} {s d : St} {W w : World} (h : Has C s W w) (hd : Has D d W w) (hCD : C ≠ D) (now : Int) (ok : d.Ok) (d' : St) (f : Fr) (b : Bool) (hw : d.want now = (d', f, b)) :
    Calls Try.prog 12 #[.pointer (some ⟨D, 0, none⟩), .int .i64 now] w fun e w' => e = .returned (.tuple #[f.val, .bool b]) ∧ Has C s W w' := by
  have hc := want_any D d now w hd.here ok
  rw [hw] at hc
  refine hc.mono fun e w' ⟨he, hA, hK⟩ => ⟨he, h.here.other hK hCD, h.own, (hd.kept hA hK).below⟩
set_option maxRecDepth 100000 in
set_option maxHeartbeats 4000000 in
theorem refused_walk (a i h r : Int) (oa : Option Addr) (cap : Nat) (l : List Step) (now0 : Int) (W : World) (hl : Holds W (.slice oa l.length cap) l) :
    Calls Try.prog 4 #[.agg #[.int .i64 a, .int .i64 i], .int .i64 h, .int .i64 r, .slice oa l.length cap, .int .i64 now0] W fun e w' => e = .returned (.bool true) ∧ Below W.heap.size W w' := by
  by_cases hlen : l.length ≤ 300
  · by_cases hm : may a i h r
    · have HM := Lib.hid hm
      clear hm
      go_enter Try.func4, Try.ntmps4
      go_wp2_with fail
      refine (works_any _).mono ?_
      rintro e w0 ⟨rfl, hbw⟩
      have hcw := fun (b o : Nat) (h : b < _) => hbw.cell (p := ⟨b, o, none⟩) h
      go_wp2_with fail
      clear hcw
      refine (new_of a i h r hbw HM.out).mono ?_
      rintro e w1 ⟨C, rfl, h1, hC⟩
      have hl' := (hl.below ((Below.refl _ _).alloc (Nat.le_refl _) (.cells #[.int .i64 a, .int .i64 i] 23)))
      go_wp2_with fail
      go_loopw [13, 14, 15] (fun b n x wr => ∃ (k : Nat) (s : St), k ≤ l.length ∧ x = .int .i64 k ∧ b = .bool (s.kind == 10) ∧ n = .int .i64 s.n ∧ Has C s (W.alloc (.cells #[.int .i64 a, .int .i64 i] 23)) wr ∧ Inv a i h r k s) (fun _ _ x _ => l.length - (intOf x).toNat)
      case atStart => exact ⟨0, _, by omega, rfl, rfl, rfl, h1, Inv.start a i h r⟩
      case round =>
        obtain ⟨k, s, hk, rfl, rfl, rfl, hs, J⟩ := hrel
        have hok := J.ok HM.out (by omega)
        by_cases hlt : k < l.length
        · have hlw := hl'.below hs.below
          obtain ⟨b, off, rfl, hb, hx, q0, q1, q2, q3, q4⟩ := hlw.step hlt
          generalize l[k] = x at hx q0 q1 q2 q3 q4
          obtain ⟨what, now, kind, n, tok⟩ := x
          simp only at q0 q1 q2 q3 q4
          clear hlw hl' hl
          have hn0 := J.n0
          have hn1 := J.n1
          have hsa := fun o => hs.lay o
          by_cases hw0 : what = 0
          · subst hw0
            have J3 := J.want now
            rcases J.cases now with hw | ⟨hrf, -, -, hw⟩ | ⟨hrf, -, -, hw⟩
            all_goals rw [hw] at J3
            · have HW := Lib.hid hw
              go_wp2_with fail
              refine (refused_any C s _ (hsa _).here).mono ?_
              rintro e w2 ⟨rfl, rfl⟩
              go_wp2_with fail
              refine (want_of _ _ _ now (hsa _) hok HW.out).mono ?_
              rintro e w3 ⟨rfl, h3⟩
              have h3' := fun o => h3.lay o
              simp only [Fr.val, Fr.cells, Fr.zero]
              go_wp2_with fail
              refine ⟨⟨k + 1, s, by omega, rfl, rfl, rfl, h3' _, J3⟩, ?_⟩
              simp only [intOf]
              omega
            · have HW := Lib.hid hw
              go_wp2_with fail
              refine (refused_any C s _ (hsa _).here).mono ?_
              rintro e w2 ⟨rfl, rfl⟩
              go_wp2_with fail
              refine (want_of _ _ _ now (hsa _) hok HW.out).mono ?_
              rintro e w3 ⟨rfl, h3⟩
              have h3' := fun o => h3.lay o
              simp only [Fr.val, Fr.cells]
              go_wp2_with fail
              refine ⟨⟨k + 1, St.asking a i h r (s.n + 1) (s.time now) 9 0 0, by omega, rfl, rfl, rfl, h3' _, J3⟩, ?_⟩
              simp only [intOf]
              omega
            · have HW := Lib.hid hw
              go_wp2_with fail
              refine (refused_any C s _ (hsa _).here).mono ?_
              rintro e w2 ⟨rfl, rfl⟩
              go_wp2_with fail
              refine (want_of _ _ _ now (hsa _) hok HW.out).mono ?_
              rintro e w3 ⟨rfl, h3⟩
              have h3' := fun o => h3.lay o
              simp only [Fr.val, Fr.cells]
              go_wp2_with fail
              refine ⟨⟨k + 1, St.asking a i h r (s.n + 1) (s.time now) 10 s.token s.since, by omega, rfl, rfl, rfl, h3' _, J3⟩, ?_⟩
              simp only [intOf]
              omega
          · by_cases hw1 : what = 1
            · subst hw1
              by_cases hc : s.waits = true ∧ n = s.n
              · obtain ⟨hwt, rfl⟩ := hc
                have HT := Lib.hid (take_refuse hwt)
                have J3 := J.take ⟨13, 0, 0, 0, 0, s.n, 0⟩
                rw [HT.out] at J3
                have hok3 := J3.ok HM.out (by omega)
                have hCb := hs.here.lt
                rcases J.kind hwt with e | e <;> cases hr0 : s.refused
                all_goals
                  obtain ⟨rf, hrf, hx⟩ : ∃ rf, s.refuse.refused = rf ∧ rf = (s.refused || !(s.kind == 10)) := ⟨_, rfl, by simp [St.refuse, e, hr0]⟩
                  obtain ⟨f2, s2, b2, hfb, hw2⟩ : ∃ f2 s2 b2, ((rf = true ∧ f2 = .zero ∧ b2 = false) ∨ (rf = false ∧ f2 = ⟨9, a, i, 0, 0, s.n + 1, 0⟩ ∧ b2 = true)) ∧ s.refuse.want now0 = (s2, f2, b2) := by
                    cases rf
                    · exact ⟨_, _, _, .inr ⟨rfl, rfl, rfl⟩, refuse_want J hrf now0⟩
                    · exact ⟨_, _, _, .inl ⟨rfl, rfl, rfl⟩, refuse_want_no hrf now0⟩
                  rw [hr0, e] at hx
                  simp at hx
                  subst hx
                  rcases hfb with ⟨h1, rfl, rfl⟩ | ⟨h1, rfl, rfl⟩
                all_goals try (exact absurd h1 (by decide))
                all_goals
                  have HR := Lib.hid hrf
                  have HW := Lib.hid hw2
                  clear hrf hw2
                  go_wp2_with fail
                  refine (refused_any C s _ (hsa _).here).mono ?_
                  rintro e1 w2 ⟨rfl, rfl⟩
                  go_wp2_with fail
                  refine (take_of2 s.refuse ⟨13, 0, 0, 0, 0, s.n, 0⟩ true now (hsa _) HT.out).mono ?_
                  rintro e1 w3 ⟨rfl, h3, hK⟩
                  have kb := fun (o : Nat) => hK.cell (p := ⟨wr.heap.size, o, none⟩) (by simp) (by simp; omega)
                  clear hK
                  go_wp2_with fail
                  refine (token_any C s.refuse _ h3.here).mono ?_
                  rintro e1 w4 ⟨rfl, rfl⟩
                  rw [show s.refuse.token = 0 from rfl]
                  go_wp2_with fail
                  refine (holds_any C s.refuse now0 _ h3.here hok3).mono ?_
                  rintro e1 w5 ⟨rfl, m1, rfl⟩
                  rw [refuse_holds]
                  go_wp2_with fail
                  refine (holds_any C s.refuse now _ (h3.drewN m1).here hok3).mono ?_
                  rintro e1 w5 ⟨rfl, m2, rfl⟩
                  rw [refuse_holds]
                  have h5 := h3.drewN (m1 + m2)
                  clear kb
                  go_wp2_with fail
                  refine (refused_any C s.refuse _ h5.here).mono ?_
                  rintro e1 w6 ⟨rfl, rfl⟩
                  rw [HR.out]
                  go_wp2_with fail
                  refine (copy_of h5).mono ?_
                  rintro e1 w7 ⟨D, rfl, h7, hd, hCD⟩
                  go_wp2_with fail
                  refine (want_copy h7 hd hCD now0 hok3 _ _ _ HW.out).mono ?_
                  rintro e1 w8 ⟨rfl, h8⟩
                  have h8' := fun o => h8.lay o
                  simp only [Fr.val, Fr.cells, Fr.zero]
                  go_wp2_with fail
                  refine (refused_any C s.refuse _ (h8' _).here).mono ?_
                  rintro e1 w9 ⟨rfl, rfl⟩
                  rw [HR.out]
                  go_wp2_with fail
                  refine ⟨⟨k + 1, s.refuse, by omega, rfl, by first | rfl | simp [St.refuse, e], rfl, h8' _, J3⟩, ?_⟩
                  simp only [intOf]
                  omega
              · have HT := Lib.hid (take_other (s := s) ⟨13, 0, 0, 0, 0, n, 0⟩ (by
                  cases hwt : s.waits
                  · exact .inl rfl
                  · exact .inr (fun e => hc ⟨hwt, e⟩)))
                clear hc
                go_wp2_with fail
                refine (refused_any C s _ (hsa _).here).mono ?_
                rintro e w2 ⟨rfl, rfl⟩
                go_wp2_with fail
                refine (take_of s ⟨13, 0, 0, 0, 0, n, 0⟩ false now (hsa _) HT.out).mono ?_
                rintro e w3 ⟨rfl, h3⟩
                go_wp2_with fail
                refine (refused_any C s _ h3.here).mono ?_
                rintro e w4 ⟨rfl, rfl⟩
                go_wp2_with fail
                refine (copy_of h3).mono ?_
                rintro e w5 ⟨D, rfl, h5, hd, hCD⟩
                obtain ⟨s2, ⟨g1, g2, g3, g4, g5, g6, g7⟩, b2, hw2⟩ : ∃ s2 f2 b2, s.want now0 = (s2, f2, b2) := ⟨_, _, _, rfl⟩
                have HW := Lib.hid hw2
                clear hw2
                go_wp2_with fail
                refine (want_copy h5 hd hCD now0 hok _ _ _ HW.out).mono ?_
                rintro e w6 ⟨rfl, h6⟩
                have h6' := fun o => h6.lay o
                simp only [Fr.val, Fr.cells]
                go_wp2_with fail
                refine ⟨⟨k + 1, s, by omega, rfl, rfl, rfl, h6' _, J.later⟩, ?_⟩
                simp only [intOf]
                omega
            · cases hwt : s.waits
              · go_wp2_with fail
                refine (refused_any C s _ (hsa _).here).mono ?_
                rintro e w2 ⟨rfl, rfl⟩
                go_wp2_with fail
                refine (waits_any C s _ (hsa _).here).mono ?_
                rintro e w2 ⟨rfl, rfl⟩
                rw [hwt]
                go_wp2_with fail
                refine (refused_any C s _ (hsa _).here).mono ?_
                rintro e w2 ⟨rfl, rfl⟩
                go_wp2_with fail
                refine ⟨⟨k + 1, s, by omega, rfl, rfl, rfl, hsa _, J.later⟩, ?_⟩
                simp only [intOf]
                omega
              · have HT := Lib.hid (take_grant hwt (t := 1 + (k : Int)) (by omega))
                have J3 := J.take ⟨12, 0, 0, 0, 0, s.n, 1 + (k : Int)⟩
                rw [HT.out] at J3
                go_wp2_with fail
                refine (refused_any C s _ (hsa _).here).mono ?_
                rintro e w2 ⟨rfl, rfl⟩
                go_wp2_with fail
                refine (waits_any C s _ (hsa _).here).mono ?_
                rintro e w2 ⟨rfl, rfl⟩
                rw [hwt]
                go_wp2_with fail
                refine (take_of _ ⟨12, 0, 0, 0, 0, s.n, 1 + (k : Int)⟩ true now (hsa _) HT.out).mono ?_
                rintro e w3 ⟨rfl, h3⟩
                go_wp2_with fail
                refine (refused_any C _ _ h3.here).mono ?_
                rintro e w4 ⟨rfl, rfl⟩
                simp only
                go_wp2_with fail
                refine ⟨⟨k + 1, { s with waits := false, token := 1 + (k : Int), since := s.asked }, by omega, rfl, rfl, rfl, h3, J3⟩, ?_⟩
                simp only [intOf]
                omega
        · go_wp2_with fail
          go_ret
          exact ⟨rfl, then_below ((Below.refl _ _).alloc (Nat.le_refl _) _) hs.below⟩
    · have HM := Lib.hid hm
      clear hm
      go_enter Try.func4, Try.ntmps4
      go_wp2_with fail
      refine (works_any _).mono ?_
      rintro e w0 ⟨rfl, hbw⟩
      have hcw := fun (b o : Nat) (h : b < _) => hbw.cell (p := ⟨b, o, none⟩) h
      have hb0 := then_below ((Below.refl _ _).alloc (Nat.le_refl _) _) hbw
      go_wp2_with fail
      clear hcw
      refine (new_no a i h r w0 HM.out).mono ?_
      rintro e w1 ⟨rfl, hb1⟩
      have hb1 := then_below hb0 hb1
      go_wp2_with fail
      go_ret
      exact ⟨rfl, hb1⟩
  · go_enter Try.func4, Try.ntmps4
    go_wp2_with fail
    refine (works_any _).mono ?_
    rintro e w0 ⟨rfl, hbw⟩
    have hb0 := then_below ((Below.refl _ _).alloc (Nat.le_refl _) _) hbw
    go_wp2_with fail
    refine (works_any _).mono ?_
    rintro e w1 ⟨rfl, hb1⟩
    have hb1 := then_below hb0 hb1
    go_wp2_with fail
    go_ret
    exact ⟨rfl, hb1⟩
end Go.Proofs.Ytfbmjaelkijmnaa
