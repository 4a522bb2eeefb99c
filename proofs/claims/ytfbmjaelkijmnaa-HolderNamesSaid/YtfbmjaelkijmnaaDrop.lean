/-
  The walk of the law HolderDrop.
-/
import Derived.Test.YtfbmjaelkijmnaaOnce
namespace Go.Proofs.Ytfbmjaelkijmnaa
open Go.RowKit
theorem drop_none {s : St} (h : s.token = 0) : s.drop = (s.drop.1, .zero, false) := by simp [St.drop, h]
theorem drop_some {a i h r : Int} {k : Nat} {s : St} (J : Inv a i h r k s) (h : ¬ s.token = 0) : s.drop = (s.drop.1, ⟨11, a, i, 0, 0, 0, s.token⟩, true) := by
  have e1 := J.addr
  have e2 := J.inc
  subst e1 e2
  simp [St.drop, h]
theorem drop_want_no {s : St} (h : s.refused = true) (now : Int) : s.drop.1.want now = (s.drop.1, .zero, false) := by simp [St.drop, St.want, h]
theorem drop_want {a i h r : Int} {k : Nat} {s : St} (J : Inv a i h r k s) (hr : s.refused = false) (now : Int) :
    s.drop.1.want now = (St.asking a i h r (s.n + 1) (s.drop.1.time now) 9 0 0, ⟨9, a, i, 0, 0, s.n + 1, 0⟩, true) := by
  have e1 := J.addr
  have e2 := J.inc
  have e3 := J.hold
  have e4 := J.retry
  subst e1 e2 e3 e4
  simp [St.drop, St.want, St.holds, St.ask, St.asks, St.none, St.asking, hr]
set_option maxRecDepth 100000 in
set_option maxHeartbeats 2000000 in
theorem drop_walk (a i h r now0 later : Int) (oa : Option Addr) (cap : Nat) (l : List Step) (W : World) (hl : Holds W (.slice oa l.length cap) l) :
    Calls Try.prog 7 #[.agg #[.int .i64 a, .int .i64 i], .int .i64 h, .int .i64 r, .slice oa l.length cap, .int .i64 now0, .int .i64 later] W fun e w' => e = .returned (.bool true) ∧ Below W.heap.size W w' := by
  by_cases hlen : l.length ≤ 300
  · by_cases hm : may a i h r
    · have HM := Lib.hid hm
      clear hm
      go_enter Try.func7, Try.ntmps7
      go_wp2_with fail
      refine (works_any _).mono ?_
      rintro e w0 ⟨rfl, hbw⟩
      have hcw := fun (b o : Nat) (h : b < _) => hbw.cell (p := ⟨b, o, none⟩) h
      go_wp2_with fail
      clear hcw
      refine (new_of a i h r hbw HM.out).mono ?_
      rintro e w1 ⟨C, rfl, h1, hC⟩
      have hl' := (hl.below ((Below.refl _ _).alloc (Nat.le_refl _) (.cells #[.int .i64 a, .int .i64 i] 23)))
      go_wp2_with fail
      go_loopw [15, 16] (fun n x wr => ∃ (k : Nat) (s : St), k ≤ l.length ∧ x = .int .i64 k ∧ n = .int .i64 s.n ∧ Has C s (W.alloc (.cells #[.int .i64 a, .int .i64 i] 23)) wr ∧ Inv a i h r k s) (fun _ x _ => l.length - (intOf x).toNat)
      case atStart => exact ⟨0, _, by omega, rfl, rfl, h1, Inv.start a i h r⟩
      case round =>
        obtain ⟨k, s, hk, rfl, rfl, hs, J⟩ := hrel
        have hok := J.ok HM.out (by omega)
        by_cases hlt : k < l.length
        · have hlw := hl'.below hs.below
          obtain ⟨b, off, rfl, hb, hx, q0, q1, q2, q3, q4⟩ := hlw.step hlt
          generalize l[k] = x at hx q0 q1 q2 q3 q4
          obtain ⟨what, now, kind, n, tok⟩ := x
          simp only at q0 q1 q2 q3 q4
          clear hlw hl' hl
          have hn0 := J.n0
          have hn1 := J.n1
          have hsa := fun o => hs.lay o
          by_cases hw0 : what = 0
          · subst hw0
            have J3 := J.want now
            rcases J.cases now with hw | ⟨-, -, -, hw⟩ | ⟨-, -, -, hw⟩
            all_goals rw [hw] at J3
            · have HW := Lib.hid hw
              go_wp2_with fail
              refine (want_of _ _ _ now (hsa _) hok HW.out).mono ?_
              rintro e w3 ⟨rfl, h3⟩
              have h3' := fun o => h3.lay o
              simp only [Fr.val, Fr.cells, Fr.zero]
              go_wp2_with fail
              refine ⟨⟨k + 1, s, by omega, rfl, rfl, h3' _, J3⟩, ?_⟩
              simp only [intOf]
              omega
            · have HW := Lib.hid hw
              go_wp2_with fail
              refine (want_of _ _ _ now (hsa _) hok HW.out).mono ?_
              rintro e w3 ⟨rfl, h3⟩
              have h3' := fun o => h3.lay o
              simp only [Fr.val, Fr.cells]
              go_wp2_with fail
              refine ⟨⟨k + 1, St.asking a i h r (s.n + 1) (s.time now) 9 0 0, by omega, rfl, rfl, h3' _, J3⟩, ?_⟩
              simp only [intOf]
              omega
            · have HW := Lib.hid hw
              go_wp2_with fail
              refine (want_of _ _ _ now (hsa _) hok HW.out).mono ?_
              rintro e w3 ⟨rfl, h3⟩
              have h3' := fun o => h3.lay o
              simp only [Fr.val, Fr.cells]
              go_wp2_with fail
              refine ⟨⟨k + 1, St.asking a i h r (s.n + 1) (s.time now) 10 s.token s.since, by omega, rfl, rfl, h3' _, J3⟩, ?_⟩
              simp only [intOf]
              omega
          · go_wp2_with fail
            refine (take_of (s.take ⟨kind, 0, 0, 0, 0, n, tok⟩).1 ⟨kind, 0, 0, 0, 0, n, tok⟩ (s.take ⟨kind, 0, 0, 0, 0, n, tok⟩).2 now (hsa _) rfl).mono ?_
            rintro e w3 ⟨rfl, h3⟩
            have J3 := J.take ⟨kind, 0, 0, 0, 0, n, tok⟩
            obtain ⟨hk1, hk2⟩ := take_keeps s ⟨kind, 0, 0, 0, 0, n, tok⟩
            go_wp2_with fail
            refine ⟨⟨k + 1, _, by omega, rfl, by rw [hk1], h3, J3⟩, ?_⟩
            simp only [intOf]
            omega
        · have J3 := J.drop
          have hokd := J3.ok HM.out (by omega)
          have ht0 := J.t0
          have hn0 := J.n0
          have hn1 := J.n1
          cases hr : s.refused
          all_goals by_cases ht : s.token = 0
          all_goals
            first
              | have hd := Lib.hid (drop_none ht)
              | have hd := Lib.hid (drop_some J ht)
            first
              | have hw := Lib.hid (drop_want_no hr later)
              | have hw := Lib.hid (drop_want J hr later)
            first
              | (have htp : 0 < s.token := by omega)
              | skip
            go_wp2_with fail
            refine (token_any C s _ hs.here).mono ?_
            rintro e w2 ⟨rfl, rfl⟩
            go_wp2_with fail
            refine (refused_any C s _ hs.here).mono ?_
            rintro e w2 ⟨rfl, rfl⟩
            go_wp2_with fail
            refine (drop_of _ _ _ now0 hs hd.out).mono ?_
            rintro e w3 ⟨rfl, h3⟩
            obtain ⟨m0, m1, m2⟩ := me_of a i h3
            have h3' := fun o => h3.lay o
            simp only [Fr.val, Fr.cells, Fr.zero]
            go_wp2_with fail
            first
              | (refine (bare_any ⟨11, a, i, 0, 0, 0, s.token⟩ ⟨11, a, i, 0, 0, 0, s.token⟩ _).mono ?_
                 rintro e w4 ⟨rfl, hb4⟩
                 have h4 := (h3' _).under hb4
                 rw [Fr.same_self]
                 go_wp2_with fail)
              | skip
            refine (take_of s.drop.1 ⟨12, 0, 0, 0, 0, s.n, 5⟩ false later (by first | exact h4 | exact h3' _) rfl).mono ?_
            rintro e w5 ⟨rfl, h5⟩
            go_wp2_with fail
            refine (holds_of false now0 h5 hokd (drop_holds s now0)).mono ?_
            rintro e w6 ⟨rfl, h6⟩
            go_wp2_with fail
            refine (holds_of false later h6 hokd (drop_holds s later)).mono ?_
            rintro e w7 ⟨rfl, h7⟩
            go_wp2_with fail
            refine (token_any C s.drop.1 _ h7.here).mono ?_
            rintro e w8 ⟨rfl, rfl⟩
            rw [show s.drop.1.token = 0 from rfl]
            go_wp2_with fail
            refine (waits_any C s.drop.1 _ h7.here).mono ?_
            rintro e w8 ⟨rfl, rfl⟩
            rw [show s.drop.1.waits = false from rfl]
            go_wp2_with fail
            refine (refused_any C s.drop.1 _ h7.here).mono ?_
            rintro e w8 ⟨rfl, rfl⟩
            rw [show s.drop.1.refused = s.refused from rfl, hr]
            go_wp2_with fail
            refine (want_of _ _ _ later h7 hokd hw.out).mono ?_
            rintro e w9 ⟨rfl, h9⟩
            simp only [Fr.val, Fr.cells, Fr.zero]
            go_wp2_with fail
            go_ret
            exact ⟨rfl, then_below ((Below.refl _ _).alloc (Nat.le_refl _) _) (h9.lay _).below⟩
    · have HM := Lib.hid hm
      clear hm
      go_enter Try.func7, Try.ntmps7
      go_wp2_with fail
      refine (works_any _).mono ?_
      rintro e w0 ⟨rfl, hbw⟩
      have hcw := fun (b o : Nat) (h : b < _) => hbw.cell (p := ⟨b, o, none⟩) h
      have hb0 := then_below ((Below.refl _ _).alloc (Nat.le_refl _) _) hbw
      go_wp2_with fail
      clear hcw
      refine (new_no a i h r w0 HM.out).mono ?_
      rintro e w1 ⟨rfl, hb1⟩
      have hb1 := then_below hb0 hb1
      go_wp2_with fail
      go_ret
      exact ⟨rfl, hb1⟩
  · go_enter Try.func7, Try.ntmps7
    go_wp2_with fail
    refine (works_any _).mono ?_
    rintro e w0 ⟨rfl, hbw⟩
    have hb0 := then_below ((Below.refl _ _).alloc (Nat.le_refl _) _) hbw
    go_wp2_with fail
    refine (works_any _).mono ?_
    rintro e w1 ⟨rfl, hb1⟩
    have hb1 := then_below hb0 hb1
    go_wp2_with fail
    go_ret
    exact ⟨rfl, hb1⟩
end Go.Proofs.Ytfbmjaelkijmnaa
