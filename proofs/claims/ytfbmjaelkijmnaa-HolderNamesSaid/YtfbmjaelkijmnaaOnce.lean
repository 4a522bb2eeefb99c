/-
  The walk of the law HolderOnce.
-/
import Derived.Test.YtfbmjaelkijmnaaInv
import Derived.Test.YtfbmjaelkijmnaaSteps
namespace Go.Proofs.Ytfbmjaelkijmnaa
open Go.RowKit
/-- What the walk of a round reads of a step. -/
theorem Holds.step {w : World} {oa : Option Addr} {cap : Nat} {l : List Step} (h : Holds w (.slice oa l.length cap) l) {k : Nat} (hk : k < l.length) :
    ∃ b off, oa = some ⟨b, off, none⟩ ∧ b < w.heap.size ∧ l[k].Ok ∧
      w.cell? ⟨b, off + (k * 5), none⟩ = some (.int .u8 l[k].what) ∧ w.cell? ⟨b, off + (k * 5) + 1, none⟩ = some (.int .i64 l[k].now) ∧ w.cell? ⟨b, off + (k * 5) + 2, none⟩ = some (.int .u8 l[k].kind) ∧
      w.cell? ⟨b, off + (k * 5) + 3, none⟩ = some (.int .i64 l[k].n) ∧ w.cell? ⟨b, off + (k * 5) + 4, none⟩ = some (.int .i64 l[k].token) := by
  obtain ⟨oa', cap', he, -, -, hok, hc⟩ := h
  simp only [Value.slice.injEq] at he
  obtain ⟨rfl, -, rfl⟩ := he
  obtain ⟨b, off, rfl, hb, hq⟩ := hc k l[k] (List.getElem?_eq_getElem hk)
  refine ⟨b, off, rfl, hb, hok _ (List.getElem_mem hk), hq 0 _ rfl, ?_, ?_, ?_, ?_⟩
  · exact hq 1 _ rfl
  · exact hq 2 _ rfl
  · exact hq 3 _ rfl
  · exact hq 4 _ rfl
/-- The steps lie there still, where nothing old has turned. -/
theorem Holds.below {w w' : World} {v : Value} {l : List Step} (h : Holds w v l) (hb : Below w.heap.size w w') : Holds w' v l := by
  obtain ⟨oa, cap, he, h1, h2, hok, hc⟩ := h
  refine ⟨oa, cap, he, h1, h2, hok, fun i s hi => ?_⟩
  obtain ⟨b, off, e, hlt, hq⟩ := hc i s hi
  exact ⟨b, off, e, Nat.lt_of_lt_of_le hlt hb.size, fun j u hj => by rw [hb.cell (p := ⟨b, _, none⟩) hlt]; exact hq j u hj⟩
theorem ite_max (a b : Int) : (if a < b then b else a) = max a b := by omega
theorem ite_min (a b : Int) : (if b < a then b else a) = min a b := by omega
attribute [local go_sem] ite_max ite_min
theorem Has.lay {C : Nat} {s : St} {W w : World} (h : Has C s W w) (o : Obj) : Has C s W (w.alloc o) := h.under ((Below.refl _ _).alloc (Nat.le_refl _) _)
theorem take_keeps (s : St) (f : Fr) : (s.take f).1.n = s.n ∧ (s.take f).1.asked = s.asked := by
  unfold St.take
  repeat' split
  all_goals exact ⟨rfl, rfl⟩
theorem me_of {C : Nat} {s : St} {W w : World} (a i : Int) (h : Has C s (W.alloc (.cells #[.int .i64 a, .int .i64 i] 23)) w) :
    w.cell? ⟨W.heap.size, 0, none⟩ = some (.int .i64 a) ∧ w.cell? ⟨W.heap.size, 1, none⟩ = some (.int .i64 i) ∧ W.heap.size < w.heap.size := by
  refine ⟨?_, ?_, ?_⟩
  · rw [h.below.cell (p := ⟨W.heap.size, 0, none⟩) (by simp)]; simp
  · rw [h.below.cell (p := ⟨W.heap.size, 1, none⟩) (by simp)]; simp
  · have := h.below.size; simp at this; omega
theorem drop_holds (s : St) (now : Int) : s.drop.1.holds now = false := by simp [St.drop, St.holds]
attribute [local go_sem] setCell_drewN alloc_drewN
set_option maxRecDepth 100000 in
set_option maxHeartbeats 2000000 in
theorem once_walk (a i h r : Int) (oa : Option Addr) (cap : Nat) (l : List Step) (W : World) (hl : Holds W (.slice oa l.length cap) l) :
    Calls Try.prog 6 #[.agg #[.int .i64 a, .int .i64 i], .int .i64 h, .int .i64 r, .slice oa l.length cap] W fun e w' => e = .returned (.bool true) ∧ Below W.heap.size W w' := by
  by_cases hlen : l.length ≤ 300
  · by_cases hm : may a i h r
    · have HM := Lib.hid hm
      clear hm
      go_enter Try.func6, Try.ntmps6
      go_wp2_with fail
      refine (works_any _).mono ?_
      rintro e w0 ⟨rfl, hbw⟩
      have hcw := fun (b o : Nat) (h : b < _) => hbw.cell (p := ⟨b, o, none⟩) h
      go_wp2_with fail
      clear hcw
      refine (new_of a i h r hbw HM.out).mono ?_
      rintro e w1 ⟨C, rfl, h1, hC⟩
      have hl' := (hl.below ((Below.refl _ _).alloc (Nat.le_refl _) (.cells #[.int .i64 a, .int .i64 i] 23)))
      go_wp2_with fail
      go_loopw [11, 12, 13] (fun n t x wr => ∃ (k : Nat) (s : St), k ≤ l.length ∧ x = .int .i64 k ∧ n = .int .i64 s.n ∧ t = .int .i64 s.asked ∧ Has C s (W.alloc (.cells #[.int .i64 a, .int .i64 i] 23)) wr ∧ Inv a i h r k s) (fun _ _ x _ => l.length - (intOf x).toNat)
      case atStart => exact ⟨0, _, by omega, rfl, rfl, rfl, h1, Inv.start a i h r⟩
      case round =>
        obtain ⟨k, s, hk, rfl, rfl, rfl, hs, J⟩ := hrel
        by_cases hlt : k < l.length
        · have hok := J.ok HM.out (by omega)
          have hlw := hl'.below hs.below
          obtain ⟨b, off, rfl, hb, hx, q0, q1, q2, q3, q4⟩ := hlw.step hlt
          have m0 : wr.cell? ⟨W.heap.size, 0, none⟩ = some (.int .i64 a) := by rw [hs.below.cell (p := ⟨W.heap.size, 0, none⟩) (by simp)]; simp
          have m1 : wr.cell? ⟨W.heap.size, 1, none⟩ = some (.int .i64 i) := by rw [hs.below.cell (p := ⟨W.heap.size, 1, none⟩) (by simp)]; simp
          generalize l[k] = x at hx q0 q1 q2 q3 q4
          obtain ⟨what, now, kind, n, tok⟩ := x
          simp only at q0 q1 q2 q3 q4
          clear hlw hl' hl
          have hn0 := J.n0
          have hn1 := J.n1
          have ha0 := J.a0
          have ha1 := J.a1
          go_wp2_with fail
          obtain ⟨T, hT⟩ : ∃ T, T = lawTime s.asked now := ⟨_, rfl⟩
          have hT0 : s.time T = T := by rw [hT]; exact time_law ha1 ha0 now
          have hT1 : 0 ≤ T ∧ T ≤ 1099511627776 ∧ s.asked ≤ T := by rw [hT]; unfold lawTime; omega
          rw [lawTime] at hT
          rw [← hT]
          clear hT
          have hsa := fun o => hs.lay o
          refine (waits_any C s _ (hsa _).here).mono ?_
          rintro e w2 ⟨rfl, rfl⟩
          go_wp2_with fail
          refine (token_any C s _ (hsa _).here).mono ?_
          rintro e w2 ⟨rfl, rfl⟩
          go_wp2_with fail
          refine (holds_any C s T _ (hsa _).here hok).mono ?_
          rintro e w2 ⟨rfl, m, rfl⟩
          have hsb := fun o => (hsa o).drewN m
          clear hsa
          by_cases hw0 : what = 0
          · subst hw0
            rcases J.cases T with hw | ⟨c1, c2, c3, hw⟩ | ⟨c1, c2, c3, hw⟩
            · have HW := Lib.hid hw
              clear hw
              go_wp2_with fail
              refine (want_of _ _ _ T (hsb _) hok HW.out).mono ?_
              rintro e w3 ⟨rfl, h3⟩
              have h3' := fun o => h3.lay o
              simp only [Fr.val, Fr.cells, Fr.zero]
              go_wp2_with fail
              refine (waits_any C s _ (h3' _).here).mono ?_
              rintro e w4 ⟨rfl, rfl⟩
              go_wp2_with fail
              refine (token_any C s _ (h3' _).here).mono ?_
              rintro e w4 ⟨rfl, rfl⟩
              go_wp2_with fail
              refine ⟨⟨k + 1, s, by omega, rfl, rfl, rfl, h3' _, J.later⟩, ?_⟩
              simp only [intOf]
              omega
            · have J3 := J.want T
              rw [hT0] at c2 hw
              have HW := Lib.hid hw
              rw [hw] at J3
              have HJ := Lib.hid J3
              clear hw J3
              have hww : s.waits = false ∨ (s.waits = true ∧ r ≤ T - s.asked) := by
                cases hws : s.waits
                · exact .inl rfl
                · exact .inr ⟨rfl, c2 hws⟩
              clear c2
              rcases hww with hws | ⟨hws, c2⟩
              all_goals
                go_wp2_with fail
                refine (want_of _ _ _ T (hsb _) hok HW.out).mono ?_
                rintro e w3 ⟨rfl, h3⟩
                have h3' := fun o => h3.lay o
                obtain ⟨m0, m1, m2⟩ := me_of a i h3
                simp only [Fr.val, Fr.cells]
                go_wp2_with fail
              all_goals
                refine (waits_any C (St.asking a i h r (s.n + 1) T 9 0 0) _ (h3' _).here).mono ?_
                rintro e w4 ⟨rfl, rfl⟩
                simp only [St.asking]
                go_wp2_with fail
              all_goals
                refine (refused_any C (St.asking a i h r (s.n + 1) T 9 0 0) _ (h3' _).here).mono ?_
                rintro e w4 ⟨rfl, rfl⟩
                simp only [St.asking]
                go_wp2_with fail
              all_goals
                refine (token_any C (St.asking a i h r (s.n + 1) T 9 0 0) _ (h3' _).here).mono ?_
                rintro e w4 ⟨rfl, rfl⟩
                simp only [St.asking]
                go_wp2_with fail
              all_goals
                refine ⟨⟨k + 1, (St.asking a i h r (s.n + 1) T 9 0 0), by omega, rfl, rfl, rfl, h3' _, HJ.out⟩, ?_⟩
                simp only [intOf]
                omega
            · have J3 := J.want T
              rw [hT0] at c2 hw
              have HW := Lib.hid hw
              rw [hw] at J3
              have HJ := Lib.hid J3
              clear hw J3
              have hww : s.waits = false ∨ (s.waits = true ∧ r ≤ T - s.asked) := by
                cases hws : s.waits
                · exact .inl rfl
                · exact .inr ⟨rfl, c2 hws⟩
              clear c2
              rcases hww with hws | ⟨hws, c2⟩
              all_goals
                go_wp2_with fail
                refine (want_of _ _ _ T (hsb _) hok HW.out).mono ?_
                rintro e w3 ⟨rfl, h3⟩
                have h3' := fun o => h3.lay o
                obtain ⟨m0, m1, m2⟩ := me_of a i h3
                simp only [Fr.val, Fr.cells]
                go_wp2_with fail
              all_goals
                refine (waits_any C (St.asking a i h r (s.n + 1) T 10 s.token s.since) _ (h3' _).here).mono ?_
                rintro e w4 ⟨rfl, rfl⟩
                simp only [St.asking]
                go_wp2_with fail
              all_goals
                refine (refused_any C (St.asking a i h r (s.n + 1) T 10 s.token s.since) _ (h3' _).here).mono ?_
                rintro e w4 ⟨rfl, rfl⟩
                simp only [St.asking]
                go_wp2_with fail
              all_goals
                refine ⟨⟨k + 1, (St.asking a i h r (s.n + 1) T 10 s.token s.since), by omega, rfl, rfl, rfl, h3' _, HJ.out⟩, ?_⟩
                simp only [intOf]
                omega
          · by_cases hw1 : what = 1
            · subst hw1
              go_wp2_with fail
              refine (take_of (s.take ⟨kind, 0, 0, 0, 0, n, tok⟩).1 ⟨kind, 0, 0, 0, 0, n, tok⟩ (s.take ⟨kind, 0, 0, 0, 0, n, tok⟩).2 T (hsb _) rfl).mono ?_
              rintro e w3 ⟨rfl, h3⟩
              have J3 := J.take ⟨kind, 0, 0, 0, 0, n, tok⟩
              obtain ⟨hk1, hk2⟩ := take_keeps s ⟨kind, 0, 0, 0, 0, n, tok⟩
              go_wp2_with fail
              refine ⟨⟨k + 1, _, by omega, rfl, by rw [hk1], by rw [hk2], h3, J3⟩, ?_⟩
              simp only [intOf]
              omega
            · go_wp2_with fail
              refine (drop_of s.drop.1 s.drop.2.1 s.drop.2.2 T (hsb _) rfl).mono ?_
              rintro e w3 ⟨rfl, h3⟩
              have J3 := J.drop
              have J3' := J3.ok HM.out (by omega)
              go_wp2_with fail
              refine (waits_any C _ _ h3.here).mono ?_
              rintro e w4 ⟨rfl, rfl⟩
              go_wp2_with fail
              refine (token_any C _ _ h3.here).mono ?_
              rintro e w4 ⟨rfl, rfl⟩
              go_wp2_with fail
              refine (holds_of _ T h3 J3' (drop_holds s T)).mono ?_
              rintro e w5 ⟨rfl, h5⟩
              go_wp2_with fail
              refine ⟨⟨k + 1, s.drop.1, by omega, rfl, rfl, rfl, h5, J3⟩, ?_⟩
              simp only [intOf]
              omega
        · go_wp2_with fail
          go_ret
          exact ⟨rfl, then_below ((Below.refl _ _).alloc (Nat.le_refl _) _) hs.below⟩
    · have HM := Lib.hid hm
      clear hm
      go_enter Try.func6, Try.ntmps6
      go_wp2_with fail
      refine (works_any _).mono ?_
      rintro e w0 ⟨rfl, hbw⟩
      have hcw := fun (b o : Nat) (h : b < _) => hbw.cell (p := ⟨b, o, none⟩) h
      have hb0 := then_below ((Below.refl _ _).alloc (Nat.le_refl _) _) hbw
      go_wp2_with fail
      clear hcw
      refine (new_no a i h r w0 HM.out).mono ?_
      rintro e w1 ⟨rfl, hb1⟩
      have hb1 := then_below hb0 hb1
      go_wp2_with fail
      go_ret
      exact ⟨rfl, hb1⟩
  · go_enter Try.func6, Try.ntmps6
    go_wp2_with fail
    refine (works_any _).mono ?_
    rintro e w0 ⟨rfl, hbw⟩
    have hb0 := then_below ((Below.refl _ _).alloc (Nat.le_refl _) _) hbw
    go_wp2_with fail
    refine (works_any _).mono ?_
    rintro e w1 ⟨rfl, hb1⟩
    have hb1 := then_below hb0 hb1
    go_wp2_with fail
    go_ret
    exact ⟨rfl, hb1⟩
end Go.Proofs.Ytfbmjaelkijmnaa
