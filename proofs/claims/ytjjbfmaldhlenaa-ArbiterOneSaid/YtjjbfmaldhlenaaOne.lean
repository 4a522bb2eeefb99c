/-
  The walk of the law ArbiterOne.
-/
import Derived.Test.YtjjbfmaldhlenaaOnePlain
import Derived.Test.YtjjbfmaldhlenaaWorks
import Derived.Deep.CutBlock
namespace Go.Proofs.Ytjjbfmaldhlenaa
open Go.RowKit
set_option linter.unusedVariables false
set_option linter.unusedSimpArgs false
/-- The law's own arbiter, and its variable of who was granted the lease last. -/
structure Ow (B H : Nat) (s : St) (ha hi : Int) (W w : World) : Prop where
  here : At B s w
  hol : w.heap[H]? = some (.cells #[.int .i64 ha, .int .i64 hi] 39 (0, 0))
  below : Below W.heap.size W w
  ownB : W.heap.size ≤ B
  ownH : W.heap.size ≤ H
  ne : H ≠ B
theorem Ow.lt {B H : Nat} {s : St} {ha hi : Int} {W w : World} (h : Ow B H s ha hi W w) : H < w.heap.size := (Array.getElem?_eq_some_iff.1 h.hol).1
theorem Ow.cells {B H : Nat} {s : St} {ha hi : Int} {W w : World} (h : Ow B H s ha hi W w) : w.cell? ⟨H, 0, none⟩ = some (.int .i64 ha) ∧ w.cell? ⟨H, 1, none⟩ = some (.int .i64 hi) ∧ w.frozen? ⟨H, 0, none⟩ = false ∧ w.frozen? ⟨H, 1, none⟩ = false :=
  ⟨by rw [cell_of_row _ _ _ _ _ _ h.hol]; rfl, by rw [cell_of_row _ _ _ _ _ _ h.hol]; rfl, frozen_of_row _ _ _ _ _ h.hol, frozen_of_row _ _ _ _ _ h.hol⟩
theorem Ow.turn {B H : Nat} {s s' : St} {ha hi : Int} {W w w' : World} (h : Ow B H s ha hi W w) (hA : At B s' w') (hK : Keep B w w') : Ow B H s' ha hi W w' :=
  ⟨hA, (hK.block _ h.lt h.ne).trans h.hol, h.below.trans (hK.below h.ownB h.below.size), h.ownB, h.ownH, h.ne⟩
theorem Ow.kept {B H : Nat} {s : St} {ha hi : Int} {W w w' : World} (h : Ow B H s ha hi W w) (hb : Below w.heap.size w w') : Ow B H s ha hi W w' := h.turn (h.here.kept hb) (Keep.of_below hb)
theorem Ow.alloc {B H : Nat} {s : St} {ha hi : Int} {W w : World} (h : Ow B H s ha hi W w) (o : Obj) : Ow B H s ha hi W (w.alloc o) := h.kept ((Below.refl _ _).alloc (Nat.le_refl _) _)
theorem Ow.drew {B H : Nat} {s : St} {ha hi : Int} {W w : World} (h : Ow B H s ha hi W w) : Ow B H s ha hi W w.drew := h.turn h.here (Keep.refl B w).drew
theorem Ow.drewN {B H : Nat} {s : St} {ha hi : Int} {W w : World} (h : Ow B H s ha hi W w) (n : Nat) : Ow B H s ha hi W (w.drewN n) := h.turn h.here ((Keep.refl B w).drewN n)
/-- Another one is written down. -/
theorem Ow.put {B H : Nat} {s : St} {ha hi : Int} {W w : World} (h : Ow B H s ha hi W w) (a i : Int) : Ow B H s a i W ((w.setCell ⟨H, 0, none⟩ (.int .i64 a)).setCell ⟨H, 1, none⟩ (.int .i64 i)) := by
  have hH := h.ownH
  refine ⟨(h.here.setOther h.ne _).setOther h.ne _, ?_, (h.below.setCell (p := ⟨H, 0, none⟩) h.ownH _).setCell (p := ⟨H, 1, none⟩) h.ownH _, h.ownB, h.ownH, h.ne⟩
  rw [heap_setCell_same _ _ _ _ _ _ (heap_setCell_same _ _ _ _ _ _ h.hol)]
  rfl
theorem take_of {B H : Nat} {s : St} {ha hi : Int} (f : Fr) (r : Ans) {W w : World} (h : Ow B H s ha hi W w) (ok : s.Ok) (h0 : 0 ≤ f.kind) (h1 : f.kind ≤ 255) (hr : s.take f = r) :
    Calls Try.prog 13 #[.pointer (some ⟨B, 0, none⟩), f.val] w fun e w' => e = .returned r.val ∧ Ow B H r.st ha hi W w' ∧ Keep B w w' := by
  subst hr
  exact (take_any B s f w h.here ok h0 h1).mono fun e w' ⟨he, hA, hK⟩ => ⟨he, h.turn hA hK, hK⟩
theorem holder_yes (B : Nat) (s : St) (w : World) (h : At B s w) (hd : s.now < s.til) :
    Calls Try.prog 15 #[.pointer (some ⟨B, 0, none⟩)] w fun e w' => e = .returned (.tuple #[.agg #[.int .i64 s.ta, .int .i64 s.ti], .bool true]) ∧ Below w.heap.size w w' := by
  have := holder_any B s w h
  rwa [if_pos hd] at this
theorem holder_no (B : Nat) (s : St) (w : World) (h : At B s w) (hd : s.til ≤ s.now) :
    Calls Try.prog 15 #[.pointer (some ⟨B, 0, none⟩)] w fun e w' => e = .returned (.tuple #[.agg #[.int .i64 0, .int .i64 0], .bool false]) ∧ Below w.heap.size w w' := by
  have := holder_any B s w h
  rwa [if_neg (by omega)] at this
set_option maxRecDepth 100000 in
theorem frame_any (what a i kind n token : Int) (w : World) :
    Calls Try.prog 14 #[.agg #[.int .u8 what, .int .i64 a, .int .i64 i, .int .u8 kind, .int .i64 n, .int .i64 token]] w fun e w' => e = .returned (Fr.val ⟨kind, a, i, 0, 0, n, token⟩) ∧ Below w.heap.size w w' := by
  go_enter Try.func14, Try.ntmps14
  go_wp2
  refine bodyPost_ret (v := Fr.val ⟨kind, a, i, 0, 0, n, token⟩) (by simp [results, Try.results14, go_sem, Fr.val, Fr.cells]) rfl ⟨rfl, ?_⟩
  exact ((Below.refl _ _).alloc (Nat.le_refl _) _).alloc (by simp) _
set_option maxRecDepth 100000 in
set_option maxHeartbeats 8000000 in
theorem one_walk (term : Int) (oa : Option Addr) (cap : Nat) (l : List Step) (W : World) (hl : Step.Holds W (.slice oa l.length cap) l) :
    Calls Try.prog 4 #[.int .i64 term, .slice oa l.length cap] W fun e w' => e = .returned (.bool true) ∧ Below W.heap.size W w' := by
  by_cases hlen : l.length ≤ 300
  · by_cases ht : 1 ≤ term ∧ term ≤ 4096
    · obtain ⟨t1, t2⟩ := ht
      go_enter Try.func4, Try.ntmps4
      go_wp2_with fail
      refine (awake_any _).mono ?_
      rintro e w0 ⟨rfl, hb0⟩
      go_wp2_with fail
      refine (new_yes term w0 t1 t2).mono ?_
      rintro e w1 ⟨rfl, hA1, hb1⟩
      have hlt1 := hA1.lt
      have hO1 : Ow w0.heap.size w1.heap.size (.fresh term) 0 0 W (w1.alloc (.cells #[.int .i64 0, .int .i64 0] 39)) :=
        ⟨hA1.alloc _, heap_alloc_new _ _, (then_below hb0 hb1).alloc (then_below hb0 hb1).size _, hb0.size, (then_below hb0 hb1).size, by omega⟩
      generalize w0.heap.size = B at hO1 hlt1 ⊢
      have hBH : B ≠ w1.heap.size := by omega
      generalize hHH : w1.heap.size = H at hO1 hlt1 hBH ⊢
      clear hA1 hb1 hb0
      go_wp2_with fail
      go_loopw [8, 9, 10, 11] (fun tk lf sc x wr => ∃ (k : Nat) (s : St) (ha hi token left since : Int), k ≤ l.length ∧ x = .int .i64 k ∧ tk = .int .i64 token ∧ lf = .int .i64 left ∧ sc = .int .i64 since ∧ Ow B H s ha hi W wr ∧ One term k s ha hi token left since) (fun _ _ _ x _ => l.length - (intOf x).toNat)
      case atStart => exact ⟨0, _, 0, 0, 0, 0, 0, by omega, rfl, rfl, rfl, rfl, hO1, One.begin t1 t2⟩
      case round =>
        clear hO1
        obtain ⟨k, s, ha, hi, token, left, since, hk, rfl, rfl, rfl, rfl, hO, J⟩ := hrel
        have hok := J.ok (by omega)
        by_cases hlt : k < l.length
        · obtain ⟨b, off, rfl, hb, hx, q0, q1, q2, q3, q4, q5⟩ := (hl.below hO.below).at_ hlt
          generalize l[k] = x at hx q0 q1 q2 q3 q4 q5
          obtain ⟨what, a, i, kind, n, tok⟩ := x
          simp only at q0 q1 q2 q3 q4 q5
          obtain ⟨-, -, -, -, -, -, hk0, hk1, -, -, -, -⟩ := hx
          simp only at hk0 hk1
          have hl0 := J.l0
          have hl1 := J.l1
          have hs0 : 0 ≤ since := by have := J.sc; have := J.n0; omega
          have hs1 : since ≤ k := by have := J.sc; have := J.n1; omega
          obtain rfl := J.tk
          have hk00 := J.k0
          have hk01 := J.k1
          have hn0 := J.n0
          have hn1 := J.n1
          go_upto_block 2 with fail
          go_cut [8, 9, 10, 13, 14, 15, 16] (fun tk lf sc _ _ _ _ wx => ∃ (s' : St) (ha' hi' token' left' since' : Int), tk = .int .i64 token' ∧ lf = .int .i64 left' ∧ sc = .int .i64 since' ∧ Ow B H s' ha' hi' W wx ∧ One term (k + 1) s' ha' hi' token' left' since')
          case first => as_aux_lemma =>
            have hOa := hO.alloc
            by_cases hw0 : what = 0
            · subst hw0
              go_wp2_with fail
              refine (tick_any B s _ (hOa _).here hok).mono ?_
              rintro e1 w3 ⟨rfl, hA3, hK3⟩
              go_wp2_with fail
              go_meet
              case rel => exact ⟨s.tick, ha, hi, _, left - 1, since + 1, rfl, rfl, rfl, (hOa _).turn hA3 hK3, J.tick⟩
            · by_cases hw1 : what = 1
              · subst hw1
                go_wp2_with fail
                refine (start_any B s _ (hOa _).here).mono ?_
                rintro e1 w3 ⟨rfl, hA3, hK3⟩
                go_wp2_with fail
                go_meet
                case rel => exact ⟨s.start, ha, hi, _, 0, 0, rfl, rfl, rfl, (hOa _).turn hA3 hK3, J.restart⟩
              · have hxB : wr.heap.size ≠ B := by have := hO.here.lt; omega
                go_wp2_with fail
                refine (frame_any what a i kind n tok _).mono ?_
                rintro e1 w3 ⟨rfl, hb3⟩
                have hxs : wr.heap.size < (wr.alloc (.cells #[.int .u8 what, .int .i64 a, .int .i64 i, .int .u8 kind, .int .i64 n, .int .i64 tok] 53)).heap.size := by simp
                rcases take_all s ⟨kind, a, i, 0, 0, n, tok⟩ (by omega) with ⟨hr, h11⟩ | ⟨ho, hm, h11, hr⟩ | ⟨ho, hm, h11, g1, g2, hr⟩ | ⟨h11, hm, ho, htt, hr⟩ | ⟨hr, hno⟩
                · as_aux_lemma =>
                  simp only at h11
                  have k11 : (kind == 11) = false := by simpa using h11
                  clear h11
                  go_wp2_with fail
                  refine (take_of ⟨kind, a, i, 0, 0, n, tok⟩ _ ((hOa _).kept hb3) hok hk0 hk1 hr).mono ?_
                  rintro e1 w4 ⟨rfl, hO4, hK4⟩
                  have bx := fun o => (hK4.cell (p := ⟨wr.heap.size, o, none⟩) (Nat.lt_of_lt_of_le hxs hb3.size) hxB).trans (hb3.cell (p := ⟨wr.heap.size, o, none⟩) hxs)
                  have b1 : w4.cell? ⟨wr.heap.size, 1, none⟩ = some (.int .i64 a) := (bx 1).trans (by simp)
                  have b2 : w4.cell? ⟨wr.heap.size, 2, none⟩ = some (.int .i64 i) := (bx 2).trans (by simp)
                  have b3 : w4.cell? ⟨wr.heap.size, 3, none⟩ = some (.int .u8 kind) := (bx 3).trans (by simp)
                  have b4 : w4.cell? ⟨wr.heap.size, 4, none⟩ = some (.int .i64 n) := (bx 4).trans (by simp)
                  have b5 : w4.cell? ⟨wr.heap.size, 5, none⟩ = some (.int .i64 tok) := (bx 5).trans (by simp)
                  obtain ⟨z0, z1, z2, z3⟩ := hO4.cells
                  have hzl := hO4.lt
                  have hxl : wr.heap.size < w4.heap.size := Nat.lt_of_lt_of_le (Nat.lt_of_lt_of_le hxs hb3.size) hK4.size
                  have HO4 := Lib.hid hO4
                  clear bx hK4 hO4
                  simp only [Ans.val, St.refuse, Fr.val, Fr.cells]
                  go_wp2_with fail
                  go_meet
                  case rel => exact ⟨s, ha, hi, _, left, since, rfl, rfl, rfl, HO4.out.alloc _, J.later⟩
                · as_aux_lemma =>
                  simp only at h11 ho hm
                  have k11 : (kind == 11) = false := by simpa using h11
                  clear h11
                  obtain ⟨hlp, rfl, rfl⟩ := J.owns ho
                  clear ho
                  have HM := Lib.hid hm
                  clear hm
                  go_wp2_with fail
                  refine (take_of ⟨kind, ha, hi, 0, 0, n, tok⟩ _ ((hOa _).kept hb3) hok hk0 hk1 hr).mono ?_
                  rintro e1 w4 ⟨rfl, hO4, hK4⟩
                  have bx := fun o => (hK4.cell (p := ⟨wr.heap.size, o, none⟩) (Nat.lt_of_lt_of_le hxs hb3.size) hxB).trans (hb3.cell (p := ⟨wr.heap.size, o, none⟩) hxs)
                  have b1 : w4.cell? ⟨wr.heap.size, 1, none⟩ = some (.int .i64 ha) := (bx 1).trans (by simp)
                  have b2 : w4.cell? ⟨wr.heap.size, 2, none⟩ = some (.int .i64 hi) := (bx 2).trans (by simp)
                  have b3 : w4.cell? ⟨wr.heap.size, 3, none⟩ = some (.int .u8 kind) := (bx 3).trans (by simp)
                  have b4 : w4.cell? ⟨wr.heap.size, 4, none⟩ = some (.int .i64 n) := (bx 4).trans (by simp)
                  have b5 : w4.cell? ⟨wr.heap.size, 5, none⟩ = some (.int .i64 tok) := (bx 5).trans (by simp)
                  obtain ⟨z0, z1, z2, z3⟩ := hO4.cells
                  have hzl := hO4.lt
                  have hxl : wr.heap.size < w4.heap.size := Nat.lt_of_lt_of_le (Nat.lt_of_lt_of_le hxs hb3.size) hK4.size
                  have HO4 := Lib.hid hO4
                  clear bx hK4 hO4
                  simp only [Ans.val, St.grant, Fr.val, Fr.cells]
                  rcases (show since < term ∨ term ≤ since by omega) with hst | hst
                  all_goals
                    go_wp2_with fail
                    go_region
                    go_wp2_with fail
                    go_meet
                    case rel => exact ⟨_, ha, hi, _, term, since, rfl, rfl, rfl, ((HO4.out.put ha hi).alloc _).drew, J.grant ⟨kind, ha, hi, 0, 0, n, tok⟩ s J.trm rfl J.k0 (by omega) HM.out⟩
                · as_aux_lemma =>
                  simp only at h11 ho hm
                  have k11 : (kind == 11) = false := by simpa using h11
                  clear h11 ho
                  have hlp : left ≤ 0 := by
                    by_cases hc : 0 < left
                    · have := (J.live hc).1; omega
                    · omega
                  have hst : term ≤ since := by have := J.sc; have := J.trm; omega
                  clear g1 g2
                  have HM := Lib.hid hm
                  clear hm
                  cases e1 : a == ha <;> cases e2 : i == hi
                  all_goals as_aux_lemma =>
                    go_wp2_with fail
                    refine (take_of ⟨kind, a, i, 0, 0, n, tok⟩ _ ((hOa _).kept hb3) hok hk0 hk1 hr).mono ?_
                    rintro e1 w4 ⟨rfl, hO4, hK4⟩
                    have bx := fun o => (hK4.cell (p := ⟨wr.heap.size, o, none⟩) (Nat.lt_of_lt_of_le hxs hb3.size) hxB).trans (hb3.cell (p := ⟨wr.heap.size, o, none⟩) hxs)
                    have b1 : w4.cell? ⟨wr.heap.size, 1, none⟩ = some (.int .i64 a) := (bx 1).trans (by simp)
                    have b2 : w4.cell? ⟨wr.heap.size, 2, none⟩ = some (.int .i64 i) := (bx 2).trans (by simp)
                    have b3 : w4.cell? ⟨wr.heap.size, 3, none⟩ = some (.int .u8 kind) := (bx 3).trans (by simp)
                    have b4 : w4.cell? ⟨wr.heap.size, 4, none⟩ = some (.int .i64 n) := (bx 4).trans (by simp)
                    have b5 : w4.cell? ⟨wr.heap.size, 5, none⟩ = some (.int .i64 tok) := (bx 5).trans (by simp)
                    obtain ⟨z0, z1, z2, z3⟩ := hO4.cells
                    have hzl := hO4.lt
                    have hxl : wr.heap.size < w4.heap.size := Nat.lt_of_lt_of_le (Nat.lt_of_lt_of_le hxs hb3.size) hK4.size
                    have HO4 := Lib.hid hO4
                    clear bx hK4 hO4
                    simp only [Ans.val, St.grant, St.more, Fr.val, Fr.cells]
                    go_wp2_with fail
                    go_region
                    go_wp2_with fail
                    go_meet
                    case rel => exact ⟨_, a, i, _, term, since, rfl, rfl, rfl, ((HO4.out.put a i).alloc _).drew, J.grant ⟨kind, a, i, 0, 0, n, tok⟩ s.more J.trm rfl (by simp only [St.more]; omega) (by simp only [St.more]; omega) HM.out⟩
                · as_aux_lemma =>
                  simp only at h11 ho hm htt
                  subst h11
                  subst htt
                  obtain ⟨hlp, rfl, rfl⟩ := J.owns ho
                  clear ho hm
                  go_wp2_with fail
                  refine (take_of ⟨11, ha, hi, 0, 0, n, s.token⟩ _ ((hOa _).kept hb3) hok hk0 hk1 hr).mono ?_
                  rintro e1 w4 ⟨rfl, hO4, hK4⟩
                  have bx := fun o => (hK4.cell (p := ⟨wr.heap.size, o, none⟩) (Nat.lt_of_lt_of_le hxs hb3.size) hxB).trans (hb3.cell (p := ⟨wr.heap.size, o, none⟩) hxs)
                  have b1 : w4.cell? ⟨wr.heap.size, 1, none⟩ = some (.int .i64 ha) := (bx 1).trans (by simp)
                  have b2 : w4.cell? ⟨wr.heap.size, 2, none⟩ = some (.int .i64 hi) := (bx 2).trans (by simp)
                  have b3 : w4.cell? ⟨wr.heap.size, 3, none⟩ = some (.int .u8 11) := (bx 3).trans (by simp)
                  have b4 : w4.cell? ⟨wr.heap.size, 4, none⟩ = some (.int .i64 n) := (bx 4).trans (by simp)
                  have b5 : w4.cell? ⟨wr.heap.size, 5, none⟩ = some (.int .i64 s.token) := (bx 5).trans (by simp)
                  obtain ⟨z0, z1, z2, z3⟩ := hO4.cells
                  have hzl := hO4.lt
                  have hxl : wr.heap.size < w4.heap.size := Nat.lt_of_lt_of_le (Nat.lt_of_lt_of_le hxs hb3.size) hK4.size
                  have HO4 := Lib.hid hO4
                  clear bx hK4 hO4
                  simp only [Ans.val, St.nothing, Fr.zero, Fr.val, Fr.cells]
                  go_wp2_with fail
                  go_meet
                  case rel => exact ⟨s.free, ha, hi, _, 0, since, rfl, rfl, rfl, HO4.out.alloc _, J.free⟩
                · as_aux_lemma =>
                  simp only at hno
                  by_cases h11 : kind = 11
                  · subst h11
                    have HN := Lib.hid hno
                    clear hno
                    cases e1 : a == ha <;> cases e2 : i == hi <;> cases e3 : tok == s.token
                    all_goals as_aux_lemma =>
                      go_wp2_with fail
                      refine (take_of ⟨11, a, i, 0, 0, n, tok⟩ _ ((hOa _).kept hb3) hok hk0 hk1 hr).mono ?_
                      rintro e1 w4 ⟨rfl, hO4, hK4⟩
                      have bx := fun o => (hK4.cell (p := ⟨wr.heap.size, o, none⟩) (Nat.lt_of_lt_of_le hxs hb3.size) hxB).trans (hb3.cell (p := ⟨wr.heap.size, o, none⟩) hxs)
                      have b1 : w4.cell? ⟨wr.heap.size, 1, none⟩ = some (.int .i64 a) := (bx 1).trans (by simp)
                      have b2 : w4.cell? ⟨wr.heap.size, 2, none⟩ = some (.int .i64 i) := (bx 2).trans (by simp)
                      have b3 : w4.cell? ⟨wr.heap.size, 3, none⟩ = some (.int .u8 11) := (bx 3).trans (by simp)
                      have b4 : w4.cell? ⟨wr.heap.size, 4, none⟩ = some (.int .i64 n) := (bx 4).trans (by simp)
                      have b5 : w4.cell? ⟨wr.heap.size, 5, none⟩ = some (.int .i64 tok) := (bx 5).trans (by simp)
                      obtain ⟨z0, z1, z2, z3⟩ := hO4.cells
                      have hzl := hO4.lt
                      have hxl : wr.heap.size < w4.heap.size := Nat.lt_of_lt_of_le (Nat.lt_of_lt_of_le hxs hb3.size) hK4.size
                      have HO4 := Lib.hid hO4
                      clear bx hK4 hO4
                      simp only [Ans.val, St.nothing, Fr.zero, Fr.val, Fr.cells]
                      go_wp2_with fail
                      go_meet
                      case rel => first
                        | exact ⟨s, ha, hi, _, left, since, rfl, rfl, rfl, HO4.out.alloc _, J.later⟩
                        | (refine ⟨s, ha, hi, _, 0, since, rfl, rfl, rfl, HO4.out.alloc _, J.over ?_⟩
                           simp at e1 e2 e3
                           subst e1 e2 e3
                           by_cases hc : 0 < left
                           · have := J.owns_of hc; exact absurd rfl (HN.out (by trivial) this.2 this.1)
                           · omega)
                  · have k11 : (kind == 11) = false := by simpa using h11
                    clear h11 hno
                    go_wp2_with fail
                    refine (take_of ⟨kind, a, i, 0, 0, n, tok⟩ _ ((hOa _).kept hb3) hok hk0 hk1 hr).mono ?_
                    rintro e1 w4 ⟨rfl, hO4, hK4⟩
                    have bx := fun o => (hK4.cell (p := ⟨wr.heap.size, o, none⟩) (Nat.lt_of_lt_of_le hxs hb3.size) hxB).trans (hb3.cell (p := ⟨wr.heap.size, o, none⟩) hxs)
                    have b1 : w4.cell? ⟨wr.heap.size, 1, none⟩ = some (.int .i64 a) := (bx 1).trans (by simp)
                    have b2 : w4.cell? ⟨wr.heap.size, 2, none⟩ = some (.int .i64 i) := (bx 2).trans (by simp)
                    have b3 : w4.cell? ⟨wr.heap.size, 3, none⟩ = some (.int .u8 kind) := (bx 3).trans (by simp)
                    have b4 : w4.cell? ⟨wr.heap.size, 4, none⟩ = some (.int .i64 n) := (bx 4).trans (by simp)
                    have b5 : w4.cell? ⟨wr.heap.size, 5, none⟩ = some (.int .i64 tok) := (bx 5).trans (by simp)
                    obtain ⟨z0, z1, z2, z3⟩ := hO4.cells
                    have hzl := hO4.lt
                    have hxl : wr.heap.size < w4.heap.size := Nat.lt_of_lt_of_le (Nat.lt_of_lt_of_le hxs hb3.size) hK4.size
                    have HO4 := Lib.hid hO4
                    clear bx hK4 hO4
                    simp only [Ans.val, St.nothing, Fr.zero, Fr.val, Fr.cells]
                    go_wp2_with fail
                    go_meet
                    case rel => exact ⟨s, ha, hi, _, left, since, rfl, rfl, rfl, HO4.out.alloc _, J.later⟩
          case rest => as_aux_lemma =>
            obtain ⟨s', ha', hi', token', left', since', rfl, rfl, rfl, hO', J'⟩ := hcut
            have hd' := J'.dead
            have hv' := J'.live
            have hl0' := J'.l0
            have hl1' := J'.l1
            have htk := J'.tk
            by_cases hp : 0 < left'
            · obtain ⟨e1, rfl, rfl, -⟩ := hv' hp
              clear hd' hv' 
              have hlv : s'.now < s'.til := by omega
              have HE := Lib.hid e1
              have HT := Lib.hid htk
              clear e1 htk
              obtain ⟨c0, c1, -, -⟩ := hO'.cells
              go_wp2_with fail
              refine (holder_yes B s' _ hO'.here hlv).mono ?_
              rintro e1 w8 ⟨rfl, hb8⟩
              have hO8 := (hO'.kept hb8).alloc (.cells #[.int .i64 s'.ta, .int .i64 s'.ti] 39)
              obtain ⟨d0, d1, -, -⟩ := (hO'.kept hb8).cells
              have hlH := (hO'.kept hb8).lt
              go_wp2_with fail
              refine (token_any B s' _ hO8.here).mono ?_
              rintro e1 w9 ⟨rfl, rfl⟩
              rw [← HT.out]
              go_wp2_with fail
              go_roundw
              case rel => exact ⟨k + 1, s', _, _, _, _, _, by omega, by go_num, rfl, rfl, rfl, hO8, J'⟩
              case measure => simp only [intOf]; omega
            · have hlv : s'.til ≤ s'.now := hd' (by omega)
              clear hd' hv'
              have HT := Lib.hid htk
              clear htk
              go_wp2_with fail
              refine (holder_no B s' _ hO'.here hlv).mono ?_
              rintro e1 w8 ⟨rfl, hb8⟩
              have hO8 := (hO'.kept hb8).alloc (.cells #[.int .i64 0, .int .i64 0] 39)
              go_wp2_with fail
              refine (token_any B s' _ hO8.here).mono ?_
              rintro e1 w9 ⟨rfl, rfl⟩
              rw [← HT.out]
              go_wp2_with fail
              go_roundw
              case rel => exact ⟨k + 1, s', ha', hi', _, _, _, by omega, by go_num, rfl, rfl, rfl, hO8, J'⟩
              case measure => simp only [intOf]; omega
        · go_wp2_with fail
          go_ret
          exact ⟨rfl, hO.below⟩
    · have hd : term < 1 ∨ 4096 < term := by omega
      go_enter Try.func4, Try.ntmps4
      go_wp2_with fail
      refine (awake_any _).mono ?_
      rintro e w0 ⟨rfl, hb0⟩
      go_wp2_with fail
      refine (new_no term w0 hd).mono ?_
      rintro e w1 ⟨rfl, rfl⟩
      go_wp2_with fail
      go_ret
      exact ⟨rfl, hb0⟩
  · go_enter Try.func4, Try.ntmps4
    go_wp2_with fail
    refine (awake_any _).mono ?_
    rintro e w0 ⟨rfl, hb0⟩
    go_wp2_with fail
    go_ret
    exact ⟨rfl, hb0⟩
end Go.Proofs.Ytjjbfmaldhlenaa
