/-
  The walk of the law HolderAsked.
-/
import Derived.Test.YtfbmjaelkijmnaaAskedPlain
import Derived.Test.YtfbmjaelkijmnaaOnce
import Derived.OwnWalk
import Derived.Deep.DeepCutAuto
import Derived.Deep.CutBlock
namespace Go.Proofs.Ytfbmjaelkijmnaa
open Go.RowKit
attribute [local go_sem] ite_max ite_min setCell_drewN alloc_drewN
theorem Try.info3 : (Try.prog.info? 3).map (fun i => (i.zero, i.size, i.bytes)) = some (some (.int .i64 0), 1, 8) := by kernel_rfl
theorem want_of2 {C : Nat} {s : St} (s' : St) (f : Fr) (b : Bool) (now : Int) {W w : World} (h : Has C s W w) (ok : s.Ok) (hs : s.want now = (s', f, b)) :
    Calls Try.prog 12 #[.pointer (some ⟨C, 0, none⟩), .int .i64 now] w fun e w' => e = .returned (.tuple #[f.val, .bool b]) ∧ Has C s' W w' ∧ Keep C w w' := by
  have hc := want_any C s now w h.here ok
  rw [hs] at hc
  exact hc.mono fun e w' ⟨he, hA, hK⟩ => ⟨he, h.kept hA hK, hK⟩
theorem take_with {C : Nat} {s : St} (s' : St) (f : Fr) (b : Bool) (now : Int) {W w : World} (h : Has C s W w) (hs : s.take f = (s', b)) :
    Calls Try.prog 13 #[.pointer (some ⟨C, 0, none⟩), f.val, .int .i64 now] w fun e w' => e = .returned (.bool b) ∧ Has C s' W w' ∧ Keep C w w' := by
  have hc := take_any C s f now w h.here
  rw [hs] at hc
  exact hc.mono fun e w' ⟨he, hA, hK⟩ => ⟨he, h.kept hA hK, hK⟩
theorem drop_of2 {C : Nat} {s : St} (s' : St) (f : Fr) (b : Bool) (now : Int) {W w : World} (h : Has C s W w) (hs : s.drop = (s', f, b)) :
    Calls Try.prog 19 #[.pointer (some ⟨C, 0, none⟩), .int .i64 now] w fun e w' => e = .returned (.tuple #[f.val, .bool b]) ∧ Has C s' W w' ∧ Keep C w w' := by
  have hc := drop_any C s now w h.here
  rw [hs] at hc
  exact hc.mono fun e w' ⟨he, hA, hK⟩ => ⟨he, h.kept hA hK, hK⟩
/-- The list, a number longer. -/
theorem row_of {C : Nat} {xs : List Int} {x : Int} {w : World} {v : Value} (h : w.ownsRow (C + 1) 3 1 v (xs.length + 1) (xs.map (Value.int .i64) ++ [.int .i64 x]))
    (hn : ¬ v = .slice none 0 0) : ∃ G' cap', v = .slice (some ⟨G', 0, none⟩) (xs ++ [x]).length cap' ∧ Row C G' cap' (xs ++ [x]) w := by
  rcases h.2 with ⟨e, -⟩ | ⟨g, cap', cur, rfl, -⟩
  · exact absurd e hn
  · refine ⟨g, cap', by simp, ?_⟩
    unfold Row
    simpa using h
set_option maxRecDepth 100000 in
set_option maxHeartbeats 8000000 in
theorem asked_walk (a i h r : Int) (oa : Option Addr) (cap : Nat) (l : List Step) (now0 : Int) (W : World) (hl : Holds W (.slice oa l.length cap) l) :
    Calls Try.prog 5 #[.agg #[.int .i64 a, .int .i64 i], .int .i64 h, .int .i64 r, .slice oa l.length cap, .int .i64 now0] W fun e w' => e = .returned (.bool true) ∧ Below W.heap.size W w' := by
  by_cases hlen : l.length ≤ 300
  · by_cases hm : may a i h r
    · have HM := Lib.hid hm
      clear hm
      obtain ⟨i0, hi0, hz0, hz1, hz2⟩ := info_parts Try.info3
      go_enter Try.func5, Try.ntmps5
      go_wp2_with fail
      refine (works_any _).mono ?_
      rintro e w0 ⟨rfl, hbw⟩
      have hcw := fun (b o : Nat) (h : b < _) => hbw.cell (p := ⟨b, o, none⟩) h
      go_wp2_with fail
      clear hcw
      refine (new_of a i h r hbw HM.out).mono ?_
      rintro e w1 ⟨C, rfl, h1, hC⟩
      have hl' := (hl.below ((Below.refl _ _).alloc (Nat.le_refl _) (.cells #[.int .i64 a, .int .i64 i] 23)))
      go_wp2_with fail
      go_loopw [13, 14, 15, 16] (fun v g la x wr => ∃ (k : Nat) (s : St) (xs : List Int) (gr G rc : Nat), k ≤ l.length ∧ x = .int .i64 k ∧ v = .slice (some ⟨G, 0, none⟩) xs.length rc ∧ g = .int .i64 (gr : Int) ∧ la = .int .i64 s.asked ∧ Has C s (W.alloc (.cells #[.int .i64 a, .int .i64 i] 23)) wr ∧ Row C G rc xs wr ∧ Told a i h r k s xs gr) (fun _ _ _ x _ => l.length - (intOf x).toNat)
      case atStart =>
        refine ⟨0, _, [0], 0, _, _, by omega, rfl, rfl, rfl, rfl, h1.lay _, ?_, Told.start a i h r⟩
        refine ⟨by simp, .inr ⟨_, _, _, rfl, ?_, heap_alloc_new _ _, by simp, by decide, rfl, rfl⟩⟩
        have := h1.here.lt
        omega
      case round =>
        obtain ⟨k, s, xs, gr, G, rc, hk, rfl, rfl, rfl, rfl, hs, hR, Tl⟩ := hrel
        have J := Tl.inv
        have hok := J.ok HM.out (by omega)
        by_cases hlt : k < l.length
        · have hlw := hl'.below hs.below
          obtain ⟨b, off, rfl, hb, hx, q0, q1, q2, q3, q4⟩ := hlw.step hlt
          generalize l[k] = x at hx q0 q1 q2 q3 q4
          obtain ⟨what, now, kind, n, tok⟩ := x
          simp only at q0 q1 q2 q3 q4
          clear hlw hl' hl
          have hn0 := J.n0
          have hn1 := J.n1
          have ha0 := J.a0
          have ha1 := J.a1
          have hln := Tl.len
          have hgn := Tl.g1
          go_upto_block 2 with fail
          obtain ⟨T0, hT⟩ : ∃ T0, T0 = lawTime s.asked now := ⟨_, rfl⟩
          have hT0 : s.time T0 = T0 := by rw [hT]; exact time_law ha1 ha0 now
          have hT1 : 0 ≤ T0 ∧ T0 ≤ 1099511627776 ∧ s.asked ≤ T0 := by rw [hT]; unfold lawTime; omega
          rw [lawTime] at hT
          rw [← hT]
          clear hT
          go_cut [13, 14, 15, 18, 19, 20, 21, 22] (fun v g la _ _ _ _ _ wx => ∃ (s' : St) (xs' : List Int) (gr' G' rc' : Nat), v = .slice (some ⟨G', 0, none⟩) xs'.length rc' ∧ g = .int .i64 (gr' : Int) ∧ la = .int .i64 s'.asked ∧ Has C s' (W.alloc (.cells #[.int .i64 a, .int .i64 i] 23)) wx ∧ Row C G' rc' xs' wx ∧ Told a i h r (k + 1) s' xs' gr')
          case first =>
            have hsa := fun o => hs.lay o
            have hRa := fun o => hR.keep ((Keep.refl C _).alloc o)
            by_cases hw0 : what = 0
            · subst hw0
              rcases J.cases T0 with hw | ⟨-, -, -, hw⟩ | ⟨-, -, -, hw⟩
              · have HW := Lib.hid hw
                clear hw
                go_wp2_with fail
                refine (want_of2 _ _ _ T0 (hsa _) hok HW.out).mono ?_
                rintro e1 w3 ⟨rfl, h3, hK3⟩
                have hR3 := (hRa _).keep hK3
                simp only [Fr.val, Fr.cells, Fr.zero]
                go_wp2_with fail
                go_meet
                case rel => exact ⟨s, xs, gr, G, rc, rfl, rfl, rfl, h3.lay _, hR3.keep ((Keep.refl C _).alloc _), Tl.later⟩
              · have J3 := J.want T0
                rw [hT0] at hw
                have HW := Lib.hid hw
                rw [hw] at J3
                have T' := Tl.acquire T0 J3
                clear hw J3
                go_wp2_with fail
                refine (want_of2 _ _ _ T0 (hsa _) hok HW.out).mono ?_
                rintro e1 w3 ⟨rfl, h3, hK3⟩
                have hR3 := (hRa _).keep hK3
                have hlt3 := hR3.lt
                have hCz := h3.here.lt
                clear hK3
                simp only [Fr.val, Fr.cells]
                go_wp2_with (first
                  | (at_builtin; refine wpList_append_own _ rfl _ _ 49 rfl (C + 1) 3 i0 (.int .i64 0) 1 8 Try.underlying49 hi0 hz0 hz1 hz2 rfl (by decide) _ _ _ rfl (World.ownsRow.alloc (World.ownsRow.alloc hR3 _) _) ⟨w3.heap.size + 1, 0, none⟩ 1 1 [.int .i64 T0] rfl rfl ?a1 ?a2 ?a3 ?a4 ?a5 ?_)
                  | fail)
                case a1 =>
                  intro j u hj
                  match j, hj with
                  | 0, hj => simp at hj; subst hj; simp [Addr.add]
                case a2 => intro u hu; simp at hu; subst hu; rfl
                case a3 => unfold maxLen; omega
                case a4 => omega
                case a5 => simp; omega
                intro v' w4 hown hgrow hnil
                have hk9 : w4.cell? ⟨w3.heap.size, 0, none⟩ = some (.int .u8 9) := (World.cell?_of_block (hgrow.block w3.heap.size (by simp; omega) (by simp [Value.ownBlock]; omega))).trans (by simp)
                have hs' := ((h3.lay _).lay _).grown hgrow hlt3.1
                obtain ⟨G', cap', rfl, hR'⟩ := row_of hown hnil
                clear hown hgrow hnil hR3
                go_wp2_with fail
                go_meet
                case rel => exact ⟨(St.asking a i h r (s.n + 1) T0 9 0 0), xs ++ [T0], 0, G', cap', rfl, rfl, rfl, hs', hR', T'⟩
              · have J3 := J.want T0
                rw [hT0] at hw
                have HW := Lib.hid hw
                rw [hw] at J3
                have T' := Tl.renew T0 J3
                clear hw J3
                go_wp2_with fail
                refine (want_of2 _ _ _ T0 (hsa _) hok HW.out).mono ?_
                rintro e1 w3 ⟨rfl, h3, hK3⟩
                have hR3 := (hRa _).keep hK3
                have hlt3 := hR3.lt
                have hCz := h3.here.lt
                clear hK3
                simp only [Fr.val, Fr.cells]
                go_wp2_with (first
                  | (at_builtin; refine wpList_append_own _ rfl _ _ 49 rfl (C + 1) 3 i0 (.int .i64 0) 1 8 Try.underlying49 hi0 hz0 hz1 hz2 rfl (by decide) _ _ _ rfl (World.ownsRow.alloc (World.ownsRow.alloc hR3 _) _) ⟨w3.heap.size + 1, 0, none⟩ 1 1 [.int .i64 T0] rfl rfl ?b1 ?b2 ?b3 ?b4 ?b5 ?_)
                  | fail)
                case b1 =>
                  intro j u hj
                  match j, hj with
                  | 0, hj => simp at hj; subst hj; simp [Addr.add]
                case b2 => intro u hu; simp at hu; subst hu; rfl
                case b3 => unfold maxLen; omega
                case b4 => omega
                case b5 => simp; omega
                intro v' w4 hown hgrow hnil
                have hk9 : w4.cell? ⟨w3.heap.size, 0, none⟩ = some (.int .u8 10) := (World.cell?_of_block (hgrow.block w3.heap.size (by simp; omega) (by simp [Value.ownBlock]; omega))).trans (by simp)
                have hs' := ((h3.lay _).lay _).grown hgrow hlt3.1
                obtain ⟨G', cap', rfl, hR'⟩ := row_of hown hnil
                clear hown hgrow hnil hR3
                go_wp2_with fail
                go_meet
                case rel => exact ⟨(St.asking a i h r (s.n + 1) T0 10 s.token s.since), xs ++ [T0], gr, G', cap', rfl, rfl, rfl, hs', hR', T'⟩
            · by_cases hw1 : what = 1
              · subst hw1
                have hCne : wr.heap.size ≠ C := by have := hs.here.lt; omega
                cases hwt : s.waits
                · have HW := Lib.hid (take_not (s := s) kind n tok (.inl hwt))
                  go_wp2_with fail
                  refine (waits_any C s _ (hsa _).here).mono ?_
                  rintro e1 w2 ⟨rfl, rfl⟩
                  go_wp2_with fail
                  refine (take_with _ ⟨kind, 0, 0, 0, 0, n, tok⟩ false T0 (hsa _) HW.out).mono ?_
                  rintro e1 w3 ⟨rfl, h3, hK3⟩
                  have hR3 := (hRa _).keep hK3
                  have hq2 : w3.cell? ⟨wr.heap.size, 2, none⟩ = some (.int .u8 kind) := (hK3.cell (p := ⟨wr.heap.size, 2, none⟩) (by simp) hCne).trans (by simp)
                  have hq3 : w3.cell? ⟨wr.heap.size, 3, none⟩ = some (.int .i64 n) := (hK3.cell (p := ⟨wr.heap.size, 3, none⟩) (by simp) hCne).trans (by simp)
                  have hq4 : w3.cell? ⟨wr.heap.size, 4, none⟩ = some (.int .i64 tok) := (hK3.cell (p := ⟨wr.heap.size, 4, none⟩) (by simp) hCne).trans (by simp)
                  clear hK3
                  go_wp2_with fail
                  go_meet
                  case rel => exact ⟨s, xs, gr, G, rc, rfl, rfl, rfl, h3, hR3, Tl.later⟩
                · by_cases hnn : n = s.n
                  · subst hnn
                    by_cases k12 : kind = 12
                    · subst k12
                      by_cases htk : 0 < tok
                      · obtain ⟨hw, T'⟩ := Tl.grant hwt tok htk
                        have HW := Lib.hid hw
                        clear hw
                        go_wp2_with fail
                        refine (waits_any C s _ (hsa _).here).mono ?_
                        rintro e1 w2 ⟨rfl, rfl⟩
                        go_wp2_with fail
                        refine (take_with _ ⟨12, 0, 0, 0, 0, s.n, tok⟩ true T0 (hsa _) HW.out).mono ?_
                        rintro e1 w3 ⟨rfl, h3, hK3⟩
                        have hR3 := (hRa _).keep hK3
                        have hq2 : w3.cell? ⟨wr.heap.size, 2, none⟩ = some (.int .u8 12) := (hK3.cell (p := ⟨wr.heap.size, 2, none⟩) (by simp) hCne).trans (by simp)
                        have hq3 : w3.cell? ⟨wr.heap.size, 3, none⟩ = some (.int .i64 s.n) := (hK3.cell (p := ⟨wr.heap.size, 3, none⟩) (by simp) hCne).trans (by simp)
                        have hq4 : w3.cell? ⟨wr.heap.size, 4, none⟩ = some (.int .i64 tok) := (hK3.cell (p := ⟨wr.heap.size, 4, none⟩) (by simp) hCne).trans (by simp)
                        clear hK3
                        go_wp2_with fail
                        go_meet
                        case rel => exact ⟨{ s with waits := false, token := tok, since := s.asked }, xs, s.n.toNat, G, rc, rfl, by rw [Int.toNat_of_nonneg hn0], rfl, h3, hR3, T'⟩
                      · obtain ⟨hw, T'⟩ := Tl.refuse hwt 12 tok (.inl ⟨rfl, htk⟩)
                        have HW := Lib.hid hw
                        clear hw
                        go_wp2_with fail
                        refine (waits_any C s _ (hsa _).here).mono ?_
                        rintro e1 w2 ⟨rfl, rfl⟩
                        go_wp2_with fail
                        refine (take_with _ ⟨12, 0, 0, 0, 0, s.n, tok⟩ true T0 (hsa _) HW.out).mono ?_
                        rintro e1 w3 ⟨rfl, h3, hK3⟩
                        have hR3 := (hRa _).keep hK3
                        have hq2 : w3.cell? ⟨wr.heap.size, 2, none⟩ = some (.int .u8 12) := (hK3.cell (p := ⟨wr.heap.size, 2, none⟩) (by simp) hCne).trans (by simp)
                        have hq3 : w3.cell? ⟨wr.heap.size, 3, none⟩ = some (.int .i64 s.n) := (hK3.cell (p := ⟨wr.heap.size, 3, none⟩) (by simp) hCne).trans (by simp)
                        have hq4 : w3.cell? ⟨wr.heap.size, 4, none⟩ = some (.int .i64 tok) := (hK3.cell (p := ⟨wr.heap.size, 4, none⟩) (by simp) hCne).trans (by simp)
                        clear hK3
                        go_wp2_with fail
                        go_meet
                        case rel => exact ⟨{ s with waits := false, token := 0, since := 0, refused := s.refused || s.kind == 9 }, xs, 0, G, rc, rfl, rfl, rfl, h3, hR3, T'⟩
                    · by_cases k13 : kind = 13
                      · subst k13
                        obtain ⟨hw, T'⟩ := Tl.refuse hwt 13 tok (.inr rfl)
                        have HW := Lib.hid hw
                        clear hw
                        go_wp2_with fail
                        refine (waits_any C s _ (hsa _).here).mono ?_
                        rintro e1 w2 ⟨rfl, rfl⟩
                        go_wp2_with fail
                        refine (take_with _ ⟨13, 0, 0, 0, 0, s.n, tok⟩ true T0 (hsa _) HW.out).mono ?_
                        rintro e1 w3 ⟨rfl, h3, hK3⟩
                        have hR3 := (hRa _).keep hK3
                        have hq2 : w3.cell? ⟨wr.heap.size, 2, none⟩ = some (.int .u8 13) := (hK3.cell (p := ⟨wr.heap.size, 2, none⟩) (by simp) hCne).trans (by simp)
                        have hq3 : w3.cell? ⟨wr.heap.size, 3, none⟩ = some (.int .i64 s.n) := (hK3.cell (p := ⟨wr.heap.size, 3, none⟩) (by simp) hCne).trans (by simp)
                        have hq4 : w3.cell? ⟨wr.heap.size, 4, none⟩ = some (.int .i64 tok) := (hK3.cell (p := ⟨wr.heap.size, 4, none⟩) (by simp) hCne).trans (by simp)
                        clear hK3
                        go_wp2_with fail
                        go_meet
                        case rel => exact ⟨{ s with waits := false, token := 0, since := 0, refused := s.refused || s.kind == 9 }, xs, 0, G, rc, rfl, rfl, rfl, h3, hR3, T'⟩
                      · have HW := Lib.hid (take_not (s := s) kind s.n tok (.inr (.inr ⟨k12, k13⟩)))
                        have k12a : (kind == 12) = false := by simpa using k12
                        have k13a : (kind == 13) = false := by simpa using k13
                        clear k12 k13
                        go_wp2_with fail
                        refine (waits_any C s _ (hsa _).here).mono ?_
                        rintro e1 w2 ⟨rfl, rfl⟩
                        go_wp2_with fail
                        refine (take_with _ ⟨kind, 0, 0, 0, 0, s.n, tok⟩ false T0 (hsa _) HW.out).mono ?_
                        rintro e1 w3 ⟨rfl, h3, hK3⟩
                        have hR3 := (hRa _).keep hK3
                        have hq2 : w3.cell? ⟨wr.heap.size, 2, none⟩ = some (.int .u8 kind) := (hK3.cell (p := ⟨wr.heap.size, 2, none⟩) (by simp) hCne).trans (by simp)
                        have hq3 : w3.cell? ⟨wr.heap.size, 3, none⟩ = some (.int .i64 s.n) := (hK3.cell (p := ⟨wr.heap.size, 3, none⟩) (by simp) hCne).trans (by simp)
                        have hq4 : w3.cell? ⟨wr.heap.size, 4, none⟩ = some (.int .i64 tok) := (hK3.cell (p := ⟨wr.heap.size, 4, none⟩) (by simp) hCne).trans (by simp)
                        clear hK3
                        go_wp2_with fail
                        go_meet
                        case rel => exact ⟨s, xs, gr, G, rc, rfl, rfl, rfl, h3, hR3, Tl.later⟩
                  · have HW := Lib.hid (take_not (s := s) kind n tok (.inr (.inl hnn)))
                    go_wp2_with fail
                    refine (waits_any C s _ (hsa _).here).mono ?_
                    rintro e1 w2 ⟨rfl, rfl⟩
                    go_wp2_with fail
                    refine (take_with _ ⟨kind, 0, 0, 0, 0, n, tok⟩ false T0 (hsa _) HW.out).mono ?_
                    rintro e1 w3 ⟨rfl, h3, hK3⟩
                    have hR3 := (hRa _).keep hK3
                    have hq2 : w3.cell? ⟨wr.heap.size, 2, none⟩ = some (.int .u8 kind) := (hK3.cell (p := ⟨wr.heap.size, 2, none⟩) (by simp) hCne).trans (by simp)
                    have hq3 : w3.cell? ⟨wr.heap.size, 3, none⟩ = some (.int .i64 n) := (hK3.cell (p := ⟨wr.heap.size, 3, none⟩) (by simp) hCne).trans (by simp)
                    have hq4 : w3.cell? ⟨wr.heap.size, 4, none⟩ = some (.int .i64 tok) := (hK3.cell (p := ⟨wr.heap.size, 4, none⟩) (by simp) hCne).trans (by simp)
                    clear hK3
                    go_wp2_with fail
                    go_meet
                    case rel => exact ⟨s, xs, gr, G, rc, rfl, rfl, rfl, h3, hR3, Tl.later⟩
              · go_wp2_with fail
                refine (drop_of2 s.drop.1 s.drop.2.1 s.drop.2.2 T0 (hsa _) rfl).mono ?_
                rintro e1 w3 ⟨rfl, h3, hK3⟩
                have hR3 := (hRa _).keep hK3
                go_wp2_with fail
                go_meet
                case rel => exact ⟨s.drop.1, xs, 0, G, rc, rfl, rfl, rfl, h3, hR3, Tl.drop⟩
          case rest =>
            obtain ⟨s', xs', gr', G', rc', rfl, rfl, rfl, hs', hR', T'⟩ := hcut
            have hok' := T'.inv.ok HM.out (by omega)
            have hs0 := T'.inv.s0
            have hs1 := T'.inv.s1
            have ha2 := T'.inv.a1
            have ha3 := T'.inv.a0
            have hlen' := T'.len
            have hg1 := T'.g1
            have hn1' := T'.inv.n1
            go_upto_region 36 with fail
            obtain ⟨t, ht⟩ : ∃ t, t = lawTime s'.asked now0 := ⟨_, rfl⟩
            have htt : St.time s' t = t := by rw [ht]; exact time_law ha2 ha3 now0
            have ht1 : 0 ≤ t ∧ t ≤ 1099511627776 := by rw [ht]; unfold lawTime; omega
            rw [lawTime] at ht
            rw [← ht]
            clear ht
            rcases Nat.eq_zero_or_pos gr' with HG | HG
            · obtain ⟨hh, htk⟩ := (T'.holds htt).1 HG
              have HH := Lib.hid hh
              have HK := Lib.hid htk
              clear hh htk
              subst HG
              go_wp2_with fail
              refine (holds_any C s' t _ hs'.here hok').mono ?_
              rintro e1 w9 ⟨rfl, m9, rfl⟩
              have hs9 := hs'.drewN m9
              have hR9 := hR'.keep ((Keep.refl C _).drewN m9)
              rw [HH.out]
              go_wp2_with fail
              refine (token_any C s' _ hs9.here).mono ?_
              rintro e1 w8 ⟨rfl, rfl⟩
              rw [HK.out]
              go_wp2_with fail
              go_roundw
              case rel => exact ⟨k + 1, s', xs', _, G', rc', by omega, by go_num, rfl, rfl, rfl, hs9, hR9, T'⟩
              case measure => simp only [intOf]; omega
            · obtain ⟨hh, htk⟩ := (T'.holds htt).2 HG
              have HH := Lib.hid hh
              clear hh
              have hcell := hR'.cell gr' _ (T'.at_ HG)
              go_wp2_with fail
              refine (holds_any C s' t _ hs'.here hok').mono ?_
              rintro e1 w9 ⟨rfl, m9, rfl⟩
              have hs9 := hs'.drewN m9
              have hR9 := hR'.keep ((Keep.refl C _).drewN m9)
              rw [HH.out]
              go_wp2_with fail
              refine (token_any C s' _ hs9.here).mono ?_
              rintro e1 w8 ⟨rfl, rfl⟩
              go_wp2_with fail
              go_roundw
              case rel => exact ⟨k + 1, s', xs', _, G', rc', by omega, by go_num, rfl, rfl, rfl, hs9, hR9, T'⟩
              case measure => simp only [intOf]; omega
        · go_wp2_with fail
          go_ret
          exact ⟨rfl, then_below ((Below.refl _ _).alloc (Nat.le_refl _) _) hs.below⟩
    · have HM := Lib.hid hm
      clear hm
      go_enter Try.func5, Try.ntmps5
      go_wp2_with fail
      refine (works_any _).mono ?_
      rintro e w0 ⟨rfl, hbw⟩
      have hcw := fun (b o : Nat) (h : b < _) => hbw.cell (p := ⟨b, o, none⟩) h
      have hb0 := then_below ((Below.refl _ _).alloc (Nat.le_refl _) _) hbw
      go_wp2_with fail
      clear hcw
      refine (new_no a i h r w0 HM.out).mono ?_
      rintro e w1 ⟨rfl, hb1⟩
      have hb1 := then_below hb0 hb1
      go_wp2_with fail
      go_ret
      exact ⟨rfl, hb1⟩
  · go_enter Try.func5, Try.ntmps5
    go_wp2_with fail
    refine (works_any _).mono ?_
    rintro e w0 ⟨rfl, hbw⟩
    have hb0 := then_below ((Below.refl _ _).alloc (Nat.le_refl _) _) hbw
    go_wp2_with fail
    refine (works_any _).mono ?_
    rintro e w1 ⟨rfl, hb1⟩
    have hb1 := then_below hb0 hb1
    go_wp2_with fail
    go_ret
    exact ⟨rfl, hb1⟩
end Go.Proofs.Ytfbmjaelkijmnaa
