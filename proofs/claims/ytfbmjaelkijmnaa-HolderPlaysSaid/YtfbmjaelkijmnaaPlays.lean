/-
  The walk of the law HolderPlays.
-/
import Derived.Test.YtfbmjaelkijmnaaPair
import Derived.Test.YtfbmjaelkijmnaaRefWant
import Derived.Test.YtfbmjaelkijmnaaInv
import Derived.Deep.DeepCutAuto
import Derived.Deep.CutBlock
namespace Go.Proofs.Ytfbmjaelkijmnaa
open Go.RowKit
set_option linter.unusedVariables false
set_option linter.unusedSimpArgs false
theorem alloc_two (w : World) (a b : Obj) : ((w.alloc a).alloc b).heap[w.heap.size + 1]? = some b := by
  rw [show w.heap.size + 1 = (w.alloc a).heap.size by simp]; exact heap_alloc_new _ _
theorem alc {w : World} {p : Addr} {o : Obj} (h : p.block < w.heap.size) : (w.alloc o).cell? p = w.cell? p := ((Below.refl w.heap.size w).alloc (Nat.le_refl _) o).cell h
theorem Two.rwant {B C : Nat} {s d s' : St} {W w : World} (h : Two B C s d W w) (ok : d.Ok) (now : Int) (f : Fr) (b : Bool) (hs : d.want now = (s', f, b)) :
    Calls Try.prog 25 #[.pointer (some ⟨C, 0, none⟩), .int .i64 now] w fun e w' => e = .returned (.tuple #[f.val, .bool b]) ∧ Two B C s s' W w' ∧ Keep C w w' := by
  obtain ⟨z, t, hd⟩ := h.doc
  have hc := rwant_any C d z now w hd ok t
  rw [hs] at hc
  exact hc.mono fun e w' ⟨he, hA⟩ => ⟨he, h.docs hA, hA.keep⟩
set_option maxRecDepth 100000 in
set_option maxHeartbeats 8000000 in
theorem plays_walk (a i h r : Int) (oa : Option Addr) (cap : Nat) (l : List Step) (now0 : Int) (W : World) (hl : Holds W (.slice oa l.length cap) l) :
    Calls Try.prog 9 #[.agg #[.int .i64 a, .int .i64 i], .int .i64 h, .int .i64 r, .slice oa l.length cap, .int .i64 now0] W fun e w' => e = .returned (.bool true) ∧ Below W.heap.size W w' := by
  by_cases hlen : l.length ≤ 300
  · by_cases hm : may a i h r
    · have HM := Lib.hid hm
      clear hm
      go_enter Try.func9, Try.ntmps9
      go_wp2_with fail
      refine (new_yes a i h r _ HM.out).mono ?_
      rintro e w1 ⟨B, rfl, hA1, hB1, hb1⟩
      have hc1 := fun (b o : Nat) (h : b < _) => hb1.cell (p := ⟨b, o, none⟩) h
      have hl1 : W.heap.size < w1.heap.size := Nat.lt_of_lt_of_le (by simp) hb1.size
      go_wp2_with fail
      clear hc1
      refine (rnew_yes a i h r _ HM.out).mono ?_
      rintro e w2 ⟨C, rfl, hD2, hC2, hb2⟩
      have h2 : Two B C (.fresh a i h r) (.fresh a i h r) W w2 := by
        have := hA1.lt
        have hbx : Below W.heap.size W w1 := then_below ((Below.refl _ _).alloc (Nat.le_refl _) _) hb1
        exact ⟨hA1.kept hb2, ⟨0, ⟨Int.le_refl 0, fun _ => rfl, fun e => absurd rfl e⟩, hD2⟩, by omega, Nat.le_trans (by simp) hB1, Nat.le_trans (by omega) hC2, then_below hbx hb2⟩
      clear hA1 hB1 hb1 hl1 hD2 hC2 hb2
      go_wp2_with fail
      go_loopw [15] (fun x wr => ∃ (k : Nat) (s : St), k ≤ l.length ∧ x = .int .i64 k ∧ Two B C s s W wr ∧ Inv a i h r k s) (fun x _ => l.length - (intOf x).toNat)
      case atStart => exact ⟨0, _, by omega, rfl, h2, Inv.start a i h r⟩
      case round =>
        clear h2
        obtain ⟨k, s, hk, rfl, hs, J⟩ := hrel
        have hok := J.ok HM.out (by omega)
        by_cases hlt : k < l.length
        · have hlw := hl.below hs.below
          obtain ⟨b, off, rfl, hb, hx, q0, q1, q2, q3, q4⟩ := hlw.step hlt
          generalize l[k] = x at hx q0 q1 q2 q3 q4
          obtain ⟨what, now, kind, n, tok⟩ := x
          simp only at q0 q1 q2 q3 q4
          clear hlw hl
          have hsa := fun o => hs.alloc o
          go_upto_block 2 with fail
          go_cut [17, 18, 19, 20, 21, 22, 23, 24, 25] (fun _ _ _ _ _ _ _ _ _ wx => ∃ s', Two B C s' s' W wx ∧ Inv a i h r (k + 1) s' ∧ wx.cell? ⟨wr.heap.size, 1, none⟩ = some (.int .i64 now) ∧ wr.heap.size < wx.heap.size)
          case first =>
            by_cases hw0 : what = 0
            · subst hw0
              as_aux_lemma =>
                obtain ⟨s', F, is, hp⟩ : ∃ s' F is, s.want now = (s', F, is) := ⟨_, _, _, rfl⟩
                have J3 := J.want now
                rw [hp] at J3
                have HP := Lib.hid hp
                clear hp
                have hBl := hs.here.lt
                have hCl := hs.ltC
                go_wp2_with fail
                refine ((hsa _).want hok now _ _ HP.out).mono ?_
                rintro e w3 ⟨rfl, h3, hK3⟩
                have kb := fun (o : Nat) => hK3.cell (p := ⟨wr.heap.size, o, none⟩) (by simp) (by simp; omega)
                have kl : wr.heap.size < w3.heap.size := Nat.lt_of_lt_of_le (by simp) hK3.size
                clear hK3
                obtain ⟨k1, k2, k3, k4, k5, k6, k7⟩ := F
                simp only [Fr.val, Fr.cells]
                have hCl3 := h3.ltC
                go_wp2_with fail
                refine ((h3.alloc _).rwant hok now _ _ HP.out).mono ?_
                rintro e w4 ⟨rfl, h4, hK4⟩
                have kb4 := fun (o : Nat) => hK4.cell (p := ⟨wr.heap.size, o, none⟩) (by simp; omega) (by simp; omega)
                have kc4 := fun (o : Nat) => hK4.cell (p := ⟨w3.heap.size, o, none⟩) (by simp) (by simp; omega)
                have kl4 : wr.heap.size < w4.heap.size := Nat.lt_of_lt_of_le (by simp; omega) hK4.size
                have kl5 : w3.heap.size < w4.heap.size := Nat.lt_of_lt_of_le (by simp) hK4.size
                clear hK4
                simp only [Fr.val, Fr.cells]
                go_wp2_with fail
                refine (bare_any ⟨k1, k2, k3, k4, k5, k6, k7⟩ ⟨k1, k2, k3, k4, k5, k6, k7⟩ _).mono ?_
                rintro e w5 ⟨rfl, hb5⟩
                rw [Fr.same_self]
                have h5 := (h4.alloc _).under hb5
                have kb5 := fun (o : Nat) => hb5.cell (p := ⟨wr.heap.size, o, none⟩) (by simp; omega)
                go_wp2_with fail
                go_meet
                case rel => exact ⟨s', h5, J3, (kb5 1).trans ((alc kl4).trans ((kb4 1).trans ((alc kl).trans ((kb 1).trans ((cell_of_row _ _ _ _ _ _ (heap_alloc_new _ _)).trans rfl))))), Nat.lt_of_lt_of_le (by simp; omega) hb5.size⟩
            · by_cases hw1 : what = 1
              · subst hw1
                as_aux_lemma =>
                  obtain ⟨s', is, hp⟩ : ∃ s' is, s.take ⟨kind, 0, 0, 0, 0, n, tok⟩ = (s', is) := ⟨_, _, rfl⟩
                  have J3 := J.take ⟨kind, 0, 0, 0, 0, n, tok⟩
                  rw [hp] at J3
                  have HP := Lib.hid hp
                  clear hp
                  have hBl := hs.here.lt
                  have hCl := hs.ltC
                  go_upto_region 22 with fail
                  go_cut [21] (fun v wx => v = .pointer (some ⟨wr.heap.size + 1, 0, none⟩) ∧ Two B C s s W wx ∧ wx.cell? ⟨wr.heap.size, 1, none⟩ = some (.int .i64 now) ∧ wr.heap.size + 1 < wx.heap.size ∧ wx.heap[wr.heap.size + 1]? = some (.cells (Fr.cells ⟨kind, 0, 0, 0, 0, n, tok⟩) 37 (0, 0)))
                  case first =>
                    go_wp2_with fail
                    go_meet
                    case rel => exact ⟨by simp, (hsa _).alloc _, (alc (by simp)).trans ((cell_of_row _ _ _ _ _ _ (heap_alloc_new _ _)).trans rfl), by simp, alloc_two _ _ _⟩
                  case rest =>
                    obtain ⟨rfl, h2, q1, ll, hq⟩ := hcut
                    have h2 := h2.drew
                    have f := fun o => cell_of_row _ _ o _ _ _ hq
                    have f0 : wc.cell? ⟨wr.heap.size + 1, 0, none⟩ = some (.int .u8 kind) := f 0
                    have f1 : wc.cell? ⟨wr.heap.size + 1, 1, none⟩ = some (.int .i64 0) := f 1
                    have f2 : wc.cell? ⟨wr.heap.size + 1, 2, none⟩ = some (.int .i64 0) := f 2
                    have f3 : wc.cell? ⟨wr.heap.size + 1, 3, none⟩ = some (.int .i64 0) := f 3
                    have f4 : wc.cell? ⟨wr.heap.size + 1, 4, none⟩ = some (.int .i64 0) := f 4
                    have f5 : wc.cell? ⟨wr.heap.size + 1, 5, none⟩ = some (.int .i64 n) := f 5
                    have f6 : wc.cell? ⟨wr.heap.size + 1, 6, none⟩ = some (.int .i64 tok) := f 6
                    have f7 : wc.cell? ⟨wr.heap.size + 1, 7, none⟩ = some (.int .i64 0) := f 7
                    have f8 : wc.cell? ⟨wr.heap.size + 1, 8, none⟩ = some (.int .i64 0) := f 8
                    have f9 : wc.cell? ⟨wr.heap.size + 1, 9, none⟩ = some (.slice none 0 0) := f 9
                    have f10 : wc.cell? ⟨wr.heap.size + 1, 10, none⟩ = some (.slice none 0 0) := f 10
                    have f11 : wc.cell? ⟨wr.heap.size + 1, 11, none⟩ = some (.slice none 0 0) := f 11
                    have f12 : wc.cell? ⟨wr.heap.size + 1, 12, none⟩ = some (.slice none 0 0) := f 12
                    have f13 : wc.cell? ⟨wr.heap.size + 1, 13, none⟩ = some (.slice none 0 0) := f 13
                    clear f hq
                    have lk : wr.heap.size < wc.heap.size := by omega
                    have ne0 : ∀ D, D < wr.heap.size → wr.heap.size ≠ D := fun D h => by omega
                    have ne1 : ∀ D, D < wr.heap.size → wr.heap.size + 1 ≠ D := fun D h => by omega
                    have HN0 := Lib.hid ne0
                    go_wp2_with fail
                    go_region_held3 (fun v => v.cell? ⟨wr.heap.size, 1, none⟩ = some (.int .i64 now) ∧ v.cell? ⟨wr.heap.size + 1, 0, none⟩ = some (.int .u8 kind) ∧ v.cell? ⟨wr.heap.size + 1, 1, none⟩ = some (.int .i64 0) ∧ v.cell? ⟨wr.heap.size + 1, 2, none⟩ = some (.int .i64 0) ∧ v.cell? ⟨wr.heap.size + 1, 3, none⟩ = some (.int .i64 0) ∧ v.cell? ⟨wr.heap.size + 1, 4, none⟩ = some (.int .i64 0) ∧ v.cell? ⟨wr.heap.size + 1, 5, none⟩ = some (.int .i64 n) ∧ v.cell? ⟨wr.heap.size + 1, 6, none⟩ = some (.int .i64 tok) ∧ v.cell? ⟨wr.heap.size + 1, 7, none⟩ = some (.int .i64 0) ∧ v.cell? ⟨wr.heap.size + 1, 8, none⟩ = some (.int .i64 0) ∧ v.cell? ⟨wr.heap.size + 1, 9, none⟩ = some (.slice none 0 0) ∧ v.cell? ⟨wr.heap.size + 1, 10, none⟩ = some (.slice none 0 0) ∧ v.cell? ⟨wr.heap.size + 1, 11, none⟩ = some (.slice none 0 0) ∧ v.cell? ⟨wr.heap.size + 1, 12, none⟩ = some (.slice none 0 0) ∧ v.cell? ⟨wr.heap.size + 1, 13, none⟩ = some (.slice none 0 0)) (go_keep) (first
                      | (go_at_call 13; refine (h2.take ⟨kind, 0, 0, 0, 0, n, tok⟩ now is HP.out).mono ?_; rintro e w3 ⟨rfl, h3, hK3⟩; have q1 := (hK3.cell (p := ⟨wr.heap.size, 1, none⟩) lk (ne0 _ hBl)).trans q1; have f0 := (hK3.cell (p := ⟨wr.heap.size + 1, 0, none⟩) ll (ne1 _ hBl)).trans f0; have f1 := (hK3.cell (p := ⟨wr.heap.size + 1, 1, none⟩) ll (ne1 _ hBl)).trans f1; have f2 := (hK3.cell (p := ⟨wr.heap.size + 1, 2, none⟩) ll (ne1 _ hBl)).trans f2; have f3 := (hK3.cell (p := ⟨wr.heap.size + 1, 3, none⟩) ll (ne1 _ hBl)).trans f3; have f4 := (hK3.cell (p := ⟨wr.heap.size + 1, 4, none⟩) ll (ne1 _ hBl)).trans f4; have f5 := (hK3.cell (p := ⟨wr.heap.size + 1, 5, none⟩) ll (ne1 _ hBl)).trans f5; have f6 := (hK3.cell (p := ⟨wr.heap.size + 1, 6, none⟩) ll (ne1 _ hBl)).trans f6; have f7 := (hK3.cell (p := ⟨wr.heap.size + 1, 7, none⟩) ll (ne1 _ hBl)).trans f7; have f8 := (hK3.cell (p := ⟨wr.heap.size + 1, 8, none⟩) ll (ne1 _ hBl)).trans f8; have f9 := (hK3.cell (p := ⟨wr.heap.size + 1, 9, none⟩) ll (ne1 _ hBl)).trans f9; have f10 := (hK3.cell (p := ⟨wr.heap.size + 1, 10, none⟩) ll (ne1 _ hBl)).trans f10; have f11 := (hK3.cell (p := ⟨wr.heap.size + 1, 11, none⟩) ll (ne1 _ hBl)).trans f11; have f12 := (hK3.cell (p := ⟨wr.heap.size + 1, 12, none⟩) ll (ne1 _ hBl)).trans f12; have f13 := (hK3.cell (p := ⟨wr.heap.size + 1, 13, none⟩) ll (ne1 _ hBl)).trans f13; have ll := Nat.lt_of_lt_of_le ll hK3.size; have lk := Nat.lt_of_lt_of_le lk hK3.size; clear hK3)
                      | (go_at_call 26; refine (h3.rtake ⟨kind, 0, 0, 0, 0, n, tok⟩ now is HP.out).mono ?_; rintro e w4 ⟨rfl, h4, hK4⟩; have q1 := (hK4.cell (p := ⟨wr.heap.size, 1, none⟩) lk (ne0 _ hCl)).trans q1; have f0 := (hK4.cell (p := ⟨wr.heap.size + 1, 0, none⟩) ll (ne1 _ hCl)).trans f0; have f1 := (hK4.cell (p := ⟨wr.heap.size + 1, 1, none⟩) ll (ne1 _ hCl)).trans f1; have f2 := (hK4.cell (p := ⟨wr.heap.size + 1, 2, none⟩) ll (ne1 _ hCl)).trans f2; have f3 := (hK4.cell (p := ⟨wr.heap.size + 1, 3, none⟩) ll (ne1 _ hCl)).trans f3; have f4 := (hK4.cell (p := ⟨wr.heap.size + 1, 4, none⟩) ll (ne1 _ hCl)).trans f4; have f5 := (hK4.cell (p := ⟨wr.heap.size + 1, 5, none⟩) ll (ne1 _ hCl)).trans f5; have f6 := (hK4.cell (p := ⟨wr.heap.size + 1, 6, none⟩) ll (ne1 _ hCl)).trans f6; have f7 := (hK4.cell (p := ⟨wr.heap.size + 1, 7, none⟩) ll (ne1 _ hCl)).trans f7; have f8 := (hK4.cell (p := ⟨wr.heap.size + 1, 8, none⟩) ll (ne1 _ hCl)).trans f8; have f9 := (hK4.cell (p := ⟨wr.heap.size + 1, 9, none⟩) ll (ne1 _ hCl)).trans f9; have f10 := (hK4.cell (p := ⟨wr.heap.size + 1, 10, none⟩) ll (ne1 _ hCl)).trans f10; have f11 := (hK4.cell (p := ⟨wr.heap.size + 1, 11, none⟩) ll (ne1 _ hCl)).trans f11; have f12 := (hK4.cell (p := ⟨wr.heap.size + 1, 12, none⟩) ll (ne1 _ hCl)).trans f12; have f13 := (hK4.cell (p := ⟨wr.heap.size + 1, 13, none⟩) ll (ne1 _ hCl)).trans f13; have ll := Nat.lt_of_lt_of_le ll hK4.size; have lk := Nat.lt_of_lt_of_le lk hK4.size; clear hK4))
                    all_goals
                      go_wp2_with fail
                      go_meet
                      case rel => exact ⟨s', h4, J3, q1, lk⟩
              · as_aux_lemma =>
                  obtain ⟨s', F, is, hp⟩ : ∃ s' F is, s.drop = (s', F, is) := ⟨_, _, _, rfl⟩
                  have J3 := J.drop
                  rw [hp] at J3
                  have HP := Lib.hid hp
                  clear hp
                  have hBl := hs.here.lt
                  have hCl := hs.ltC
                  go_wp2_with fail
                  refine ((hsa _).drop now _ _ HP.out).mono ?_
                  rintro e w3 ⟨rfl, h3, hK3⟩
                  have kb := fun (o : Nat) => hK3.cell (p := ⟨wr.heap.size, o, none⟩) (by simp) (by simp; omega)
                  have kl : wr.heap.size < w3.heap.size := Nat.lt_of_lt_of_le (by simp) hK3.size
                  clear hK3
                  obtain ⟨k1, k2, k3, k4, k5, k6, k7⟩ := F
                  simp only [Fr.val, Fr.cells]
                  have hCl3 := h3.ltC
                  go_wp2_with fail
                  refine ((h3.alloc _).rdrop _ _ HP.out).mono ?_
                  rintro e w4 ⟨rfl, h4, hK4⟩
                  have kb4 := fun (o : Nat) => hK4.cell (p := ⟨wr.heap.size, o, none⟩) (by simp; omega) (by simp; omega)
                  have kc4 := fun (o : Nat) => hK4.cell (p := ⟨w3.heap.size, o, none⟩) (by simp) (by simp; omega)
                  have kl4 : wr.heap.size < w4.heap.size := Nat.lt_of_lt_of_le (by simp; omega) hK4.size
                  have kl5 : w3.heap.size < w4.heap.size := Nat.lt_of_lt_of_le (by simp) hK4.size
                  clear hK4
                  simp only [Fr.val, Fr.cells]
                  go_wp2_with fail
                  refine (bare_any ⟨k1, k2, k3, k4, k5, k6, k7⟩ ⟨k1, k2, k3, k4, k5, k6, k7⟩ _).mono ?_
                  rintro e w5 ⟨rfl, hb5⟩
                  rw [Fr.same_self]
                  have h5 := (h4.alloc _).under hb5
                  have kb5 := fun (o : Nat) => hb5.cell (p := ⟨wr.heap.size, o, none⟩) (by simp; omega)
                  go_wp2_with fail
                  go_meet
                  case rel => exact ⟨s', h5, J3, (kb5 1).trans ((alc kl4).trans ((kb4 1).trans ((alc kl).trans ((kb 1).trans ((cell_of_row _ _ _ _ _ _ (heap_alloc_new _ _)).trans rfl))))), Nat.lt_of_lt_of_le (by simp; omega) hb5.size⟩
          case rest =>
            obtain ⟨s', h2, J2, c1, cl⟩ := hcut
            clear hs J hsa
            have hok2 := J2.ok HM.out (by omega)
            obtain ⟨d7, d8⟩ := h2.reads
            have dl := h2.ltC
            have g1 : (s'.holds now0 != s'.holds now0) = false := by simp
            have g2 : (s'.holds now != s'.holds now) = false := by simp
            have g3 : (s'.token != s'.token) = false := by simp
            have g4 : (s'.refused != s'.refused) = false := by simp
            have g5 : (s'.waits != s'.waits) = false := by simp
            go_wp2_with fail
            go_quiet (first
              | (go_at_call 14; exact Calls.quiet_of (holds_any _ _ _ _ (h2.drewN _).here hok2))
              | (go_at_call 28; exact Calls.quiet_of ((h2.drewN _).rholds hok2 _))
              | (go_at_call 15; exact Calls.quiet_of_same (token_any _ _ _ (h2.drewN _).here))
              | (go_at_call 16; exact Calls.quiet_of_same (refused_any _ _ _ (h2.drewN _).here))
              | (go_at_call 29; exact Calls.quiet_of_same ((h2.drewN _).rrefused))
              | (go_at_call 18; exact Calls.quiet_of_same (waits_any _ _ _ (h2.drewN _).here)))
            go_wp2_with fail
            refine ⟨⟨k + 1, s', by omega, by go_num, h2.drewN _, J2⟩, ?_⟩
            simp only [intOf]; omega
        · have hok' := hok
          clear hl
          have hBl := hs.here.lt
          have hCl := hs.ltC
          go_wp2_with fail
          refine (copy_any B s _ hs.here).mono ?_
          rintro e w3 ⟨D, rfl, hD, hDs, hb3⟩
          have h3 := hs.under hb3
          obtain ⟨d7, d8⟩ := h3.reads
          have dl := h3.ltC
          have g1 : (s.token == s.token) = true := by simp
          have hDl := hD.lt
          go_wp2_with fail
          go_quiet (first
            | (go_at_call 14; exact Calls.quiet_of (holds_any _ _ _ _ (hD.drewN _) hok))
            | (go_at_call 28; exact Calls.quiet_of ((h3.drewN _).rholds hok _))
            | (go_at_call 15; exact Calls.quiet_of_same (token_any _ _ _ (hD.drewN _))))
          go_wp2_with fail
          go_ret
          exact ⟨ret_b (by simp), (h3.drewN _).below⟩
    · go_enter Try.func9, Try.ntmps9
      go_wp2_with fail
      refine (new_no a i h r _ hm).mono ?_
      rintro e w1 ⟨rfl, hb1⟩
      have hc1 := fun (b o : Nat) (h : b < _) => hb1.cell (p := ⟨b, o, none⟩) h
      have hl1 : W.heap.size < w1.heap.size := Nat.lt_of_lt_of_le (by simp) hb1.size
      go_wp2_with fail
      refine (rnew_no a i h r _ hm).mono ?_
      rintro e w2 ⟨rfl, hb2⟩
      have hbx : Below W.heap.size W w1 := then_below ((Below.refl _ _).alloc (Nat.le_refl _) _) hb1
      go_wp2_with fail
      go_ret
      exact ⟨rfl, then_below hbx hb2⟩
  · go_enter Try.func9, Try.ntmps9
    go_wp2_with fail
    go_ret
    exact ⟨rfl, (Below.refl _ _).alloc (Nat.le_refl _) _⟩
end Go.Proofs.Ytfbmjaelkijmnaa
