/-
  The walk of enough.
-/
import Derived.Test.YtjjbfmaldhlenaaEvs
import Derived.Test.YtjjbfmaldhlenaaWorks
import Derived.Deep.CutBlock
namespace Go.Proofs.Ytjjbfmaldhlenaa
open Go.RowKit
set_option linter.unusedVariables false
set_option linter.unusedSimpArgs false
attribute [local go_sem ↓] Go.wp_at_zero Go.wp_at_succ
/-- The three counts in a row of three cells. -/
def Row3 (N : Nat) (c : Nat → Int) (w : World) : Prop := w.heap[N]? = some (.cells #[.int .i64 (c 0), .int .i64 (c 1), .int .i64 (c 2)] 68 (0, 0))
theorem Row3.cell {N : Nat} {c : Nat → Int} {w : World} (h : Row3 N c w) (k : Nat) (hk : k < 3) : w.cell? ⟨N, k, none⟩ = some (.int .i64 (c k)) := by
  rw [cell_of_row _ _ _ _ _ _ h]
  rcases (show k = 0 ∨ k = 1 ∨ k = 2 by omega) with rfl | rfl | rfl <;> rfl
theorem Row3.set {N : Nat} {c : Nat → Int} {w : World} (h : Row3 N c w) (k : Nat) (hk : k < 3) (x : Int) (c' : Nat → Int) (hc : ∀ j, j < 3 → c' j = if j = k then x else c j) : Row3 N c' (w.setCell ⟨N, k, none⟩ (.int .i64 x)) := by
  unfold Row3
  rw [heap_setCell_same _ _ _ _ _ _ h, hc 0 (by omega), hc 1 (by omega), hc 2 (by omega)]
  rcases (show k = 0 ∨ k = 1 ∨ k = 2 by omega) with rfl | rfl | rfl <;> rfl
theorem drop_take_succ {l : List Ev} {i m : Nat} (h : i + m < l.length) : (l.drop i).take (m + 1) = (l.drop i).take m ++ [l[i + m]] := by
  rw [List.take_succ_eq_append_getElem (by simp; omega)]
  simp
/-- What enough tells. -/
def Tells (term hold : Int) (l : List Ev) (W : World) (e : Ending) (w' : World) : Prop := ∃ b, e = .returned (.bool b) ∧ (b = true → Enough term hold l) ∧ Below W.heap.size W w'
set_option maxRecDepth 100000 in
set_option maxHeartbeats 4000000 in
theorem enough_any (term hold : Int) (oa : Option Addr) (cap : Nat) (l : List Ev) (W : World) (hl : Ev.Holds W (.slice oa l.length cap) l) (hlen : l.length ≤ 300) (t1 : 1 ≤ term) (t2 : term ≤ 4096) (h1 : 1 ≤ hold) (h2 : hold ≤ 4096) :
    Calls Try.prog 8 #[.int .i64 term, .int .i64 hold, .slice oa l.length cap] W (Tells term hold l W) := by
  go_enter Try.func8, Try.ntmps8
  go_wp2_with fail
  go_loopw [7] (fun x wr => ∃ i : Nat, i ≤ l.length ∧ x = .int .i64 i ∧ Below W.heap.size W wr ∧ ∀ j, j < i → (l[j]?.map Ev.what) = some 0 → OkAt term hold l j) (fun x _ => l.length - (intOf x).toNat)
  case atStart => exact ⟨0, by omega, rfl, Below.refl _ _, fun j hj => by omega⟩
  case round =>
    obtain ⟨i, hi, rfl, hbel, hok⟩ := hrel
    have HOK := Lib.hid hok
    clear hok
    by_cases hlt : i < l.length
    · obtain ⟨b, off, rfl, hb, hx, q0, q1, q2⟩ := (hl.below hbel).at_ hlt
      have hg : l[i]? = some l[i] := List.getElem?_eq_getElem hlt
      generalize hxe : l[i] = x at hx q0 q1 q2 hg
      clear hxe
      by_cases hw : x.what = 0
      · rw [hw] at q0
        obtain ⟨wo, hwo⟩ : ∃ wo, wo = wr := ⟨_, rfl⟩
        generalize hNN : wo.heap.size = N
        clear q1 q2 hg hx
        have hrow0 : Row3 wr.heap.size (fun c => (owns c ((l.drop i).take 0) : Int)) (wr.alloc (.cells #[.int .i64 0, .int .i64 0, .int .i64 0] 68)) := by
          unfold Row3; rw [heap_alloc_new]; simp [owns]
        have hWN : W.heap.size ≤ wr.heap.size := hbel.size
        have hbel0 := hbel.alloc hbel.size (.cells #[.int .i64 0, .int .i64 0, .int .i64 0] 68)
        rw [hwo] at hNN
        rw [hNN] at hrow0 hWN
        clear hwo hbel
        go_wp2_with fail
        go_loopw [8, 10] (fun tk x wq => ∃ m : Nat, i + m ≤ l.length ∧ x = .int .i64 ((i + m : Nat) : Int) ∧ tk = .int .i64 (ticks ((l.drop i).take m) : Int) ∧ (ticks ((l.drop i).take m) : Int) ≤ term ∧ (m = 0 ∨ (ticks ((l.drop i).take (m - 1)) : Int) < term) ∧ Row3 N (fun c => (owns c ((l.drop i).take m) : Int)) wq ∧ Below W.heap.size W wq) (fun _ x _ => l.length - (intOf x).toNat)
        case atStart => exact ⟨0, by omega, by simp, by simp [ticks], by simp [ticks]; omega, .inl rfl, hrow0, hbel0⟩
        case round =>
          clear hrow0 hbel0
          obtain ⟨m, hm, rfl, rfl, htk, hmin, hrow, hbel⟩ := hrel
          have HMIN := Lib.hid hmin
          clear hmin
          by_cases hk : i + m < l.length
          · by_cases hlt2 : (ticks ((l.drop i).take m) : Int) < term
            · have hsucc := drop_take_succ hk
              obtain ⟨b2, off2, he2, hb2, hx, p0, p1, p2⟩ := (hl.below hbel).at_ hk
              simp only [Option.some.injEq, Addr.mk.injEq, and_true] at he2
              obtain ⟨rfl, rfl⟩ := he2
              generalize l[i + m] = x at hx p0 p1 p2 hsucc
              have hT1 := ticks_append ((l.drop i).take m) [x]
              have hO1 := fun c => owns_append c ((l.drop i).take m) [x]
              rw [← hsucc] at hT1 hO1
              have hT2 := ticks_one x
              have hO2 := fun c => owns_one c x
              have HT : Hid (ticks ((l.drop i).take (m + 1)) = ticks ((l.drop i).take m) + if x.what = 0 then 1 else 0) := Lib.hid (by rw [hT1, hT2])
              have HO : Hid (∀ c, owns c ((l.drop i).take (m + 1)) = owns c ((l.drop i).take m) + if x.what = 2 ∧ x.k = c then 1 else 0) := Lib.hid (fun c => by rw [hO1, hO2])
              have HPR : Hid (m + 1 = 0 ∨ (ticks ((l.drop i).take (m + 1 - 1)) : Int) < term) := Lib.hid (.inr (by simpa using hlt2))
              clear hT1 hO1 hT2 hO2 hsucc
              have hw0 := hx.who0
              have hw1 := hx.who1
              obtain ⟨what, who, num⟩ := x
              simp only at p0 p1 p2 hw0 hw1
              obtain ⟨T, hTT⟩ : ∃ T : Nat, T = ticks ((l.drop i).take m) := ⟨_, rfl⟩
              rw [← hTT] at htk hlt2 HT ⊢
              clear hTT
              by_cases c0 : what = 0
              · subst c0
                go_wp2_with fail
                refine ⟨⟨m + 1, by omega, by go_num, by rw [HT.out]; simp, by rw [HT.out]; simp; omega, HPR.out, ?_, hbel⟩, ?_⟩
                · have : (fun c => (owns c ((l.drop i).take (m + 1)) : Int)) = (fun c => (owns c ((l.drop i).take m) : Int)) := by funext c; rw [HO.out]; simp
                  rw [this]; exact hrow
                · simp only [intOf]; omega
              · by_cases c2 : what = 2
                · subst c2
                  have hkk : (who % 3).toNat < 3 := by omega
                  have hcell := hrow.cell _ hkk
                  have hfz : wr.frozen? ⟨N, (who % 3).toNat, none⟩ = false := frozen_of_row _ _ _ _ _ hrow
                  have hm0 : 0 ≤ who % 3 := by omega
                  have hm3 : who % 3 < 3 := by omega
                  have hO9 := owns_le (who % 3).toNat ((l.drop i).take m)
                  have hO8 : ((l.drop i).take m).length ≤ 300 := by rw [List.length_take, List.length_drop]; omega
                  have HR := Lib.hid (hrow.set (who % 3).toNat hkk ((owns (who % 3).toNat ((l.drop i).take m) : Int) + 1) (fun c => (owns c ((l.drop i).take (m + 1)) : Int)) (fun c _ => by
                    rw [HO.out]
                    by_cases hc : c = (who % 3).toNat
                    · subst hc; simp [Ev.k]
                    · rw [if_neg (by simp [Ev.k]; omega), if_neg hc]; simp))
                  go_wp2_with fail
                  refine ⟨⟨m + 1, by omega, by go_num, by rw [HT.out]; simp, by rw [HT.out]; simp; omega, HPR.out, HR.out, hbel.setCell hWN _⟩, ?_⟩
                  simp only [intOf]; omega
                · go_wp2_with fail
                  refine ⟨⟨m + 1, by omega, by go_num, by rw [HT.out]; simp [c0], by rw [HT.out]; simp [c0]; omega, HPR.out, ?_, hbel⟩, ?_⟩
                  · have : (fun c => (owns c ((l.drop i).take (m + 1)) : Int)) = (fun c => (owns c ((l.drop i).take m) : Int)) := by funext c; rw [HO.out]; simp [c2]
                    rw [this]; exact hrow
                  · simp only [intOf]; omega
            · have hte : (ticks ((l.drop i).take m) : Int) = term := by omega
              have n0 := hrow.cell 0 (by omega)
              have n1 := hrow.cell 1 (by omega)
              have n2 := hrow.cell 2 (by omega)
              have HG : ∀ b, (b = true → OkAt term hold l i) → True := fun _ _ => trivial
              clear HG
              have HOI : Hid (∀ j, j < i + 1 → (OkAt term hold l i) → (l[j]?.map Ev.what) = some 0 → OkAt term hold l j) := Lib.hid (fun j hj hoi h0 => by
                by_cases he : j = i
                · subst he; exact hoi
                · exact HOK.out j (by omega) h0)
              have HOA : Hid (hold ≤ owns 0 ((l.drop i).take m) → hold ≤ owns 1 ((l.drop i).take m) → hold ≤ owns 2 ((l.drop i).take m) → OkAt term hold l i) := Lib.hid (fun a0 a1 a2 => .inr ⟨m, HMIN.out, hte, fun k hk => by
                rcases (show k = 0 ∨ k = 1 ∨ k = 2 by omega) with rfl | rfl | rfl <;> assumption⟩)
              generalize (owns 0 ((l.drop i).take m) : Int) = x0 at n0 HOA
              generalize (owns 1 ((l.drop i).take m) : Int) = x1 at n1 HOA
              generalize (owns 2 ((l.drop i).take m) : Int) = x2 at n2 HOA
              rw [hte]
              clear hte hrow
              rcases (show x0 < hold ∨ (hold ≤ x0 ∧ x1 < hold) ∨ (hold ≤ x0 ∧ hold ≤ x1 ∧ x2 < hold) ∨ (hold ≤ x0 ∧ hold ≤ x1 ∧ hold ≤ x2) by omega) with hq | ⟨hq, hq1⟩ | ⟨hq, hq1, hq2⟩ | ⟨hq, hq1, hq2⟩
              · go_wp2_with fail
                go_ret
                exact (⟨false, rfl, nofun, hbel⟩ : Tells term hold l W _ _)
              · go_wp2_with fail
                go_ret
                exact (⟨false, rfl, nofun, hbel⟩ : Tells term hold l W _ _)
              · go_wp2_with fail
                go_ret
                exact (⟨false, rfl, nofun, hbel⟩ : Tells term hold l W _ _)
              · go_wp2_with fail
                refine ⟨⟨i + 1, by omega, by go_num, hbel, fun j hj h0 => HOI.out j hj (HOA.out hq hq1 hq2) h0⟩, ?_⟩
                simp only [intOf]; omega
          · have n0 := hrow.cell 0 (by omega)
            have n1 := hrow.cell 1 (by omega)
            have n2 := hrow.cell 2 (by omega)
            have HG : ∀ b, (b = true → OkAt term hold l i) → True := fun _ _ => trivial
            clear HG
            have HOI : Hid (∀ j, j < i + 1 → (OkAt term hold l i) → (l[j]?.map Ev.what) = some 0 → OkAt term hold l j) := Lib.hid (fun j hj hoi h0 => by
              by_cases he : j = i
              · subst he; exact hoi
              · exact HOK.out j (by omega) h0)
            have hall : (l.drop i).take m = l.drop i := List.take_of_length_le (by rw [List.length_drop]; omega)
            by_cases hte : (ticks ((l.drop i).take m) : Int) = term
            · clear hall
              have HOA : Hid (hold ≤ owns 0 ((l.drop i).take m) → hold ≤ owns 1 ((l.drop i).take m) → hold ≤ owns 2 ((l.drop i).take m) → OkAt term hold l i) := Lib.hid (fun a0 a1 a2 => .inr ⟨m, HMIN.out, hte, fun k hk => by
                rcases (show k = 0 ∨ k = 1 ∨ k = 2 by omega) with rfl | rfl | rfl <;> assumption⟩)
              generalize (owns 0 ((l.drop i).take m) : Int) = x0 at n0 HOA
              generalize (owns 1 ((l.drop i).take m) : Int) = x1 at n1 HOA
              generalize (owns 2 ((l.drop i).take m) : Int) = x2 at n2 HOA
              rw [hte]
              clear hte hrow
              rcases (show x0 < hold ∨ (hold ≤ x0 ∧ x1 < hold) ∨ (hold ≤ x0 ∧ hold ≤ x1 ∧ x2 < hold) ∨ (hold ≤ x0 ∧ hold ≤ x1 ∧ hold ≤ x2) by omega) with hq | ⟨hq, hq1⟩ | ⟨hq, hq1, hq2⟩ | ⟨hq, hq1, hq2⟩
              · go_wp2_with fail
                go_ret
                exact (⟨false, rfl, nofun, hbel⟩ : Tells term hold l W _ _)
              · go_wp2_with fail
                go_ret
                exact (⟨false, rfl, nofun, hbel⟩ : Tells term hold l W _ _)
              · go_wp2_with fail
                go_ret
                exact (⟨false, rfl, nofun, hbel⟩ : Tells term hold l W _ _)
              · go_wp2_with fail
                refine ⟨⟨i + 1, by omega, by go_num, hbel, fun j hj h0 => HOI.out j hj (HOA.out hq hq1 hq2) h0⟩, ?_⟩
                simp only [intOf]; omega
            · have HOA : Hid (OkAt term hold l i) := Lib.hid (.inl (by rw [← hall]; omega))
              have hte2 : (ticks ((l.drop i).take m) : Int) < term := by omega
              generalize (ticks ((l.drop i).take m) : Int) = T at hte2 htk hte ⊢
              clear hall hrow hte
              go_wp2_with fail
              refine ⟨⟨i + 1, by omega, by go_num, hbel, fun j hj h0 => HOI.out j hj HOA.out h0⟩, ?_⟩
              simp only [intOf]; omega
      · have HX : Hid (¬ (l[i]?.map Ev.what) = some 0) := Lib.hid (by rw [hg]; simpa using hw)
        have hwb : (x.what != 0) = true := by simpa using hw
        clear hw hg
        go_wp2_with fail
        refine ⟨⟨i + 1, by omega, by go_num, hbel, fun j hj hj0 => ?_⟩, ?_⟩
        · by_cases he : j = i
          · subst he; exact absurd hj0 HX.out
          · exact HOK.out j (by omega) hj0
        · simp only [intOf]; omega
    · obtain rfl : i = l.length := by omega
      go_wp2_with fail
      go_ret
      exact (⟨true, rfl, fun _ => enough_of t1 HOK.out, hbel⟩ : Tells term hold l W _ _)
end Go.Proofs.Ytjjbfmaldhlenaa
