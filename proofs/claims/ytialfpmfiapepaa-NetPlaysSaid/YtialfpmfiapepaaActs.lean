/-
  Lose, Give, Twice, Bend, Copy.
-/
import Derived.Test.YtialfpmfiapepaaAtAny
namespace Go.Proofs.Ytialfpmfiapepaa
open Go.RowKit
set_option linter.unusedVariables false
set_option linter.unusedSimpArgs false
attribute [local go_sem ↓] Go.wp_at_zero Go.wp_at_succ
def N.noneE (n : N) (k : Int) : Int := if n.has k = true then 0 else 5
theorem Nt.under' {P B : Nat} {v : Value} {n : N} {w w' : World} (h : Nt P B v n w) (hb : Below w.heap.size w w') : Nt P B v n w' := h.kept hb
theorem N.lose_out {n : N} {k : Int} (hk : n.has k = false) : n.lose k = n := by unfold N.lose; rw [hk]; rfl
set_option maxRecDepth 100000 in
set_option maxHeartbeats 1000000 in
theorem lose_any (P B : Nat) (v : Value) (n : N) (k : Int) (w : World) (h : Nt P B v n w) :
    Calls Try.prog 14 #[.pointer (some ⟨B, 0, none⟩), .int .i64 k] w fun e w' => e = .returned (.int .i64 (n.noneE k)) ∧ Did P B v (n.lose k) w w' := by
  have hlt := h.lt
  cases hk : n.has k
  · have HE := Lib.hid (show n.noneE k = 5 by simp [N.noneE, hk])
    have HL := Lib.hid (N.lose_out hk)
    have HH := Lib.hid h
    clear h
    go_enter Try.func14, Try.ntmps14
    go_wp2_with fail
    refine (at_out P B v n k _ _ HH.out hk).mono ?_
    rintro e w1 ⟨rfl, rfl⟩
    clear hk
    go_wp2_with fail
    go_ret
    exact ⟨ret_i (by rw [HE.out]), _, by rw [HL.out]; exact HH.out, Turn.refl _ _ _⟩
  · have HE := Lib.hid (show n.noneE k = 0 by simp [N.noneE, hk])
    obtain ⟨g, cap, j, rfl, rfl, hj, hgl, hgB, hPg, hnc, hcm, hget⟩ := h.in_form hk
    obtain ⟨r, hr⟩ : ∃ r, n.l.length = r + 1 := ⟨n.l.length - 1, by omega⟩
    have HH := Lib.hid h
    clear h hget
    go_enter Try.func14, Try.ntmps14
    go_wp2_with fail
    refine (at_lose P B _ n j _ HH.out hk).mono ?_
    rintro e w1 ⟨rfl, hb⟩
    have hN1 := HH.out.kept hb
    have hT1 := Turn.of_below (B := B) (v := .slice (some ⟨g, 0, none⟩) n.l.length cap) hb
    obtain ⟨-, c1⟩ := hN1.reads
    have hrow := hN1.row
    have hlt1 := hN1.lt
    have hs := hb.size
    rw [hr] at c1 hrow
    have HN1 := Lib.hid hN1
    have HT1 := Lib.hid hT1
    have HR := Lib.hid (And.intro hr hk)
    have hj1 : j < r + 1 := by omega
    clear hN1 hT1 hb hr hk
    go_wp2_with fail
    refine (del_any P g cap r (rows n.l) j w1 hrow hj1 (rows_one _)).mono ?_
    rintro e w2 ⟨rfl, hr2, hg2⟩
    have fB := (hg2.frozen_far ⟨B, 1, none⟩ (by show B < _; omega) (by simp; omega)).trans (HN1.out.free 1)
    have cB := (hg2.cell_far ⟨B, 1, none⟩ (by show B < _; omega) (by simp; omega)).trans HN1.out.reads.2
    have hB2 := (hg2.block B hlt1 (by simp; omega)).trans HN1.out.here
    have HT := Lib.hid (HT1.out.grown (v'' := .slice (some ⟨g, 0, none⟩) r cap) hg2 (fun k hk => .inl hk))
    have HR2 := Lib.hid hr2
    have HB2 := Lib.hid hB2
    clear hr2 hg2 hB2 hrow c1
    go_wp2_with fail
    go_ret
    have hp : n.lose (j : Int) = ⟨n.max, n.l.eraseIdx j⟩ := by unfold N.lose; rw [if_pos HR.out.2]; rfl
    have hlen : (n.l.eraseIdx j).length = r := by rw [List.length_eraseIdx, if_pos hj]; have := HR.out.1; omega
    refine ⟨ret_i (by rw [HE.out]), .slice (some ⟨g, 0, none⟩) r cap, ?_, HT.out.setCell (.inl rfl) _⟩
    rw [hp]
    exact Nt.set HB2.out (by rw [hlen, ← rows_erase _ _ hj]; exact HR2.out) (by simp [Value.ownBlock]; omega) (hp ▸ HH.out.ok.lose (j : Int)) HH.out.pB
theorem lose_nil (k : Int) (w : World) : Calls Try.prog 14 #[.pointer none, .int .i64 k] w fun e w' => e = .returned (.int .i64 2) ∧ w' = w := by
  go_enter Try.func14, Try.ntmps14
  go_wp2_with fail
  refine (at_nil k _ _).mono ?_
  rintro e w1 ⟨rfl, rfl⟩
  go_wp2_with fail
  go_ret
  exact ⟨rfl, rfl⟩
theorem give_any (P B : Nat) (v : Value) (n : N) (k : Int) (w : World) (h : Nt P B v n w) :
    Calls Try.prog 13 #[.pointer (some ⟨B, 0, none⟩), .int .i64 k] w fun e w' => e = .returned (.tuple #[.string (n.get k).s, .int .i64 (n.get k).to, .int .i64 (n.noneE k)]) ∧ Did P B v (n.lose k) w w' := by
  go_enter Try.func13, Try.ntmps13
  go_wp2_with fail
  refine (at_any P B v n k w h).mono ?_
  rintro e w1 ⟨rfl, hb⟩
  go_wp2_with fail
  refine (lose_any P B v n k w1 (h.kept hb)).mono ?_
  rintro e w2 ⟨rfl, v', hN, hT⟩
  have HD := Lib.hid (show Did P B v (n.lose k) w w2 from ⟨v', hN, (Turn.of_below hb).trans hT⟩)
  clear hN hT hb
  go_wp2_with fail
  go_ret3
  exact ⟨rfl, HD.out⟩
theorem give_nil (k : Int) (w : World) : Calls Try.prog 13 #[.pointer none, .int .i64 k] w fun e w' => e = .returned (.tuple #[.string ⟨#[]⟩, .int .i64 0, .int .i64 2]) ∧ Below w.heap.size w w' := by
  go_enter Try.func13, Try.ntmps13
  go_wp2_with fail
  refine (at_of_nil k w).mono ?_
  rintro e w1 ⟨rfl, hb⟩
  go_wp2_with fail
  refine (lose_nil k w1).mono ?_
  rintro e w2 ⟨rfl, rfl⟩
  go_wp2_with fail
  go_ret3
  exact ⟨rfl, hb⟩
set_option maxRecDepth 100000 in
set_option maxHeartbeats 1000000 in
theorem twice_any (P B : Nat) (v : Value) (n : N) (k : Int) (w : World) (h : Nt P B v n w) :
    Calls Try.prog 16 #[.pointer (some ⟨B, 0, none⟩), .int .i64 k] w fun e w' => e = .returned (.int .i64 (n.noneE k)) ∧ Did P B v (n.twice k) w w' := by
  have hlt := h.lt
  have hv := h.vlt
  cases hk : n.has k
  · have HE := Lib.hid (show n.noneE k = 5 ∧ n.twice k = n by simp [N.noneE, N.twice, hk])
    have HH := Lib.hid h
    clear h
    go_enter Try.func16, Try.ntmps16
    go_wp2_with fail
    refine (at_out P B v n k _ _ (HH.out.alloc _) hk).mono ?_
    rintro e w1 ⟨rfl, rfl⟩
    clear hk
    go_wp2_with fail
    go_ret
    exact ⟨ret_i (by rw [HE.out.1]), v, by rw [HE.out.2]; exact HH.out.alloc _, (Turn.refl _ _ _).alloc _⟩
  · have HE := Lib.hid (show n.noneE k = 0 ∧ n.twice k = n.push (n.get k) by simp [N.noneE, N.twice, hk])
    have HH := Lib.hid h
    clear h
    go_enter Try.func16, Try.ntmps16
    go_wp2_with fail
    refine (at_twice P B v n k w.heap.size w.heap.size ⟨⟨#[]⟩, 0, false⟩ _ (HH.out.alloc _) hk hlt (fun g hg => (hv g hg).2) (heap_alloc_new w _) (Nat.le_refl _)).mono ?_
    rintro e w1 ⟨rfl, hQ, hs, hb⟩
    have hbW : Below w.heap.size w w1 := ((Below.refl _ _).alloc (Nat.le_refl _) _).trans hb
    have q0 : w1.cell? ⟨w.heap.size, 0, none⟩ = some (.string (n.get k).s) := by rw [cell_of_row _ _ _ _ _ _ hQ]; rfl
    have q1 : w1.cell? ⟨w.heap.size, 1, none⟩ = some (.int .i64 (n.get k).to) := by rw [cell_of_row _ _ _ _ _ _ hQ]; rfl
    have q2 : w1.cell? ⟨w.heap.size, 2, none⟩ = some (.bool (n.get k).bent) := by rw [cell_of_row _ _ _ _ _ _ hQ]; rfl
    clear hQ hk hv
    go_wp2_with fail
    refine (push_any P B v n (n.get k) w1 (HH.out.kept hbW)).mono ?_
    rintro e w2 ⟨rfl, v', hN, hT⟩
    have HD := Lib.hid (show Did P B v (n.push (n.get k)) w w2 from ⟨v', hN, (Turn.of_below hbW).trans hT⟩)
    clear hN hT hb hbW
    go_wp2_with fail
    go_ret
    exact ⟨ret_i (by rw [HE.out.1]), by rw [HE.out.2]; exact HD.out⟩
theorem twice_nil (k : Int) (w : World) : Calls Try.prog 16 #[.pointer none, .int .i64 k] w fun e w' => e = .returned (.int .i64 2) ∧ Below w.heap.size w w' := by
  go_enter Try.func16, Try.ntmps16
  go_wp2_with fail
  refine (at_nil k _ _).mono ?_
  rintro e w1 ⟨rfl, rfl⟩
  go_wp2_with fail
  go_ret
  exact ⟨rfl, (Below.refl _ _).alloc (Nat.le_refl _) _⟩
end Go.Proofs.Ytialfpmfiapepaa
