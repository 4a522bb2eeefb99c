/-
  The walk of the law CrcBent.
-/
import Derived.Test.YtdiigplcpalepaaBack
namespace Go.Proofs.Ytdiigplcpalepaa
open Go.RowKit
open Crc

/-- A number, whatever it is, taken by a size: a place below it. -/
theorem place_of (a n : Int) (h1 : 1 ≤ n) (h2 : n ≤ 100000) : ∃ k : Nat, (k : Int) < n ∧ wrap64 ((IntKind.u64.wrap a).tmod n) = k := by
  have hw : 0 ≤ IntKind.u64.wrap a := by
    simp [IntKind.wrap, IntKind.bits, IntKind.signed]; omega
  rw [Int.tmod_eq_emod_of_nonneg hw]
  have e0 := Int.emod_nonneg (IntKind.u64.wrap a) (b := n) (by omega)
  have e1 := Int.emod_lt_of_pos (IntKind.u64.wrap a) (b := n) (by omega)
  refine ⟨((IntKind.u64.wrap a) % n).toNat, by omega, ?_⟩
  rw [IntWalk.wrap64_in _ (by omega)]
  omega
theorem both_beq (t s : ByteArray) (h : sum t.data.toList = sum s.data.toList → t.data.toList = s.data.toList) : ∃ b, (t.toList == s.toList) = b ∧ (u (sum t.data.toList) == u (sum s.data.toList)) = b := by
  rw [ByteArray.toList_eq, ByteArray.toList_eq]
  by_cases e : t.data.toList = s.data.toList
  · exact ⟨true, by rw [e]; exact beq_self_eq_true _, by rw [e]; exact beq_self_eq_true _⟩
  · refine ⟨false, ?_, ?_⟩
    · cases h' : t.data.toList == s.data.toList
      · rfl
      · exact absurd (eq_of_beq h') e
    · cases h' : u (sum t.data.toList) == u (sum s.data.toList)
      · rfl
      · exact absurd (h (u_inj (eq_of_beq h'))) e
theorem extract_list (s : ByteArray) (i j : Nat) : (s.extract i j).data.toList = (s.data.toList.drop i).take (j - i) := by
  rw [ByteArray.data_extract, Array.toList_extract]
/-- Four bytes put in the place of four. -/
theorem put_four (s f : ByteArray) (k : Nat) (hk : k + 4 ≤ s.size) (hf : 4 ≤ f.size) (h : sum (s.extract 0 k ++ f.extract 0 4 ++ s.extract (k + 4) s.size).data.toList = sum s.data.toList) :
    (s.extract 0 k ++ f.extract 0 4 ++ s.extract (k + 4) s.size).data.toList = s.data.toList := by
  have e1 : (s.extract 0 k ++ f.extract 0 4 ++ s.extract (k + 4) s.size).data.toList = s.data.toList.take k ++ f.data.toList.take 4 ++ s.data.toList.drop (k + 4) := by
    simp only [ByteArray.data_append, Array.toList_append, extract_list, List.drop_zero, Nat.sub_zero]
    congr 1
    apply List.take_of_length_le
    simp
  have e2 : s.data.toList = s.data.toList.take k ++ (s.data.toList.drop k).take 4 ++ s.data.toList.drop (k + 4) := by
    rw [← List.take_add, List.take_append_drop]
  have hl : s.data.toList.length = s.size := by simp
  have hl2 : f.data.toList.length = f.size := by simp
  rw [e1] at h ⊢
  have h' : sum (s.data.toList.take k ++ f.data.toList.take 4 ++ s.data.toList.drop (k + 4)) = sum (s.data.toList.take k ++ (s.data.toList.drop k).take 4 ++ s.data.toList.drop (k + 4)) := by
    rw [← e2]; exact h
  have := window_sum _ _ _ _ (by simp only [List.length_take, List.length_drop]; omega) (by simp only [List.length_take]; omega) h'
  rw [this, ← e2]

set_option maxRecDepth 100000 in
set_option maxHeartbeats 400000 in
theorem bent_walk (s four : ByteArray) (a : Int) (x : BitVec 32) (w : World) (hs : s.size ≤ 140737488351232) (hf : four.size ≤ 140737488351232)
    (ha0 : -9223372036854775808 ≤ a) (ha1 : a ≤ 9223372036854775807) :
    Calls Try.prog 4 #[.string s, .int .i64 a, .int .u32 (u x), .string four] w fun e w' => e = .returned (.bool true) ∧ Below w.heap.size w w' := by
  by_cases hlen : s.size ≤ 10000
  · obtain ⟨t, ht⟩ : ∃ t : ByteArray, t.data.toList = bend s.data.toList a x := ⟨⟨(bend s.data.toList a x).toArray⟩, by simp⟩
    have hl : s.data.toList.length ≤ 100000 := by simp; omega
    have htl : t.size ≤ 100000 := by
      have := congrArg List.length ht
      rw [bend_length] at this; simp at this; omega
    obtain ⟨b, hB1, hB2⟩ := both_beq t s (fun e => by
      rw [ht] at e
      have e2 := bend_sum _ _ _ e
      rw [← ht] at e2
      exact e2)
    have H1 := Lib.hid ht
    clear ht
    cases b <;> by_cases hs4 : s.size < 4 <;> by_cases hf4 : four.size < 4
    all_goals
      go_enter Try.func4, Try.ntmps4
      go_wp2_with fail
      refine (works_any _).mono ?_
      rintro e w0 ⟨rfl, hb0⟩
      go_wp2_with fail
      refine (bend_to s t _ a x _ rfl hl ha0 ha1 H1.out).mono ?_
      rintro e w1 ⟨rfl, hb1⟩
      have hb1 := then_below hb0 hb1
      clear hb0
      go_wp2_with fail
      refine (sum_any t _ htl).mono ?_
      rintro e w2 ⟨rfl, hb2⟩
      have hb2 := then_below hb1 hb2
      clear hb1
      go_wp2_with fail
      refine (sum_any s _ (by omega)).mono ?_
      rintro e w3 ⟨rfl, hb3⟩
      have hb3 := then_below hb2 hb3
      clear hb2
      go_wp2_with fail
    any_goals (go_ret; exact ⟨rfl, hb3⟩)
    all_goals
      obtain ⟨k, hk, hK⟩ := place_of a ((s.size : Int) - 3) (by omega) (by omega)
      rw [hK]
      have hw : IntKind.i64.wrap ((k : Int) + 4) = (k : Int) + 4 := IntWalk.i64_in _ (by omega)
      have hk1 : (0 : Int) ≤ k := by omega
      have hk2 : (k : Int) ≤ s.size := by omega
      have hk3 : (k : Int) + 4 ≤ s.size := by omega
      have hf2 : (4 : Int) ≤ four.size := by omega
      clear hK
      go_quiet (fail)
      clear hw
      go_wp2_with fail
      obtain ⟨c, hc1, hc2⟩ := both_beq (s.extract 0 k ++ four.extract 0 4 ++ s.extract (k + 4) s.size) s (put_four s four k (by omega) (by omega))
      have hUl : (s.extract 0 k ++ four.extract 0 4 ++ s.extract (k + 4) s.size).size ≤ 100000 := by
        simp only [ByteArray.size_append, ByteArray.size_extract]; omega
      generalize s.extract 0 k ++ four.extract 0 4 ++ s.extract (k + 4) s.size = U at hc1 hc2 hUl
      cases c
      all_goals
        refine (sum_any U _ hUl).mono ?_
        rintro e w4 ⟨rfl, hb4⟩
        have hb4 := then_below (hb3.drewN nq) hb4
        clear hb3
        go_wp2_with fail
        refine (sum_any s _ (by omega)).mono ?_
        rintro e w5 ⟨rfl, hb5⟩
        have hb5 := then_below hb4 hb5
        clear hb4
        go_wp2_with fail
        go_ret
        exact ⟨rfl, hb5⟩
  · go_enter Try.func4, Try.ntmps4
    go_wp2_with fail
    refine (works_any _).mono ?_
    rintro e w0 ⟨rfl, hb0⟩
    go_wp2_with fail
    refine (works_any _).mono ?_
    rintro e w1 ⟨rfl, hb1⟩
    have hb1 := then_below hb0 hb1
    clear hb0
    go_wp2_with fail
    go_ret
    exact ⟨rfl, hb1⟩
end Go.Proofs.Ytdiigplcpalepaa
