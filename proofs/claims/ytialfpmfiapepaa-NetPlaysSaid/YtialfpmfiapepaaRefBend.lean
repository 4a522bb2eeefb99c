/-
  The walk of the document's Bend: what it makes is what the program's makes.
-/
import Derived.Test.YtialfpmfiapepaaRefRest
namespace Go.Proofs.Ytialfpmfiapepaa
open Go.RowKit
set_option linter.unusedVariables false
set_option linter.unusedSimpArgs false

theorem nthByte_shr (x : BitVec 32) (m : Nat) : nthByte (x >>> (8 * m)) 0 = nthByte x m := by
  unfold nthByte
  rw [BitVec.toNat_ushiftRight, Nat.shiftRight_eq_div_pow]
  simp
theorem restL_bend (a : Int) (x : BitVec 32) : ∀ (l : List UInt8) (i m : Nat), a + m = i → restL a i l (x >>> (8 * m)) = l.mapIdx fun j c => bendAt a x (i + j) c := by
  intro l
  induction l with
  | nil => intro i m _; rfl
  | cons c l ih =>
    intro i m h
    unfold restL
    split
    · rename_i h4
      apply List.ext_getElem
      · simp
      · intro j h1 h2
        simp only [List.getElem_mapIdx]
        rw [bendAt_out]; omega
    · rename_i h4
      rw [List.mapIdx_cons, ← BitVec.shiftRight_add, show 8 * m + 8 = 8 * (m + 1) by omega, ih (i + 1) (m + 1) (by omega), nthByte_shr]
      congr 1
      · simp only [bendAt, Nat.add_zero]
        rw [if_pos (by omega)]
        congr 2
        omega
      · congr 1
        funext j d
        congr 1
        omega
theorem bend_parts (a : Int) (x : BitVec 32) (s : List UInt8) (k m : Nat) (hk : k < s.length) (ham : a + m = k) (h4 : (k : Int) - 4 < a) (hout : ∀ i, i < k → ¬ (a ≤ (i : Int) ∧ (i : Int) < a + 4)) :
    s.take k ++ ((s[k] ^^^ nthByte (x >>> (8 * m)) 0) :: restL a (k + 1) (s.drop (k + 1)) ((x >>> (8 * m)) >>> 8)) = bend s a x := by
  rw [← BitVec.shiftRight_add, show 8 * m + 8 = 8 * (m + 1) by omega, restL_bend a x _ (k + 1) (m + 1) (by omega), nthByte_shr]
  have e : s = s.take k ++ s[k] :: s.drop (k + 1) := by
    rw [← List.drop_eq_getElem_cons hk, List.take_append_drop]
  apply List.ext_getElem
  · simp [bend]; omega
  · intro i h1 h2
    simp only [bend, List.getElem_mapIdx]
    rcases Nat.lt_trichotomy i k with h | h | h
    · rw [List.getElem_append_left (by simp; omega)]
      simp only [List.getElem_take]
      rw [bendAt_out _ _ _ _ (hout i h)]
    · subst h
      rw [List.getElem_append_right (by simp; omega)]
      simp only [List.length_take]
      have : i - min i s.length = 0 := by omega
      simp only [this, List.getElem_cons_zero, bendAt]
      rw [if_pos (by omega)]
      congr 2
      omega
    · rw [List.getElem_append_right (by simp; omega)]
      simp only [List.length_take]
      have : i - min k s.length = (i - k - 1) + 1 := by omega
      simp only [this, List.getElem_cons_succ, List.getElem_mapIdx, List.getElem_drop]
      congr 1
      · omega
      · congr 1; omega

set_option maxRecDepth 100000 in
set_option maxHeartbeats 400000 in
theorem refbend_any (s : ByteArray) (a : Int) (x : BitVec 32) (w : World) (hs : s.size ≤ 100000) (h0 : -9223372036854775808 ≤ a) (h1 : a ≤ 9223372036854775807) :
    Calls Try.prog 37 #[.string s, .int .i64 a, .int .u32 (u x)] w fun e w' => e = .returned (.string ⟨(bend s.data.toList a x).toArray⟩) ∧ Below w.heap.size w w' := by
  go_enter Try.func37, Try.ntmps37
  go_wp2_with fail
  go_loop [2, 7, 8] (fun y out i => ∃ (k : Nat) (t : ByteArray), k ≤ s.size ∧ i = .int .i64 k ∧ y = .int .u32 (u x) ∧ out = .string t ∧ t.size ≤ k ∧ t.data.toList = s.data.toList.take k ∧ ∀ i, i < k → ¬ (a ≤ (i : Int) ∧ (i : Int) < a + 4)) (fun _ _ i => s.size - (intOf i).toNat)
  case atStart => exact ⟨0, ⟨#[]⟩, by omega, rfl, rfl, rfl, by decide, rfl, fun i h => by omega⟩
  case round =>
    obtain ⟨k, t, hk, rfl, rfl, rfl, htk, ht, hout⟩ := hrel
    have HT := Lib.hid ht
    have HO := Lib.hid hout
    clear ht hout
    by_cases hlt : k < s.size
    · by_cases c1 : a ≤ (k : Int)
      · by_cases c2 : (k : Int) - 4 < a
        · go_wp2
          go_loop [2, 10] (fun y j => ∃ m : Nat, a + m ≤ k ∧ j = .int .i64 (a + m) ∧ y = .int .u32 (u (x >>> (8 * m)))) (fun _ j => ((k : Int) - intOf j).toNat)
          case atStart => exact ⟨0, by omega, by simp, by simp⟩
          case round =>
            obtain ⟨m, hm, rfl, rfl⟩ := hrel
            by_cases hj : a + m < k
            · have e : (x >>> (8 * m)) >>> 8 = x >>> (8 * (m + 1)) := by rw [← BitVec.shiftRight_add]; rfl
              have HE := Lib.hid e
              clear e
              go_wp2
              go_round
              case rel => exact ⟨m + 1, by omega, by simp; omega, val_u (by rw [HE.out])⟩
              case measure => simp [intOf]; omega
            · have hjm : a + m = k := by omega
              have hlt' : k < s.data.toList.length := by simpa using hlt
              have hp := bend_parts a x s.data.toList k m hlt' hjm c2 HO.out
              have hsk : s.data.toList[k] = s[k] := rfl
              rw [hsk] at hp
              generalize x >>> (8 * m) = z at hp
              have HP := Lib.hid hp
              have ihx : ∀ v : World, Calls Try.prog 38 #[.string s, .int .i64 ((k : Int) + 1), .int .i64 a, .int .u32 (u (z >>> 8))] v fun e w' => ∃ r : ByteArray, e = .returned (.string r) ∧ r.size ≤ 100000 ∧
                  r.data.toList = restL a (k + 1) (s.data.toList.drop (k + 1)) (z >>> 8) ∧ Below v.heap.size v w' := fun v => by
                refine (rrest_any s a hs h0 h1 _ (k + 1) (z >>> 8) v (by omega) rfl).mono ?_
                rintro e w' ⟨rfl, hb⟩
                refine ⟨_, rfl, ?_, rfl, hb⟩
                show (restL a (k + 1) (s.data.toList.drop (k + 1)) (z >>> 8)).toArray.size ≤ 100000
                simp [restL_length]; omega
              have IHX := Lib.hid ihx
              clear hjm hp hsk ihx
              go_wp2
              have hw : IntKind.i64.wrap ((k : Int) + 1) = (k : Int) + 1 := IntWalk.i64_in _ (by omega)
              have hi0 : (0 : Int) ≤ k := by omega
              have hi1 : (k : Int) < s.size := by omega
              have hconv : ∀ (v : World) (B : Nat), v.cell? ⟨B, 0, none⟩ = some (.int .u8 ((s[k].toNat ^^^ (nthByte z 0).toNat : Nat) : Int)) →
                  (convert 44 9 (.slice (some ⟨B, 0, none⟩) 1 1)).run Try.prog v = .ok (.string ⟨#[s[k] ^^^ nthByte z 0]⟩) v := fun v B h => by
                rw [← UInt8.toNat_xor] at h; exact conv_one v B _ h
              have hadd1 : ∀ v : World, (Op.stringOp .add t ⟨#[s[k] ^^^ nthByte z 0]⟩).run Try.prog v = .ok (.string (t ++ ⟨#[s[k] ^^^ nthByte z 0]⟩)) v := fun v =>
                run_string_add_sum (P := Try.prog) (w := v) t ⟨#[s[k] ^^^ nthByte z 0]⟩ (by
                  have : (⟨#[s[k] ^^^ nthByte z 0]⟩ : ByteArray).size = 1 := rfl
                  omega)
              go_region_with (first | (go_at_call 38; refine (IHX.out _).mono ?_; rintro e w9 ⟨r, rfl, hrl, hr, hb9⟩; have HT9 := Lib.hid hr; clear hr; have hc9 := fun (b o : Nat) (h : b < _) => hb9.cell (p := ⟨b, o, none⟩) h))
              all_goals
                go_wp2
                go_ret
                refine ⟨?_, ?_⟩
                · refine ret_s ?_
                  simp only [ByteArray.data_append, Array.toList_append, HT.out, HT9.out]
                  rw [← HP.out]
                  simp
                · have hs9 := hb9.size
                  first
                    | exact then_below (((Below.refl _ _).alloc (Nat.le_refl _) _).drew) hb9
                    | exact (then_below (Below.refl _ w).drew hb9).alloc hs9 _
        · have hsl : t.size + 1 ≤ 9223372036854775807 := by omega
          have hsk : (s.extract k (k + 1)).data.toList = [s[k]] := by
            rw [extract_list, show k + 1 - k = 1 by omega, List.drop_eq_getElem_cons (by simpa using hlt)]; rfl
          have hst : (t ++ s.extract k (k + 1)).data.toList = s.data.toList.take (k + 1) := by
            rw [List.take_succ_eq_append_getElem (by simpa using hlt)]
            simp only [ByteArray.data_append, Array.toList_append, HT.out, hsk]; rfl
          have HS := Lib.hid hst
          have hsz : (t ++ s.extract k (k + 1)).size ≤ k + 1 := by
            simp only [ByteArray.size_append, ByteArray.size_extract]; omega
          have hnew : ∀ i, i < k + 1 → ¬ (a ≤ (i : Int) ∧ (i : Int) < a + 4) := fun i hi => by
            by_cases e : i < k
            · exact HO.out i e
            · omega
          have HNW := Lib.hid hnew
          clear hst hsk hnew
          go_wp2
          go_round
          case rel => exact ⟨k + 1, t ++ s.extract k (k + 1), by omega, by go_num, rfl, rfl, hsz, HS.out, HNW.out⟩
          case measure => simp [intOf]; omega
      · have hsl : t.size + 1 ≤ 9223372036854775807 := by omega
        have hsk : (s.extract k (k + 1)).data.toList = [s[k]] := by
          rw [extract_list, show k + 1 - k = 1 by omega, List.drop_eq_getElem_cons (by simpa using hlt)]; rfl
        have hst : (t ++ s.extract k (k + 1)).data.toList = s.data.toList.take (k + 1) := by
          rw [List.take_succ_eq_append_getElem (by simpa using hlt)]
          simp only [ByteArray.data_append, Array.toList_append, HT.out, hsk]; rfl
        have HS := Lib.hid hst
        have hsz : (t ++ s.extract k (k + 1)).size ≤ k + 1 := by
          simp only [ByteArray.size_append, ByteArray.size_extract]; omega
        have hnew : ∀ i, i < k + 1 → ¬ (a ≤ (i : Int) ∧ (i : Int) < a + 4) := fun i hi => by
          by_cases e : i < k
          · exact HO.out i e
          · omega
        have HNW := Lib.hid hnew
        clear hst hsk hnew
        go_wp2
        go_round
        case rel => exact ⟨k + 1, t ++ s.extract k (k + 1), by omega, by go_num, rfl, rfl, hsz, HS.out, HNW.out⟩
        case measure => simp [intOf]; omega
    · have hks : k = s.size := by omega
      have hfin : t.data.toList = bend s.data.toList a x := by
        rw [HT.out]
        apply List.ext_getElem
        · rw [bend_length]; simp; omega
        · intro i h1 h2
          simp only [List.getElem_take, bend, List.getElem_mapIdx]
          rw [bendAt_out _ _ _ _ (HO.out i (by rw [bend_length] at h2; simp at h2; omega))]
      have HF := Lib.hid hfin
      clear hks hfin
      go_wp2
      go_ret
      exact ⟨ret_s (by rw [HF.out]), Below.refl _ _⟩
end Go.Proofs.Ytialfpmfiapepaa
