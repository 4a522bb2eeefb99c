/-
  The walks of the document's sums.
-/
import Derived.Test.YtdiigplcpalepaaBase
namespace Go.Proofs.Ytdiigplcpalepaa
open Go.RowKit
open Crc

set_option maxRecDepth 100000 in
set_option maxHeartbeats 400000 in
theorem ref_add (s : ByteArray) (x : BitVec 32) (w : World) (hs : s.size ≤ 100000) :
    Calls Try.prog 15 #[.int .u32 (u x), .string s] w fun e w' => e = .returned (.int .u32 (u (add x s.data.toList))) ∧ w' = w := by
  go_enter Try.func15, Try.ntmps15
  go_wp2_with fail
  go_loop [5, 6] (fun y i => ∃ (k : Nat), k ≤ s.size ∧ i = .int .i64 k ∧ y = .int .u32 (u (over (~~~x) (s.data.toList.take k)))) (fun _ i => s.size - (intOf i).toNat)
  case atStart => exact ⟨0, Nat.zero_le _, rfl, rfl⟩
  case round =>
    obtain ⟨k, hk, rfl, rfl⟩ := hrel
    by_cases hlt : k < s.size
    · have HS := Lib.hid (over_snoc (~~~x) s k hlt)
      generalize hy : over (~~~x) (s.data.toList.take k) = y at HS
      clear hy
      have h0 := u_lo y
      have h1 := u_hi y
      go_wp2
      go_loop [5, 7] (fun x i => ∃ (j : Nat), j ≤ 8 ∧ i = .int .i64 j ∧ x = .int .u32 (u (bsteps j (y ^^^ b32 s[k])))) (fun _ i => 8 - (intOf i).toNat)
      case atStart => exact ⟨0, by omega, rfl, rfl⟩
      case round =>
        obtain ⟨j, hj, rfl, rfl⟩ := hrel
        have HZ := Lib.hid (bsteps_succ j (y ^^^ b32 s[k]))
        by_cases hlt : j < 8
        · generalize hz : bsteps j (y ^^^ b32 s[k]) = z at HZ
          clear hz
          have h0 := u_lo z
          have h1 := u_hi z
          have hh := u_half z
          go_wp2
          · have hodd : (u z % 2 == 1) = true := by assumption
            have e := bstep_odd z hodd
            go_round
            case rel => exact ⟨j + 1, by omega, by go_num, val_u (by rw [HZ.out]; first | exact e | (rw [u_half]; exact e) | (rw [u_half, bits_poly]; exact e))⟩
            case measure => simp [intOf]; omega
          · have hodd : (u z % 2 == 1) = false := by assumption
            have e := bstep_not z hodd
            go_round
            case rel => exact ⟨j + 1, by omega, by go_num, val_u (by rw [HZ.out]; first | exact e | (rw [u_half]; exact e) | (rw [u_half, bits_poly]; exact e))⟩
            case measure => simp [intOf]; omega
        · have h8 : j = 8 := by omega
          subst h8
          clear HZ
          go_wp2
          go_round
          case rel => exact ⟨k + 1, by omega, by go_num, val_u (by rw [HS.out]; rfl)⟩
          case measure => simp [intOf]; omega
    · go_wp2
      go_ret
      have hk' : k = s.size := by omega
      subst hk'
      exact ⟨ret_u (by rw [over_all]; rfl), rfl⟩

theorem ref_sum (s : ByteArray) (w : World) (hs : s.size ≤ 100000) :
    Calls Try.prog 14 #[.string s] w fun e w' => e = .returned (.int .u32 (u (sum s.data.toList))) ∧ w' = w := by
  go_enter Try.func14, Try.ntmps14
  go_wp2_with fail
  have := ref_add s 0 w hs
  have e0 : u 0 = 0 := by decide
  rw [e0] at this
  refine this.mono ?_
  rintro e w' ⟨rfl, rfl⟩
  go_wp2
  go_ret
  exact ⟨rfl, rfl⟩
end Go.Proofs.Ytdiigplcpalepaa
