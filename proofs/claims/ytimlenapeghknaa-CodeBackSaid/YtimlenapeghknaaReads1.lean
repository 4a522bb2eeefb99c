/-
  The walks of a reader of numbers.
-/
import Derived.Test.YtimlenapeghknaaWalks8
import Derived.Deep.RegionHeld3
import Derived.Laws.Bits128
namespace Go.Proofs.Ytimlenapeghknaa
open Go.RowKit
set_option linter.unusedVariables false
set_option linter.unusedSimpArgs false
attribute [local go_sem ↓] Go.wp_at_zero Go.wp_at_succ
theorem or_i64_nat (a b : Nat) (ha : a < 4611686018427387904) (hb : b < 4611686018427387904) : bits .or .i64 (a : Int) (b : Int) = ((a ||| b : Nat) : Int) := by
  have hx : a ||| b < 2 ^ 62 := Nat.or_lt_two_pow (by omega) (by omega)
  have h1 : (BitVec.ofInt 64 (a : Int)).toNat = a := by
    rw [BitVec.ofInt_natCast, BitVec.toNat_ofNat]; exact Nat.mod_eq_of_lt (by omega)
  have h2 : (BitVec.ofInt 64 (b : Int)).toNat = b := by
    rw [BitVec.ofInt_natCast, BitVec.toNat_ofNat]; exact Nat.mod_eq_of_lt (by omega)
  show IntKind.i64.wrap ((BitVec.ofInt 64 (a : Int) ||| BitVec.ofInt 64 (b : Int)).toNat : Int) = _
  rw [BitVec.toNat_or, h1, h2, IntKind.wrap_i64]
  omega
theorem bits_chain (m k : Nat) (b : UInt8) (hk : k ≤ 5) (hm : m < 128 ^ k) :
    bits .or .i64 (m : Int) (wrap64 (bits .and .i64 (b.toNat : Int) 127 * 2 ^ (7 * k))) = ((m + b.toNat % 128 * 128 ^ k : Nat) : Int) := by
  have e1 : (2 : Int) ^ (7 * k) = ((128 ^ k : Nat) : Int) := by
    have : (128 : Nat) ^ k = 2 ^ (7 * k) := by rw [Nat.pow_mul]
    rw [this]; simp
  have e2 : (b.toNat : Int) % 128 = ((b.toNat % 128 : Nat) : Int) := by omega
  have h5 : 128 ^ k ≤ 128 ^ 5 := Nat.pow_le_pow_right (by omega) hk
  have h6 : (128 : Nat) ^ 5 = 34359738368 := by decide
  have h7 : b.toNat % 128 * 128 ^ k ≤ 127 * 34359738368 := Nat.mul_le_mul (by omega) (by omega)
  rw [i64_and127, e1, e2]
  have e3 : ((b.toNat % 128 : Nat) : Int) * ((128 ^ k : Nat) : Int) = ((b.toNat % 128 * 128 ^ k : Nat) : Int) := by simp
  rw [e3, IntWalk.wrap64_in _ (by omega), or_i64_nat _ _ (by omega) (by omega)]
  congr 1
  have hlt : m < 2 ^ (7 * k) := by rw [Nat.pow_mul]; exact hm
  have h := Nat.two_pow_add_eq_or_of_lt hlt (b.toNat % 128)
  have e4 : (2 : Nat) ^ (7 * k) = 128 ^ k := by rw [Nat.pow_mul]
  rw [e4, Nat.mul_comm] at h
  rw [Nat.or_comm, ← h, Nat.add_comm]
/-- A reader: what is left, what was wrong. -/
def Rd (R : Nat) (l : List UInt8) (e : Int) (w : World) : Prop := w.heap[R]? = some (.cells #[str l, .int .i64 e] 55 (0, 0))
section
variable {R : Nat} {l : List UInt8} {e : Int} {w w' : World}
theorem Rd.lt (h : Rd R l e w) : R < w.heap.size := (Array.getElem?_eq_some_iff.1 h).1
theorem Rd.c0 (h : Rd R l e w) : w.cell? ⟨R, 0, none⟩ = some (str l) := by rw [cell_of_row _ _ _ _ _ _ h]; rfl
theorem Rd.c1 (h : Rd R l e w) : w.cell? ⟨R, 1, none⟩ = some (.int .i64 e) := by rw [cell_of_row _ _ _ _ _ _ h]; rfl
theorem Rd.free (h : Rd R l e w) (o : Nat) : w.frozen? ⟨R, o, none⟩ = false := frozen_of_row _ _ _ _ _ h
theorem Rd.kept (h : Rd R l e w) (hb : Below w.heap.size w w') : Rd R l e w' := (hb.block _ h.lt).trans h
theorem Rd.other {C : Nat} (h : Rd R l e w) (hK : Keep C w w') (hC : R ≠ C) : Rd R l e w' := (hK.block _ h.lt hC).trans h
theorem Rd.alloc (h : Rd R l e w) (o : Obj) : Rd R l e (w.alloc o) := h.kept ((Below.refl _ _).alloc (Nat.le_refl _) _)
theorem Rd.drew (h : Rd R l e w) : Rd R l e w.drew := h
theorem Rd.drewN (h : Rd R l e w) (n : Nat) : Rd R l e (w.drewN n) := h
theorem Rd.set0 (h : Rd R l e w) (m : List UInt8) : Rd R m e (w.setCell ⟨R, 0, none⟩ (str m)) := by unfold Rd; rw [heap_setCell_same _ _ _ _ _ _ h]; rfl
theorem Rd.set1 (h : Rd R l e w) (x : Int) : Rd R l x (w.setCell ⟨R, 1, none⟩ (.int .i64 x)) := by unfold Rd; rw [heap_setCell_same _ _ _ _ _ _ h]; rfl
end
theorem open_any (l : List UInt8) (w : World) : Calls Try.prog 16 #[str l] w fun e w' => e = .returned (.pointer (some ⟨w.heap.size, 0, none⟩)) ∧ Rd w.heap.size l 0 w' ∧ Below w.heap.size w w' := by
  go_enter Try.func16, Try.ntmps16
  go_wp2
  go_ret
  exact ⟨rfl, heap_alloc_new _ _, (Below.refl _ _).alloc (Nat.le_refl _) _⟩
theorem left_any (R : Nat) (l : List UInt8) (e : Int) (w : World) (h : Rd R l e w) : Calls Try.prog 19 #[.pointer (some ⟨R, 0, none⟩)] w fun r w' => r = .returned (.int .i64 l.length) ∧ w = w' := by
  have c0 := h.c0
  go_enter Try.func19, Try.ntmps19
  go_wp2
  go_ret
  exact ⟨by simp [ByteArray.size], rfl⟩
theorem ext_drop (l : List UInt8) (k : Nat) : (⟨l.toArray⟩ : ByteArray).extract k l.length = ⟨(l.drop k).toArray⟩ := by
  apply ByteArray.ext
  simp [List.take_of_length_le]
/-- How a number is read: what is told, and what is left. -/
def NumOut (R : Nat) (l : List UInt8) (w : World) (r : Ending) (w' : World) : Prop :=
  r = .returned (.tuple #[.int .i64 (rn l).1, .int .i64 (rn l).2.1]) ∧ Rd R (if (rn l).2.1 = 0 then (rn l).2.2 else l) 0 w' ∧ Keep R w w'
theorem NumOut.wrong {R : Nat} {l : List UInt8} {w : World} {e : Int} (hr : rn l = (0, e, [])) (he : e ≠ 0) (h : Rd R l 0 w) : NumOut R l w (.returned (.tuple #[.int .i64 0, .int .i64 e])) w := by
  unfold NumOut
  rw [hr]
  refine ⟨rfl, ?_, Keep.refl _ _⟩
  simp only [if_neg he]
  exact h
theorem NumOut.right {R : Nat} {l m : List UInt8} {w w' : World} {v : Nat} (hr : rn l = (v, 0, m)) (h : Rd R m 0 w') (hK : Keep R w w') : NumOut R l w (.returned (.tuple #[.int .i64 v, .int .i64 0])) w' := by
  unfold NumOut
  rw [hr]
  exact ⟨rfl, h, hK⟩
set_option maxRecDepth 100000 in
set_option maxHeartbeats 4000000 in
theorem num27 (R Bp : Nat) (l : List UInt8) (w : World) (h : Rd R l 0 w) (hp : w.cell? ⟨Bp, 0, none⟩ = some (.pointer (some ⟨R, 0, none⟩))) (hl : l.length ≤ 100000) :
    Calls Try.prog 27 #[.pointer (some ⟨Bp, 0, none⟩)] w (NumOut R l w) := by
  have c0 := h.c0
  have f0 := h.free 0
  have H := Lib.hid h
  clear h
  go_enter Try.func27, Try.ntmps27
  go_wp2_with fail
  go_loop [3, 4, 5] (fun n i _ => ∃ k m : Nat, k ≤ l.length ∧ k ≤ 6 ∧ m < 128 ^ k ∧ i = .int .i64 k ∧ n = .int .i64 m ∧ Hid (rn l = rd 8 4 k m (l.drop k))) (fun _ i _ => l.length - (intOf i).toNat)
  case atStart => exact ⟨0, 0, by omega, by omega, by decide, rfl, rfl, Lib.hid rfl⟩
  case round =>
    obtain ⟨k, m, hk, hk6, hm, rfl, rfl, HE⟩ := hrel
    by_cases hlt : k < l.length
    · by_cases h5 : k ≤ 5
      · have hsz : k < (⟨l.toArray⟩ : ByteArray).size := by rw [size_str]; exact hlt
        obtain ⟨b, hb⟩ : ∃ b, (⟨l.toArray⟩ : ByteArray)[k]'hsz = b := ⟨_, rfl⟩
        obtain ⟨v, hv⟩ : ∃ v, v = m + b.toNat % 128 * 128 ^ k := ⟨_, rfl⟩
        have hbl : b.toNat < 256 := b.toNat_lt
        have hch := bits_chain m k b h5 hm
        rw [← hv] at hch
        have hwb : wrap64 (b.toNat : Int) = (b.toNat : Int) := IntWalk.wrap64_in _ (by omega)
        have HE2 : Hid (rn l = rd 8 4 k m (b :: l.drop (k + 1))) := Lib.hid (by rw [HE.out, drop_cons l k hlt]; subst hb; rfl)
        have HV := Lib.hid hv
        have HV2 : Hid (v < 128 ^ (k + 1)) := Lib.hid (by
          rw [hv, Nat.pow_succ]
          have : b.toNat % 128 * 128 ^ k ≤ 127 * 128 ^ k := Nat.mul_le_mul_right _ (by omega)
          omega)
        have HM := Lib.hid hm
        clear hv hm HE hl
        by_cases c1 : 1099511627776 < v
        · go_wp2_with fail
          go_ret2
          have hr : rn l = (0, 4, []) := by rw [HE2.out]; simp only [rd]; rw [if_neg (by omega), if_pos (by rw [← HV.out]; exact c1)]
          exact NumOut.wrong hr (by decide) H.out
        · by_cases c2 : 128 ≤ b.toNat
          · go_wp2_with fail
            go_round
            case rel => exact ⟨k + 1, v, by omega, by omega, HV2.out, by go_num, rfl, Lib.hid (by rw [HE2.out]; simp only [rd]; rw [if_neg (by omega), if_neg (by rw [← HV.out]; exact c1), if_pos c2, ← HV.out])⟩
            case measure => simp only [intOf]; omega
          · by_cases c3 : b.toNat = 0
            · by_cases c4 : 0 < k
              · have c3' : ((b.toNat : Int) == 0) = true := by simp [c3]
                have C3 := Lib.hid c3
                clear c3
                go_wp2_with fail
                go_ret2
                have hr : rn l = (0, 4, []) := by rw [HE2.out]; simp only [rd]; rw [if_neg (by omega), if_neg (by rw [← HV.out]; exact c1), if_neg c2, if_pos ⟨C3.out, c4⟩]
                exact NumOut.wrong hr (by decide) H.out
              · have c3' : ((b.toNat : Int) == 0) = true := by simp [c3]
                have hr : Hid (rn l = (v, 0, l.drop (k + 1))) := Lib.hid (by rw [HE2.out]; simp only [rd]; rw [if_neg (by omega), if_neg (by rw [← HV.out]; exact c1), if_neg c2, if_neg (by rw [not_and]; intro _; exact c4), ← HV.out])
                clear c3
                go_upto_region 14 with fail
                go_region
                go_wp2_with fail
                go_ret2
                exact NumOut.right hr.out (by rw [ext_drop]; exact (H.out.set0 _).drew) ((Keep.refl R w).setCell (.inl rfl) _).drew
            · have c3' : ((b.toNat : Int) == 0) = false := by simp [c3]
              have hr : Hid (rn l = (v, 0, l.drop (k + 1))) := Lib.hid (by rw [HE2.out]; simp only [rd]; rw [if_neg (by omega), if_neg (by rw [← HV.out]; exact c1), if_neg c2, if_neg (by rw [not_and]; intro h; exact absurd h c3), ← HV.out])
              clear c3
              go_upto_region 14 with fail
              go_region
              go_wp2_with fail
              go_ret2
              exact NumOut.right hr.out (by rw [ext_drop]; exact (H.out.set0 _).drew) ((Keep.refl R w).setCell (.inl rfl) _).drew
      · have hr : rn l = (0, 4, []) := by rw [HE.out, drop_cons l k hlt]; simp only [rd]; rw [if_pos (by omega)]
        have HR := Lib.hid hr
        clear hr HE hl
        go_wp2_with fail
        go_ret2
        exact NumOut.wrong HR.out (by decide) H.out
    · obtain rfl : k = l.length := by omega
      have HR : Hid (rn l = (0, 8, [])) := Lib.hid (by rw [HE.out, List.drop_length]; rfl)
      clear HE hl
      go_wp2_with fail
      go_ret2
      exact NumOut.wrong HR.out (by decide) H.out
end Go.Proofs.Ytimlenapeghknaa
