/-
  How the frame of a walk spells numbers of 32 bits: rules for the walk's own simplifier.
-/
import Derived.Test.YtdiigplcpalepaaProg
import Derived.Test.YtdiigplcpalepaaPlain
import Derived.WalkKit
import Derived.WalkSpells
import Derived.WalkLawsBesides
import Derived.Lib.Hide
import Derived.Lib.ConvBytes
import Derived.Deep.WholeRow
namespace Go.Proofs.Ytdiigplcpalepaa
open Go.RowKit
open Crc

/-- A number of 32 bits as an integer. -/
def u (x : BitVec 32) : Int := x.toNat
theorem u_lo (x : BitVec 32) : 0 ≤ u x := by unfold u; omega
theorem u_hi (x : BitVec 32) : u x ≤ 4294967295 := by unfold u; have := x.isLt; omega
theorem u_of (n : Int) (h0 : 0 ≤ n) (h1 : n ≤ 4294967295) : ∃ x, n = u x :=
  ⟨BitVec.ofNat 32 n.toNat, by unfold u; rw [BitVec.toNat_ofNat]; omega⟩
theorem u_inj {x y : BitVec 32} (h : u x = u y) : x = y := by
  unfold u at h; exact BitVec.eq_of_toNat_eq (by omega)
theorem u_ofNat (i : Nat) (h : i < 256) : u (BitVec.ofNat 32 i) = i := by
  unfold u; rw [BitVec.toNat_ofNat]; omega
theorem bits_xor32 (x y : BitVec 32) : bits .xor .u32 (u x) (u y) = u (x ^^^ y) := by
  have e : ∀ z : BitVec 32, BitVec.ofInt 32 (u z) = z := fun z => by simp [u]
  show IntKind.u32.wrap ((BitVec.ofInt 32 (u x) ^^^ BitVec.ofInt 32 (u y)).toNat : Int) = _
  rw [e, e, IntKind.wrap_u32']
  unfold u
  have := (x ^^^ y).isLt
  omega
theorem bits_not32 (x : BitVec 32) : bits .xor .u32 IntKind.u32.max (u x) = u (~~~x) := by
  have h : (IntKind.u32.max : Int) = u (~~~(0 : BitVec 32)) := by decide
  rw [h, bits_xor32]
  congr 1
theorem u_b32 (b : UInt8) : u (b32 b) = (b.toNat : Int) % 4294967296 := by
  unfold u b32
  have := b.toNat_lt
  have e : (b.toBitVec.zeroExtend 32).toNat = b.toNat := by
    rw [BitVec.toNat_setWidth]
    show b.toNat % 2 ^ 32 = b.toNat
    omega
  rw [e]; omega
theorem bits_xor32b (x : BitVec 32) (b : UInt8) : bits .xor .u32 (u x) ((b.toNat : Int) % 4294967296) = u (x ^^^ b32 b) := by
  rw [← u_b32, bits_xor32]
theorem u_poly : u poly = 3988292384 := by decide
theorem bits_poly (x : BitVec 32) : bits .xor .u32 (u x) 3988292384 = u (x ^^^ poly) := by
  rw [← u_poly, bits_xor32]
theorem u_half (x : BitVec 32) : u x / (2 : Int) = u (x >>> 1) := by
  unfold u; rw [BitVec.toNat_ushiftRight, Nat.shiftRight_eq_div_pow]; omega
theorem u_byte (x : BitVec 32) : u x / (256 : Int) = u (x >>> 8) := by
  unfold u; rw [BitVec.toNat_ushiftRight, Nat.shiftRight_eq_div_pow]; omega
theorem bits_and1 (x : BitVec 32) : bits .and .u32 (u x) 1 = u x % 2 := by
  have h0 := u_lo x
  have h1 := u_hi x
  rw [u32_and _ _ h0 (by omega) (by omega) (by omega)]
  have : (u x).toNat &&& Int.toNat 1 = (u x).toNat % 2 := Nat.and_one_is_mod _
  rw [this]; omega
theorem odd_iff (x : BitVec 32) : (u x % 2 == 1) = x.getLsbD 0 := by
  have : x.getLsbD 0 = decide (x.toNat % 2 = 1) := by
    rw [BitVec.getLsbD, Nat.testBit_zero]
  rw [this, Bool.eq_iff_iff]
  unfold u
  simp; omega
/-- What the bit that falls out makes of the number. -/
theorem bstep_odd (z : BitVec 32) (h : (u z % 2 == 1) = true) : u (z >>> 1 ^^^ poly) = u (bstep z) := by
  rw [odd_iff] at h; unfold bstep; rw [if_pos h]
theorem bstep_not (z : BitVec 32) (h : (u z % 2 == 1) = false) : u (z >>> 1) = u (bstep z) := by
  rw [odd_iff] at h; unfold bstep; rw [h]; rfl
/-- Where the table is read. -/
def ix (x : BitVec 32) (b : UInt8) : Nat := (x.setWidth 8 ^^^ b.toBitVec).toNat
theorem ix_lt (x : BitVec 32) (b : UInt8) : ix x b < 256 := (x.setWidth 8 ^^^ b.toBitVec).isLt
theorem bits_ix (x : BitVec 32) (b : UInt8) : bits .xor .u8 (u x % 256) (b.toNat : Int) = (ix x b : Int) := by
  have h0 := u_lo x
  have hb := b.toNat_lt
  rw [u8_xor _ _ (by omega) (by omega) (by omega) (by omega)]
  congr 1
theorem upd_ix (x : BitVec 32) (b : UInt8) : bsteps 8 (BitVec.ofNat 32 (ix x b)) ^^^ (x >>> 8) = upd x b := by
  rw [upd_table]
  have : BitVec.ofNat 32 (ix x b) = ((x.setWidth 8 ^^^ b.toBitVec) : BitVec 8).setWidth 32 := by
    apply BitVec.eq_of_toNat_eq
    rw [BitVec.toNat_ofNat, BitVec.toNat_setWidth]; rfl
  rw [this]
attribute [go_sem] bits_xor32 bits_not32 bits_xor32b bits_poly bits_and1 bits_ix

theorem over_snoc (x : BitVec 32) (s : ByteArray) (k : Nat) (h : k < s.size) : over x (s.data.toList.take (k + 1)) = upd (over x (s.data.toList.take k)) s[k] := by
  rw [List.take_succ_eq_append_getElem (by simpa using h), over_append]; rfl
theorem over_zero (x : BitVec 32) (s : ByteArray) : over x (s.data.toList.take 0) = x := rfl
theorem over_all (x : BitVec 32) (s : ByteArray) : over x (s.data.toList.take s.size) = over x s.data.toList := by
  rw [List.take_of_length_le]; simp
theorem ret_u {x y : BitVec 32} (h : x = y) : Ending.returned (.int .u32 (u x)) = .returned (.int .u32 (u y)) := by rw [h]
theorem val_u {a : Int} {y : BitVec 32} (h : a = u y) : Value.int .u32 a = .int .u32 (u y) := by rw [h]
end Go.Proofs.Ytdiigplcpalepaa
