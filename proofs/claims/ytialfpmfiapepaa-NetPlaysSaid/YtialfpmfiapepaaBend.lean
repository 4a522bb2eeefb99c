/-
  What Bend makes of bytes; the walk of the program's Bend.
-/
import Derived.Test.YtialfpmfiapepaaPush
import Derived.Lib.ConvBytes
import Derived.Deep.WholeRow
namespace Go.Proofs.Ytialfpmfiapepaa
open Go.RowKit
set_option linter.unusedVariables false
set_option linter.unusedSimpArgs false
/-- A number of 32 bits as an integer. -/
def u (x : BitVec 32) : Int := x.toNat
theorem u_lo (x : BitVec 32) : 0 ≤ u x := by unfold u; omega
theorem u_hi (x : BitVec 32) : u x ≤ 4294967295 := by unfold u; have := x.isLt; omega
theorem u_of (n : Int) (h0 : 0 ≤ n) (h1 : n ≤ 4294967295) : ∃ x, n = u x :=
  ⟨BitVec.ofNat 32 n.toNat, by unfold u; rw [BitVec.toNat_ofNat]; omega⟩
theorem u_byte (x : BitVec 32) : u x / (256 : Int) = u (x >>> 8) := by
  unfold u; rw [BitVec.toNat_ushiftRight, Nat.shiftRight_eq_div_pow]; omega
theorem val_u {a : Int} {y : BitVec 32} (h : a = u y) : Value.int .u32 a = .int .u32 (u y) := by rw [h]
/-- Byte k of a number of 32 bits. -/
def nthByte (x : BitVec 32) (k : Nat) : UInt8 := UInt8.ofNat (x.toNat / 2 ^ (8 * k) % 256)
/-- The byte that stands at place i behind the bending, where a number is put in from place a on. -/
def bendAt (a : Int) (x : BitVec 32) (i : Nat) (c : UInt8) : UInt8 :=
  if a ≤ (i : Int) ∧ (i : Int) < a + 4 then c ^^^ nthByte x ((i : Int) - a).toNat else c
def bend (s : List UInt8) (a : Int) (x : BitVec 32) : List UInt8 := s.mapIdx (bendAt a x)
/-- Bent as far as the first k of the four places. -/
def bendTo (s : List UInt8) (a : Int) (x : BitVec 32) (k : Nat) : List UInt8 :=
  s.mapIdx fun i c => if a ≤ (i : Int) ∧ (i : Int) < a + k then c ^^^ nthByte x ((i : Int) - a).toNat else c
theorem bendTo_length (s : List UInt8) (a : Int) (x : BitVec 32) (k : Nat) : (bendTo s a x k).length = s.length := by simp [bendTo]
theorem bend_length (s : List UInt8) (a : Int) (x : BitVec 32) : (bend s a x).length = s.length := by simp [bend]
theorem bendTo_four (s : List UInt8) (a : Int) (x : BitVec 32) : bendTo s a x 4 = bend s a x := rfl
theorem bendTo_zero (s : List UInt8) (a : Int) (x : BitVec 32) : bendTo s a x 0 = s := by
  apply List.ext_getElem
  · simp [bendTo]
  · intro i h1 h2
    simp only [bendTo, List.getElem_mapIdx]
    rw [if_neg (by omega)]
theorem bendTo_out (s : List UInt8) (a : Int) (x : BitVec 32) (k : Nat) (h : ¬ (0 ≤ a + k ∧ a + k < s.length)) : bendTo s a x (k + 1) = bendTo s a x k := by
  apply List.ext_getElem
  · simp [bendTo]
  · intro i h1 h2
    simp only [bendTo, List.length_mapIdx] at h1
    simp only [bendTo, List.getElem_mapIdx]
    by_cases e : a ≤ (i : Int) ∧ (i : Int) < a + k
    · rw [if_pos e, if_pos (by omega)]
    · rw [if_neg e, if_neg (by omega)]
theorem bendTo_in (s : List UInt8) (a : Int) (x : BitVec 32) (k m : Nat) (h : a + k = m) :
    bendTo s a x (k + 1) = (bendTo s a x k).set m ((bendTo s a x k).getD m 0 ^^^ nthByte x k) := by
  apply List.ext_getElem
  · simp [bendTo]
  · intro i h1 h2
    simp only [bendTo, List.length_mapIdx] at h1
    rw [List.getElem_set]
    by_cases e : m = i
    · subst e
      have e2 : (bendTo s a x k).getD m 0 = s[m] := by
        rw [List.getD_eq_getElem?_getD, List.getElem?_eq_getElem (by rw [bendTo_length]; exact h1)]
        simp only [bendTo, List.getElem_mapIdx, Option.getD_some]
        rw [if_neg (by omega)]
      rw [if_pos rfl, e2]
      simp only [bendTo, List.getElem_mapIdx]
      rw [if_pos (by omega)]
      congr 2
      omega
    · rw [if_neg e]
      simp only [bendTo, List.getElem_mapIdx]
      by_cases e2 : a ≤ (i : Int) ∧ (i : Int) < a + k
      · rw [if_pos e2, if_pos (by omega)]
      · rw [if_neg e2, if_neg (by omega)]
theorem bend_getD (s : List UInt8) (a : Int) (x : BitVec 32) (i : Nat) (h : i < s.length) : (bend s a x)[i]? = some (bendAt a x i s[i]) := by
  simp [bend, h]
/-- Outside of the four places nothing has turned. -/
theorem bendAt_out (a : Int) (x : BitVec 32) (i : Nat) (c : UInt8) (h : ¬ (a ≤ (i : Int) ∧ (i : Int) < a + 4)) : bendAt a x i c = c := if_neg h
theorem bits_byte (c : UInt8) (x : BitVec 32) (k : Nat) : bits .xor .u8 (c.toNat : Int) (u x / 2 ^ (8 * k) % 256) = ((c.toNat ^^^ (nthByte x k).toNat : Nat) : Int) := by
  have hc := c.toNat_lt
  have e : u x / 2 ^ (8 * k) % 256 = ((x.toNat / 2 ^ (8 * k) % 256 : Nat) : Int) := by
    unfold u; simp
  have hlt : x.toNat / 2 ^ (8 * k) % 256 < 256 := Nat.mod_lt _ (by decide)
  rw [e, u8_xor_nat _ _ (by omega) hlt, nthByte, UInt8.toNat_ofNat']
  congr 2
  omega
attribute [go_sem] bits_byte
/-- The call's own row of bytes. -/
structure Bytes (B : Nat) (l : List UInt8) (w wr : World) : Prop where
  below : Below B w wr
  cell : ∀ j, j < l.length → wr.cell? ⟨B, j, none⟩ = some (.int .u8 ((l.getD j 0).toNat : Int))
  free : ∀ j, j < l.length → wr.frozen? ⟨B, j, none⟩ = false
theorem Bytes.start (s : ByteArray) (w : World) : Bytes w.heap.size s.data.toList w (Lib.bytesWorld w 5 s) where
  below := ⟨rfl, rfl, rfl, by rw [Lib.bytesWorld_size]; omega, fun k hk => Lib.bytesWorld_at_old _ _ _ _ hk⟩
  cell := fun j hj => Lib.bytesWorld_cell w 5 s j (by simpa using hj)
  free := fun j hj => by
    have hj' : j < s.size := by simpa using hj
    have := Lib.bytesWorld_at_new w 5 s
    have hl : s.size ≤ (Lib.bytesCells w 5 s).size := by
      show s.data.size ≤ _
      simp [Lib.bytesCells]
    unfold World.frozen?
    simp only [this]
    simp; omega
theorem Bytes.set {B : Nat} {l : List UInt8} {w wr : World} (h : Bytes B l w wr) (i : Nat) (c : UInt8) (hi : i < l.length) : Bytes B (l.set i c) w (wr.setCell ⟨B, i, none⟩ (.int .u8 (c.toNat : Int))) where
  below := h.below.setCell (Nat.le_refl _) _
  cell := fun j hj => by
    simp only [List.length_set] at hj
    by_cases e : i = j
    · subst e
      rw [World.cell?_setCell_same _ _ _ (h.cell i hi)]
      simp [hi]
    · rw [World.cell?_setCell_other _ _ _ _ (by simp [e]), h.cell j hj]
      simp [e]
  free := fun j hj => by
    simp only [List.length_set] at hj
    have := h.free j hj
    rw [← this]
    simp
theorem Bytes.drew {B : Nat} {l : List UInt8} {w wr : World} (h : Bytes B l w wr) : Bytes B l w wr.drew := ⟨h.below.drew, h.cell, h.free⟩
theorem Bytes.next {l : List UInt8} {a : Int} {x : BitVec 32} {k : Nat} {B : Nat} {w wr : World} (h : Bytes B (bendTo l a x k) w wr) (h1 : 0 ≤ a + k) (h2 : a + k < l.length)
    (c : UInt8) (hc : (bendTo l a x k).getD (a + k).toNat 0 = c) :
    Bytes B (bendTo l a x (k + 1)) w (wr.setCell ⟨B, (a + k).toNat, none⟩ (.int .u8 ((c.toNat ^^^ (nthByte x k).toNat : Nat) : Int))).drew := by
  rw [bendTo_in l a x k (a + k).toNat (by omega), hc]
  rw [← UInt8.toNat_xor]
  exact (h.set _ _ (by rw [bendTo_length]; omega)).drew
theorem Bytes.back {B : Nat} {l : List UInt8} {w wr : World} (h : Bytes B l w wr) (n cap : Nat) (hn : n = l.length) :
    (convert 44 9 (.slice (some ⟨B, 0, none⟩) n cap)).run Try.prog wr = .ok (.string ⟨l.toArray⟩) wr := by
  subst hn
  refine run_convert_bytes_back wr 44 9 5 ⟨B, 0, none⟩ cap l Try.underlying44 Try.underlying5 Try.underlying9 ?_
  intro j hj
  have hadd : (⟨B, 0, none⟩ : Addr).add j = ⟨B, j, none⟩ := by unfold Addr.add; split <;> simp_all
  rw [hadd, h.cell j hj]
  simp [hj]

set_option maxRecDepth 100000 in
set_option maxHeartbeats 400000 in
theorem bend_any (s : ByteArray) (a : Int) (x : BitVec 32) (w : World) (hs : s.size ≤ 100000) (h0 : -9223372036854775808 ≤ a) (h1 : a ≤ 9223372036854775807) :
    Calls Try.prog 33 #[.string s, .int .i64 a, .int .u32 (u x)] w fun e w' => e = .returned (.string ⟨(bend s.data.toList a x).toArray⟩) ∧ Below w.heap.size w w' := by
  have hcv := Lib.run_convert_string_bytes (P := Try.prog) w 9 44 5 s Try.underlying9 Try.underlying44 Try.underlying5
  have hx0 := u_lo x
  have hx1 := u_hi x
  have hlen : s.data.toList.length = s.size := by simp
  have hlen := Lib.hid hlen
  go_enter Try.func33, Try.ntmps33
  go_wp2
  clear hcv
  go_loopw [8, 9, 12] (fun y z i wr => ∃ k : Nat, k ≤ 4 ∧ i = .int .i64 k ∧ Bytes w.heap.size (bendTo s.data.toList a x k) w wr) (fun _ _ i _ => 4 - (intOf i).toNat)
  case atStart => exact ⟨0, by omega, rfl, by rw [bendTo_zero]; exact Bytes.start s w⟩
  case round =>
    obtain ⟨k, hk, rfl, hc⟩ := hrel
    by_cases hlt : k < 4
    · have hout : ¬ (0 ≤ a + k ∧ a + k < s.size) → Bytes w.heap.size (bendTo s.data.toList a x (k + 1)) w wr := fun h => by
        rw [bendTo_out _ _ _ _ (by rw [hlen.out]; exact h)]; exact hc
      have hout := Lib.hid hout
      by_cases hA : a < s.size
      · by_cases hB : 0 ≤ a + k
        · by_cases hB2 : a + k < s.size
          · have hl2 : (a + k).toNat < (bendTo s.data.toList a x k).length := by rw [bendTo_length, hlen.out]; omega
            have hcell := hc.cell (a + k).toNat hl2
            have hfree := hc.free (a + k).toNat hl2
            have hn := hc.next hB (by rw [hlen.out]; exact hB2)
            have HN := Lib.hid hn
            clear hl2 hn
            generalize (bendTo s.data.toList a x k).getD (a + k).toNat 0 = c at hcell HN
            go_wp2
            go_region
            go_wp2
            go_roundw
            case rel => exact ⟨k + 1, by omega, by go_num, HN.out c rfl⟩
            case measure => simp [intOf]; omega
          · go_wp2
            go_roundw
            case rel => exact ⟨k + 1, by omega, by go_num, hout.out (by omega)⟩
            case measure => simp [intOf]; omega
        · go_wp2
          go_roundw
          case rel => exact ⟨k + 1, by omega, by go_num, hout.out (by omega)⟩
          case measure => simp [intOf]; omega
      · go_wp2
        go_roundw
        case rel => exact ⟨k + 1, by omega, by go_num, hout.out (by omega)⟩
        case measure => simp [intOf]; omega
    · have h4 : k = 4 := by omega
      subst h4
      have hback := hc.back s.size (grownCap w s.size 0 5) (by rw [bendTo_length, hlen.out])
      rw [bendTo_four] at hback
      have hbel := hc.below
      clear hc
      go_wp2
      go_ret
      exact ⟨rfl, hbel⟩
end Go.Proofs.Ytialfpmfiapepaa
