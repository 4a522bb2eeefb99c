/-
  The walks of the document's Bend.
-/
import Derived.Test.YtialfpmfiapepaaOwn
import Derived.Deep.RegionHeld3
namespace Go.Proofs.Ytialfpmfiapepaa
open Go.RowKit
set_option linter.unusedVariables false
set_option linter.unusedSimpArgs false

theorem u_tmod (x : BitVec 32) : (u x).tmod 256 = u x % 256 := Int.tmod_eq_emod_of_nonneg (u_lo x)
theorem u_tdiv (x : BitVec 32) : (u x).tdiv 256 = u (x >>> 8) := by rw [Int.tdiv_eq_ediv_of_nonneg (u_lo x), u_byte]
theorem u_wrap (x : BitVec 32) : IntKind.u32.wrap (u x) = u x := IntWalk.u32_in _ ⟨u_lo x, u_hi x⟩
theorem u_wrap_mod (x : BitVec 32) : IntKind.u32.wrap (u x % 256) = u x % 256 := IntWalk.u32_in _ (by omega)
theorem u_wrap8_mod (x : BitVec 32) : IntKind.u8.wrap (u x % 256) = u x % 256 := IntWalk.u8_in _ (by omega)
theorem bits_low (c : UInt8) (x : BitVec 32) : bits .xor .u8 (c.toNat : Int) (u x % 256) = ((c.toNat ^^^ (nthByte x 0).toNat : Nat) : Int) := by
  have := bits_byte c x 0
  simpa using this
attribute [go_sem] u_tmod u_tdiv u_wrap u_wrap_mod u_wrap8_mod bits_low

theorem extract_list (s : ByteArray) (i j : Nat) : (s.extract i j).data.toList = (s.data.toList.drop i).take (j - i) := by
  rw [ByteArray.data_extract, Array.toList_extract]
/-- What is left of a text, bent by what is left of the number. -/
def restL (a : Int) : Nat → List UInt8 → BitVec 32 → List UInt8
  | _, [], _ => []
  | i, c :: l, x => if a ≤ (i : Int) - 4 then c :: l else (c ^^^ nthByte x 0) :: restL a (i + 1) l (x >>> 8)

theorem restL_length (a : Int) : ∀ (l : List UInt8) (i : Nat) (x : BitVec 32), (restL a i l x).length = l.length := by
  intro l
  induction l with
  | nil => intro i x; rfl
  | cons c l ih =>
    intro i x
    unfold restL
    split
    · rfl
    · simp [ih]
theorem ret_s {s t : ByteArray} (h : s.data.toList = t.data.toList) : Ending.returned (.string s) = .returned (.string t) := by
  have : s = t := ByteArray.ext (Array.ext' h)
  rw [this]
/-- A new row of one byte, made a string. -/
theorem conv_one (v : World) (B : Nat) (c : UInt8) (h : v.cell? ⟨B, 0, none⟩ = some (.int .u8 (c.toNat : Int))) :
    (convert 44 9 (.slice (some ⟨B, 0, none⟩) 1 1)).run Try.prog v = .ok (.string ⟨#[c]⟩) v := by
  refine run_convert_bytes_back v 44 9 5 ⟨B, 0, none⟩ 1 [c] Try.underlying44 Try.underlying5 Try.underlying9 ?_
  intro j hj
  have : j = 0 := by simpa using hj
  subst this
  have hadd : (⟨B, 0, none⟩ : Addr).add 0 = ⟨B, 0, none⟩ := by unfold Addr.add; simp
  rw [hadd, h]; rfl

set_option maxRecDepth 100000 in
set_option maxHeartbeats 400000 in
theorem rrest_any (s : ByteArray) (a : Int) (hs : s.size ≤ 100000) (h0 : -9223372036854775808 ≤ a) (h1 : a ≤ 9223372036854775807) (k : Nat) :
    ∀ (i : Nat) (x : BitVec 32) (w : World), i ≤ s.size → s.size - i = k →
    Calls Try.prog 38 #[.string s, .int .i64 i, .int .i64 a, .int .u32 (u x)] w fun e w' => e = .returned (.string ⟨(restL a i (s.data.toList.drop i) x).toArray⟩) ∧ Below w.heap.size w w' := by
  induction k with
  | zero =>
    intro i x w hi hk
    have hd : s.data.toList.drop i = [] := by
      apply List.drop_of_length_le
      simp; omega
    go_enter Try.func38, Try.ntmps38
    go_wp2_with fail
    go_ret
    exact ⟨by rw [hd]; rfl, Below.refl _ _⟩
  | succ k ih =>
    intro i x w hi hk
    have IH := Lib.hid ih
    clear ih
    have hlt : i < s.size := by omega
    have hd : s.data.toList.drop i = s[i] :: s.data.toList.drop (i + 1) := by
      rw [List.drop_eq_getElem_cons (by simpa using hlt)]; rfl
    by_cases ha : a ≤ (i : Int) - 4
    · go_enter Try.func38, Try.ntmps38
      go_wp2_with fail
      go_ret
      refine ⟨?_, Below.refl _ _⟩
      rw [hd, restL, if_pos ha, ← hd]
      refine ret_s ?_
      rw [extract_list]
      apply List.take_of_length_le
      simp
    · have ihx : ∀ v : World, Calls Try.prog 38 #[.string s, .int .i64 ((i : Int) + 1), .int .i64 a, .int .u32 (u (x >>> 8))] v fun e w' => ∃ t : ByteArray, e = .returned (.string t) ∧ t.size ≤ 100000 ∧
          t.data.toList = restL a (i + 1) (s.data.toList.drop (i + 1)) (x >>> 8) ∧ Below v.heap.size v w' := fun v => by
        refine (IH.out (i + 1) (x >>> 8) v (by omega) (by omega)).mono ?_
        rintro e w' ⟨rfl, hb⟩
        refine ⟨_, rfl, ?_, rfl, hb⟩
        show (restL a (i + 1) (s.data.toList.drop (i + 1)) (x >>> 8)).toArray.size ≤ 100000
        simp [restL_length]; omega
      have IHX := Lib.hid ihx
      have HD := Lib.hid hd
      clear hd hk IH ihx
      go_enter Try.func38, Try.ntmps38
      go_wp2_with fail
      have hw : IntKind.i64.wrap ((i : Int) + 1) = (i : Int) + 1 := IntWalk.i64_in _ (by omega)
      have hi0 : (0 : Int) ≤ i := by omega
      have hi1 : (i : Int) < s.size := by omega
      have hconv : ∀ (v : World) (B : Nat), v.cell? ⟨B, 0, none⟩ = some (.int .u8 ((s[i].toNat ^^^ (nthByte x 0).toNat : Nat) : Int)) →
          (convert 44 9 (.slice (some ⟨B, 0, none⟩) 1 1)).run Try.prog v = .ok (.string ⟨#[s[i] ^^^ nthByte x 0]⟩) v := fun v B h => by
        rw [← UInt8.toNat_xor] at h; exact conv_one v B _ h
      go_region_with (first | (go_at_call 38; refine (IHX.out _).mono ?_; rintro e w9 ⟨t, rfl, htl, ht, hb9⟩; have HT := Lib.hid ht; clear ht; have hc9 := fun (b o : Nat) (h : b < _) => hb9.cell (p := ⟨b, o, none⟩) h))
      all_goals
        go_wp2
        go_ret
        refine ⟨?_, ?_⟩
        · refine ret_s ?_
          rw [HD.out, restL, if_neg (by omega), ← HT.out]
          simp
        · have hs9 := hb9.size
          first
            | exact then_below (((Below.refl _ _).alloc (Nat.le_refl _) _).drew) hb9
            | exact (then_below (Below.refl _ w).drew hb9).alloc hs9 _
end Go.Proofs.Ytialfpmfiapepaa
