/-
  The walks of the two functions that write a number.
-/
import Derived.Test.YtimlenapeghknaaSteps
namespace Go.Proofs.Ytimlenapeghknaa
open Go.RowKit
set_option linter.unusedVariables false
set_option linter.unusedSimpArgs false
attribute [local go_sem ↓] Go.wp_at_zero Go.wp_at_succ
theorem enc_six (k : Nat) : ∀ n, n < 128 ^ (k + 1) → (enc n).length ≤ k + 1 := by
  induction k with
  | zero => intro n h; rw [enc_small (by simpa using h)]; simp
  | succ k ih =>
    intro n h
    by_cases hs : n < 128
    · rw [enc_small hs]; simp
    · rw [enc_big hs]
      have := ih (n / 128) (by rw [Nat.pow_succ] at h; omega)
      simpa using this
theorem enc_le {n : Nat} (h : n ≤ most) : (enc n).length ≤ 6 := enc_six 5 n (Nat.lt_of_le_of_lt h (by decide))
theorem low_int {n : Nat} (h : n < 128) : (n : Int) = ((UInt8.ofNat n).toNat : Int) := by rw [low_toNat h]
theorem high_int (n : Nat) : ((n : Int) % 128 + 128) % 256 = ((UInt8.ofNat (n % 128 + 128)).toNat : Int) := by rw [high_toNat]; omega
theorem bits_or128 (m : Nat) : bits .or .u8 ((m : Int) % 256) 128 = ((m : Int) % 128 + 128) % 256 := by
  have h : ∀ k : Fin 256, bits .or .u8 (k.val : Int) 128 = ((k.val : Int) % 128 + 128) % 256 := by decide +kernel
  have := h ⟨m % 256, Nat.mod_lt _ (by decide)⟩
  simp only at this
  rw [show ((m : Int) % 256) = ((m % 256 : Nat) : Int) by omega, this]
  omega
attribute [go_sem] bits_or128
theorem grow_le {k : Nat} {w : World} (h : k ≤ w.heap.size) (o : Obj) : k ≤ (w.alloc o).heap.size := by simp; omega
theorem new_byte {w : World} {n : Int} {b : UInt8} (h : n = (b.toNat : Int)) : (w.alloc (.cells #[.int .u8 n] 5)).cell? ⟨w.heap.size, 0, none⟩ = some (.int .u8 (b.toNat : Int)) := by subst h; simp
theorem below_bytes (w : World) (s : ByteArray) : Below w.heap.size w (Lib.bytesWorld w 5 s) :=
  ⟨rfl, rfl, rfl, by rw [Lib.bytesWorld_size]; omega, fun k hk => Lib.bytesWorld_at_old _ _ _ _ hk⟩
theorem cat_toList (s : ByteArray) (l : List UInt8) : (⟨(s.data.toList ++ l).toArray⟩ : ByteArray).data.toList = s.data.toList ++ l := by simp
/-- A string that is these bytes. -/
abbrev str (l : List UInt8) : Value := .string ⟨l.toArray⟩
set_option maxRecDepth 100000 in
set_option maxHeartbeats 1000000 in
theorem num_no (s : ByteArray) (n : Int) (w : World) (h : n < 0 ∨ 1099511627776 < n) :
    Calls Try.prog 9 #[.string s, .int .i64 n] w fun e w' => e = .returned (.tuple #[.string s, .int .i64 1]) ∧ w = w' := by
  rcases h with h | h
  · go_enter Try.func9, Try.ntmps9
    go_wp2_with fail
    go_ret2
    exact ⟨rfl, rfl⟩
  · have h0 : ¬ n < 0 := by omega
    go_enter Try.func9, Try.ntmps9
    go_wp2_with fail
    go_ret2
    exact ⟨rfl, rfl⟩
set_option maxRecDepth 100000 in
set_option maxHeartbeats 4000000 in
theorem num_any (s : ByteArray) (n : Nat) (w : World) (h : n ≤ most) (hs : s.size ≤ 50000) :
    Calls Try.prog 9 #[.string s, .int .i64 n] w fun e w' => e = .returned (.tuple #[str (s.data.toList ++ enc n), .int .i64 0]) ∧ Below w.heap.size w w' := by
  have hcv := Lib.run_convert_string_bytes (P := Try.prog) w 9 51 5 s Try.underlying9 Try.underlying51 Try.underlying5
  have h1 : ((n : Nat) : Int) ≤ 1099511627776 := by unfold most at h; omega
  have hlen : s.data.toList.length = s.size := by simp
  have hlen := Lib.hid hlen
  have hsix := enc_le h
  have hO := Own.start s w
  have hb0 : Below w.heap.size w (Lib.bytesWorld w 5 s) := below_bytes w s
  go_enter Try.func9, Try.ntmps9
  go_wp2_with fail
  clear hcv
  generalize hW : Lib.bytesWorld w 5 s = w1 at hO hb0
  go_loopw [1, 6] (fun x v wr => ∃ (m g cap : Nat) (l : List UInt8), m ≤ most ∧ x = .int .i64 m ∧ v = .slice (some ⟨g, 0, none⟩) l.length cap ∧ Own w.heap.size g cap l wr ∧ Below w.heap.size w wr ∧ l ++ enc m = s.data.toList ++ enc n) (fun x _ _ => (intOf x).toNat)
  case atStart => exact ⟨n, w.heap.size, _, s.data.toList, h, rfl, by rw [hlen.out], hO, hb0, rfl⟩
  case round =>
    clear hO hb0 hW
    obtain ⟨m, g, cap, l, hm, rfl, rfl, hO, hb, he⟩ := hrel
    have hll : l.length ≤ 50010 := by
      have := congrArg List.length he
      simp only [List.length_append, hlen.out] at this
      omega
    have hB := hb.size
    have hO' := hO.kept ((Below.refl _ wr).alloc (Nat.le_refl _) (.cells #[.int .u8 (if m < 128 then (m : Int) else ((m : Int) % 128 + 128) % 256)] 5))
    by_cases hlt : m < 128
    · simp only [hlt, if_true] at hO'
      go_wp2_with (first | (at_builtin; refine wpList_append_bytes rfl _ _ rfl w.heap.size g cap l rfl hO' (grow_le hB _) (by omega) ⟨wr.heap.size, 0, none⟩ 1 (UInt8.ofNat m) rfl (new_byte (low_int hlt)) ?_; intro g2 cap2 w2 hO2 hb2; have hback := hO2.back (l.length + 1) (by simp)) | fail)
      go_ret2
      have hw2 : Below w.heap.size w w2 := (hb.alloc hB _).trans hb2
      exact ⟨by rw [← he, enc_small hlt]; rfl, hw2⟩
    · have h128 : 128 ≤ m := by omega
      simp only [hlt, if_false] at hO'
      go_wp2_with (first | (at_builtin; refine wpList_append_bytes rfl _ _ rfl w.heap.size g cap l rfl hO' (grow_le hB _) (by omega) ⟨wr.heap.size, 0, none⟩ 1 (UInt8.ofNat (m % 128 + 128)) rfl (new_byte (high_int m)) ?_; intro g2 cap2 w2 hO2 hb2) | fail)
      have hw2 : Below w.heap.size w w2 := (hb.alloc hB _).trans hb2
      go_roundw
      case rel => exact ⟨m / 128, g2, cap2, l ++ [UInt8.ofNat (m % 128 + 128)], by omega, by go_num, by simp, hO2, hw2, by rw [← he, enc_big hlt]; simp⟩
      case measure => simp only [intOf]; omega
end Go.Proofs.Ytimlenapeghknaa
