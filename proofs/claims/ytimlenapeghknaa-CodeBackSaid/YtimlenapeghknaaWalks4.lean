/-
  The walks of the document's answer.
-/
import Derived.Test.YtimlenapeghknaaWalks3
namespace Go.Proofs.Ytimlenapeghknaa
open Go.RowKit
set_option linter.unusedVariables false
set_option linter.unusedSimpArgs false
attribute [local go_sem ↓] Go.wp_at_zero Go.wp_at_succ
theorem back1 {w : World} {n : Int} {b : UInt8} (h : n = (b.toNat : Int)) : (convert 51 9 (.slice (some ⟨w.heap.size, 0, none⟩) 1 1)).run Try.prog (w.alloc (.cells #[.int .u8 n] 5)) = .ok (str [b]) (w.alloc (.cells #[.int .u8 n] 5)) := by
  refine run_convert_bytes_back _ 51 9 5 ⟨w.heap.size, 0, none⟩ 1 [b] Try.underlying51 Try.underlying5 Try.underlying9 ?_
  intro j hj
  obtain rfl : j = 0 := by simpa using hj
  subst h
  simp [Addr.add]
theorem cat_str (l m : List UInt8) : (⟨l.toArray⟩ : ByteArray) ++ ⟨m.toArray⟩ = ⟨(l ++ m).toArray⟩ := by
  apply ByteArray.ext
  rw [ByteArray.data_append]
  simp
theorem val_cat (l : List UInt8) (b c : UInt8) (h : b = c) : Value.string ((⟨l.toArray⟩ : ByteArray) ++ ⟨#[b]⟩) = str (l ++ [c]) := by
  subst h
  show Value.string ((⟨l.toArray⟩ : ByteArray) ++ ⟨[b].toArray⟩) = _
  rw [cat_str]
theorem high_int' (n : Nat) : (n : Int) % 128 + 128 = ((UInt8.ofNat (n % 128 + 128)).toNat : Int) := by rw [high_toNat]; omega
set_option maxRecDepth 100000 in
set_option maxHeartbeats 1000000 in
theorem ref_no (l : List UInt8) (n : Int) (w : World) (h : n < 0 ∨ 1099511627776 < n) :
    Calls Try.prog 10 #[str l, .int .i64 n] w fun e w' => e = .returned (.tuple #[str l, .int .i64 1]) ∧ w = w' := by
  rcases h with h | h
  · go_enter Try.func10, Try.ntmps10
    go_wp2_with fail
    go_ret2
    exact ⟨rfl, rfl⟩
  · have h0 : ¬ n < 0 := by omega
    go_enter Try.func10, Try.ntmps10
    go_wp2_with fail
    go_ret2
    exact ⟨rfl, rfl⟩
set_option maxRecDepth 100000 in
set_option maxHeartbeats 4000000 in
theorem num10 (s : List UInt8) (n : Nat) (w : World) (h : n ≤ most) (hs : s.length ≤ 50000) :
    Calls Try.prog 10 #[str s, .int .i64 n] w fun e w' => e = .returned (.tuple #[str (s ++ enc n), .int .i64 0]) ∧ Below w.heap.size w w' := by
  have h1 : ((n : Nat) : Int) ≤ 1099511627776 := by unfold most at h; omega
  have hsix := enc_le h
  go_enter Try.func10, Try.ntmps10
  go_wp2_with fail
  go_loopw [0, 1] (fun v x wr => ∃ (m : Nat) (l : List UInt8), m ≤ most ∧ x = .int .i64 m ∧ v = str l ∧ Below w.heap.size w wr ∧ l ++ enc m = s ++ enc n) (fun _ x _ => (intOf x).toNat)
  case atStart => exact ⟨n, s, h, rfl, rfl, Below.refl _ _, rfl⟩
  case round =>
    obtain ⟨m, l, hm, rfl, rfl, hb, he⟩ := hrel
    have hB := hb.size
    have hm2 : m ≤ 1099511627776 := hm
    have hll : l.length ≤ 50010 := by
      have := congrArg List.length he
      simp only [List.length_append] at this
      omega
    by_cases hlt : m < 128
    · have hbk := back1 (w := wr) (low_int hlt)
      have h127 : (m : Int) ≤ 127 := by omega
      go_wp2_with fail
      go_ret2
      refine ⟨?_, hb.alloc hB _⟩
      show Ending.returned (.tuple #[.string ((⟨l.toArray⟩ : ByteArray) ++ ⟨#[UInt8.ofNat m]⟩), .int .i64 0]) = _
      rw [val_cat l _ _ rfl, ← he, enc_small hlt]
    · have hbk := back1 (w := wr) (high_int' m)
      have h127 : 127 < (m : Int) := by omega
      have hq : wrap64 ((m : Int) / 128) = ((m / 128 : Nat) : Int) := by rw [IntWalk.wrap64_in _ (by omega)]; omega
      go_wp2_with fail
      refine ⟨⟨m / 128, l ++ [UInt8.ofNat (m % 128 + 128)], by unfold most; omega, rfl, val_cat l _ _ (by simp), hb.alloc hB _, by rw [← he, enc_big hlt]; simp⟩, ?_⟩
      simp only [intOf]; omega
end Go.Proofs.Ytimlenapeghknaa
