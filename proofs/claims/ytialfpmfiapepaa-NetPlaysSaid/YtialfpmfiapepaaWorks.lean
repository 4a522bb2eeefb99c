/-
  The examples that each law asks first.
-/
import Derived.Test.YtialfpmfiapepaaOwn
namespace Go.Proofs.Ytialfpmfiapepaa
open Go.RowKit
set_option linter.unusedVariables false
set_option linter.unusedSimpArgs false
attribute [local go_sem ↓] Go.wp_at_zero Go.wp_at_succ
section
variable {B : Nat} {v : Value} {n : N} {W w : World}
theorem send_to (n' : N) (b : Bool) (s : ByteArray) (d : Int) (h : Hs B v n W w) (hs : s.size ≤ 100000) (hb : n.full = b) (hn : n.push ⟨s, d, false⟩ = n') :
    Calls Try.prog 12 #[.pointer (some ⟨B, 0, none⟩), .string s, .int .i64 d] w fun e w' => e = .returned (.bool b) ∧ Now B v n' W w w' := by
  subst hb; subst hn; exact send_of s d h hs
theorem twice_to (n' : N) (e : Int) (k : Int) (h : Hs B v n W w) (he : n.noneE k = e) (hn : n.twice k = n') :
    Calls Try.prog 16 #[.pointer (some ⟨B, 0, none⟩), .int .i64 k] w fun e' w' => e' = .returned (.int .i64 e) ∧ Now B v n' W w w' := by
  subst he; subst hn; exact twice_of k h
theorem lose_to (n' : N) (e : Int) (k : Int) (h : Hs B v n W w) (he : n.noneE k = e) (hn : n.lose k = n') :
    Calls Try.prog 14 #[.pointer (some ⟨B, 0, none⟩), .int .i64 k] w fun e' w' => e' = .returned (.int .i64 e) ∧ Now B v n' W w w' := by
  subst he; subst hn; exact lose_of k h
theorem give_to (n' : N) (s : ByteArray) (d e : Int) (k : Int) (h : Hs B v n W w) (h1 : (n.get k).s = s) (h2 : (n.get k).to = d) (he : n.noneE k = e) (hn : n.lose k = n') :
    Calls Try.prog 13 #[.pointer (some ⟨B, 0, none⟩), .int .i64 k] w fun e' w' => e' = .returned (.tuple #[.string s, .int .i64 d, .int .i64 e]) ∧ Now B v n' W w w' := by
  subst h1; subst h2; subst he; subst hn; exact give_of k h
theorem bend_to (n' : N) (e : Int) (k a xi : Int) (x : BitVec 32) (h : Hs B v n W w) (hx : u x = xi) (ha0 : -9223372036854775808 ≤ a) (ha1 : a ≤ 9223372036854775807) (he : n.bendE k = e) (hn : n.bend k a x = n') :
    Calls Try.prog 17 #[.pointer (some ⟨B, 0, none⟩), .int .i64 k, .int .i64 a, .int .u32 xi] w fun e' w' => e' = .returned (.int .i64 e) ∧ Now B v n' W w w' := by
  subst hx; subst he; subst hn; exact bend_of k a x h ha0 ha1
theorem len_to (m : Int) (h : Hs B v n W w) (hm : (n.l.length : Int) = m) : Calls Try.prog 11 #[.pointer (some ⟨B, 0, none⟩)] w fun e w' => e = .returned (.int .i64 m) ∧ w' = w := by
  subst hm; exact len_of h
end
set_option maxRecDepth 100000 in
set_option maxHeartbeats 2000000 in
theorem works_any (W : World) : Calls Try.prog 8 #[] W fun e w' => e = .returned (.bool true) ∧ Below W.heap.size W w' := by
  go_enter Try.func8, Try.ntmps8
  go_wp2_with fail
  refine (new_of 9 (Below.refl _ W) (by decide) (by decide)).mono ?_
  rintro e w0 ⟨rfl, hn, -⟩
  go_wp2_with fail
  refine (send_to ⟨9, [⟨⟨#[97]⟩, 1, false⟩]⟩ false ⟨#[97]⟩ 1 hn (by decide) rfl rfl).mono ?_
  rintro e w1 ⟨rfl, vn, hX, hT⟩
  have hn := hX
  clear hX hT
  go_wp2_with fail
  refine (send_to ⟨9, [⟨⟨#[97]⟩, 1, false⟩, ⟨⟨#[98]⟩, 2, false⟩]⟩ false ⟨#[98]⟩ 2 hn (by decide) rfl rfl).mono ?_
  rintro e w2 ⟨rfl, vn, hX, hT⟩
  have hn := hX
  clear hX hT
  go_wp2_with fail
  refine (twice_to ⟨9, [⟨⟨#[97]⟩, 1, false⟩, ⟨⟨#[98]⟩, 2, false⟩, ⟨⟨#[97]⟩, 1, false⟩]⟩ 0 (0) hn rfl rfl).mono ?_
  rintro e w3 ⟨rfl, vn, hX, hT⟩
  have hn := hX
  clear hX hT
  go_wp2_with fail
  refine (len_to 3 hn rfl).mono ?_
  rintro e w4 ⟨rfl, rfl⟩
  go_wp2_with fail
  refine (give_to ⟨9, [⟨⟨#[98]⟩, 2, false⟩, ⟨⟨#[97]⟩, 1, false⟩]⟩ ⟨#[97]⟩ 1 0 (0) hn rfl rfl rfl rfl).mono ?_
  rintro e w5 ⟨rfl, vn, hX, hT⟩
  have hn := hX
  clear hX hT
  go_wp2_with fail
  refine (bend_to ⟨9, [⟨⟨#[99]⟩, 2, true⟩, ⟨⟨#[97]⟩, 1, false⟩]⟩ 0 (0) 0 1 1 hn rfl (by decide) (by decide) rfl (by kernel_rfl)).mono ?_
  rintro e w6 ⟨rfl, vn, hX, hT⟩
  have hn := hX
  clear hX hT
  go_wp2_with fail
  refine (is_at_yes _ _ _ _ (0) ⟨#[99]⟩ 2 _ hn.nt rfl rfl rfl).mono ?_
  rintro e w7 ⟨rfl, hb⟩
  have hn := hn.kept hb
  clear hb
  go_wp2_with fail
  refine (lose_to ⟨9, [⟨⟨#[97]⟩, 1, false⟩]⟩ 0 (0) hn rfl rfl).mono ?_
  rintro e w8 ⟨rfl, vn, hX, hT⟩
  have hn := hX
  clear hX hT
  go_wp2_with fail
  refine (len_to 1 hn rfl).mono ?_
  rintro e w9 ⟨rfl, rfl⟩
  go_wp2_with fail
  refine (is_at_yes _ _ _ _ (0) ⟨#[97]⟩ 1 _ hn.nt rfl rfl rfl).mono ?_
  rintro e w10 ⟨rfl, hb⟩
  have hn := hn.kept hb
  clear hb
  go_wp2_with fail
  refine (give_to ⟨9, [⟨⟨#[97]⟩, 1, false⟩]⟩ ⟨#[]⟩ 0 5 (5) hn rfl rfl rfl rfl).mono ?_
  rintro e w11 ⟨rfl, vn, hX, hT⟩
  have hn := hX
  clear hX hT
  go_wp2_with fail
  go_ret
  exact ⟨rfl, hn.below⟩
end Go.Proofs.Ytialfpmfiapepaa
