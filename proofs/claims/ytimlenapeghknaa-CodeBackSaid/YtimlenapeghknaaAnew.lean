/-
  The walk of the law CodeAnew.
-/
import Derived.Test.YtimlenapeghknaaShort
namespace Go.Proofs.Ytimlenapeghknaa
open Go.RowKit
set_option linter.unusedVariables false
set_option linter.unusedSimpArgs false
attribute [local go_sem ↓] Go.wp_at_zero Go.wp_at_succ
theorem val_nil : Value.string ⟨#[]⟩ = str [] := rfl
/-- Bytes gone over: what is left is the end. -/
theorem gone (t e m : List UInt8) (h : t = e ++ m) : ((⟨t.toArray⟩ : ByteArray).extract 0 (t.length - m.length)) = ⟨e.toArray⟩ := by
  rw [ext_take]
  subst h
  simp
theorem id11_nil (x : Idn) (w : World) (h : x.may = true) :
    Calls Try.prog 11 #[.string ⟨#[]⟩, .agg #[.int .i64 x.a, .int .i64 x.i]] w fun e w' => e = .returned (.tuple #[str (encId x), .int .i64 0]) ∧ Below w.heap.size w w' :=
  (id11 [] x w (by decide)).mono fun e w' ⟨h1, h2⟩ => ⟨by rw [h1, if_pos h]; rfl, h2⟩
theorem ids13_enc (oa : Option Addr) (cap : Nat) (l : List Idn) (w : World) (hl : Row oa l w) (h64 : l.length ≤ 64) (hr : rise l = true) :
    Calls Try.prog 13 #[.string ⟨#[]⟩, .slice oa l.length cap] w fun e w' => e = .returned (.tuple #[str (encIds l), .int .i64 0]) ∧ Below w.heap.size w w' :=
  (ids13 [] oa cap l w hl (by decide)).mono fun e w' ⟨h1, h2⟩ => ⟨by rw [h1, if_neg (by omega), if_pos hr]; rfl, h2⟩
theorem num9_enc (n : Nat) (w : World) (h : n ≤ most) :
    Calls Try.prog 9 #[.string ⟨#[]⟩, .int .i64 n] w fun e w' => e = .returned (.tuple #[str (enc n), .int .i64 0]) ∧ Below w.heap.size w w' := num9 [] n w h (by decide)
/-- However a number is read. -/
def NumAny (R : Nat) (t : List UInt8) (w : World) (r : Ending) (w' : World) : Prop :=
  ∃ (n : Nat) (e : Int) (m : List UInt8), r = .returned (.tuple #[.int .i64 n, .int .i64 e]) ∧ Rd R m e w' ∧ Keep R w w' ∧ Hid (e = 0 → t = enc n ++ m ∧ n ≤ most)
theorem num17_any (R : Nat) (t : List UInt8) (w : World) (h : Rd R t 0 w) (hl : t.length ≤ 100000) : Calls Try.prog 17 #[.pointer (some ⟨R, 0, none⟩)] w (NumAny R t w) := by
  rcases num_of t with ⟨e, hr, he⟩ | ⟨n, m, hr, hn, ht⟩
  · exact (num17_wrong R t e w h hl hr (by omega)).mono fun r w' ⟨h1, h2, h3⟩ => ⟨0, e, [], h1, h2, h3, Lib.hid (fun h0 => by omega)⟩
  · exact (num17_right R t m n w h hl hr).mono fun r w' ⟨h1, h2, h3⟩ => ⟨n, 0, m, h1, h2, h3, Lib.hid (fun _ => ⟨ht, hn⟩)⟩
def IdsAny (R : Nat) (t : List UInt8) (w : World) (r : Ending) (w' : World) : Prop :=
  ∃ (x : List Idn) (oa : Option Addr) (cap : Nat) (e : Int) (m : List UInt8), r = .returned (.tuple #[.slice oa x.length cap, .int .i64 e]) ∧ Row oa x w' ∧ Rd R m e w' ∧ Keep R w w' ∧ Hid (e = 0 → t = encIds x ++ m ∧ x.length ≤ 64 ∧ rise x = true)
theorem ids18_any (R : Nat) (t : List UInt8) (w : World) (h : Rd R t 0 w) (hl : t.length ≤ 100000) : Calls Try.prog 18 #[.pointer (some ⟨R, 0, none⟩)] w (IdsAny R t w) := by
  rcases lst_of t with ⟨e, hr, he⟩ | ⟨x, m, hr, hx, hn, ht⟩
  · exact (ids18_wrong e h hl hr (by omega)).mono fun r w' ⟨h1, h2, h3⟩ => ⟨[], none, 0, e, [], h1, ⟨by simp, fun k hk => by simp at hk⟩, h2, h3, Lib.hid (fun h0 => by omega)⟩
  · exact (ids18_right x m h hl hr).mono fun r w' ⟨oa, cap, h1, h2, h3, h4⟩ => ⟨x, oa, cap, 0, m, h1, h2, h3, h4, Lib.hid (fun _ => ⟨ht, hn, hx⟩)⟩
theorem beq_str (l : List UInt8) : ((⟨l.toArray⟩ : ByteArray).toList == (⟨l.toArray⟩ : ByteArray).toList) = true := by simp
set_option maxRecDepth 100000 in
set_option maxHeartbeats 8000000 in
theorem anew_walk (s : ByteArray) (w : World) : Calls Try.prog 6 #[.string s] w fun r w' => r = .returned (.bool true) ∧ Below w.heap.size w w' := by
  by_cases h1 : s.size ≤ 2000
  · obtain ⟨t, ht⟩ : ∃ t, t = s.data.toList := ⟨_, rfl⟩
    have hst : s = ⟨t.toArray⟩ := by rw [ht, Array.toArray_toList]
    have htl : t.length ≤ 2000 := by rw [ht]; simpa using h1
    subst hst
    clear ht h1
    go_enter Try.func6, Try.ntmps6
    go_wp2_with fail
    refine (awake_any _).mono ?_
    rintro r w1 ⟨rfl, hb1⟩
    go_wp2_with fail
    refine (open_any t _).mono ?_
    rintro r w2 ⟨rfl, h2, hb2⟩
    go_wp2_with fail
    refine (num17_any _ t _ h2 (by omega)).mono ?_
    rintro r w3 ⟨n, e, m, rfl, h3, hK3, HF⟩
    have HB3 := Lib.hid (then_below hb1 (hb2.trans (hK3.below (Nat.le_refl _) hb2.size)))
    clear hK3 h2 hb1 hb2
    go_upto_if 30 with fail
    go_cut [6, 7] (fun _ _ wx => Below w.heap.size w wx)
    case first =>
      by_cases he : e = 0
      · subst he
        obtain ⟨hl, hn⟩ := HF.out rfl
        clear HF
        have HN := Lib.hid hn
        have hml : m.length ≤ t.length := by rw [hl, List.length_append]; omega
        have hx := gone t (enc n) m hl
        clear hl hn
        go_wp2_with fail
        refine (num9_enc n _ HN.out).mono ?_
        rintro r w4 ⟨rfl, hb4⟩
        have HB4 := Lib.hid (then_below HB3.out hb4)
        have h4 := h3.kept hb4
        clear hb4 h3
        go_wp2_with fail
        refine (left_any _ m 0 _ h4).mono ?_
        rintro r w5 ⟨rfl, rfl⟩
        go_wp2_with fail
        go_meet
        case rel => exact HB4.out
      · have heb : (e == 0) = false := by simpa using he
        clear he
        go_wp2_with fail
        go_meet
        case rel => exact HB3.out
    case rest =>
      have HBC := Lib.hid hcut
      clear hcut HB3 HF h3
      go_wp2_with fail
      refine (open_any t _).mono ?_
      rintro r w2 ⟨rfl, h2, hb2⟩
      go_wp2_with fail
      refine (ids18_any _ t _ h2 (by omega)).mono ?_
      rintro r w3 ⟨x, oa, cap, e, m, rfl, hRow, h3, hK3, HF⟩
      have HB3 := Lib.hid (then_below HBC.out (hb2.trans (hK3.below (Nat.le_refl _) hb2.size)))
      clear hK3 h2 hb2 HBC
      go_upto_if 57 with fail
      go_cut [9, 10] (fun _ _ wx => Below w.heap.size w wx)
      case first =>
        by_cases he : e = 0
        · subst he
          obtain ⟨hl, h64, hr⟩ := HF.out rfl
          clear HF
          have HN := Lib.hid (And.intro h64 hr)
          have hml : m.length ≤ t.length := by rw [hl, List.length_append]; omega
          have hx := gone t (encIds x) m hl
          clear hl h64 hr
          go_wp2_with fail
          refine (ids13_enc oa cap x _ hRow HN.out.1 HN.out.2).mono ?_
          rintro r w4 ⟨rfl, hb4⟩
          have HB4 := Lib.hid (then_below HB3.out hb4)
          have h4 := h3.kept hb4
          clear hb4 h3 hRow
          go_wp2_with fail
          refine (left_any _ m 0 _ h4).mono ?_
          rintro r w5 ⟨rfl, rfl⟩
          go_wp2_with fail
          go_meet
          case rel => exact HB4.out
        · have heb : (e == 0) = false := by simpa using he
          clear he
          go_wp2_with fail
          go_meet
          case rel => exact HB3.out
      case rest =>
        have HBC := Lib.hid hcut
        clear hcut HB3 HF h3 hRow
        go_wp2_with fail
        refine (open_any t _).mono ?_
        rintro r w4 ⟨rfl, h4, hb4⟩
        go_wp2_with fail
        rcases aid_of t with ⟨e, hr, he⟩ | ⟨y, m4, hr, hy, hl⟩
        · have hne : (e != 0) = true := by simp; omega
          refine (id20_wrong e h4 (by omega) hr (by omega)).mono ?_
          rintro r w5 ⟨rfl, h5, hK5⟩
          have HB5 := Lib.hid (then_below HBC.out (hb4.trans (hK5.below (Nat.le_refl _) hb4.size)))
          have h6 := h5.alloc (.cells #[.int .i64 0, .int .i64 0] 23)
          clear hr hK5 h4 hb4 HBC
          go_wp2_with fail
          refine (left_any _ [] e _ h6).mono ?_
          rintro r w6 ⟨rfl, rfl⟩
          go_wp2_with fail
          go_ret
          exact ⟨rfl, HB5.out.alloc HB5.out.size _⟩
        · refine (id20_right y m4 h4 (by omega) hr).mono ?_
          rintro r w5 ⟨rfl, h5, hK5⟩
          have HB5 := Lib.hid (then_below HBC.out (hb4.trans (hK5.below (Nat.le_refl _) hb4.size)))
          have h6 := h5.alloc (.cells #[.int .i64 y.a, .int .i64 y.i] 23)
          have hml : m4.length ≤ t.length := by rw [hl, List.length_append]; omega
          have hx := gone t (encId y) m4 hl
          clear hr hK5 h4 hb4 HBC hl
          go_wp2_with fail
          refine (id11_nil y _ hy).mono ?_
          rintro r w6 ⟨rfl, hb6⟩
          have HB6 := Lib.hid ((HB5.out.alloc HB5.out.size (.cells #[.int .i64 y.a, .int .i64 y.i] 23)).trans (hb6.mono (by simp; have := HB5.out.size; omega)))
          have h7 := h6.kept hb6
          clear hb6 h6 h5
          go_wp2_with fail
          refine (left_any _ m4 0 _ h7).mono ?_
          rintro r w7 ⟨rfl, rfl⟩
          go_wp2_with fail
          go_ret
          exact ⟨rfl, HB6.out⟩
  · go_enter Try.func6, Try.ntmps6
    go_wp2_with fail
    refine (awake_any _).mono ?_
    rintro r w1 ⟨rfl, hb1⟩
    go_wp2_with fail
    go_ret
    exact ⟨rfl, hb1⟩
end Go.Proofs.Ytimlenapeghknaa
