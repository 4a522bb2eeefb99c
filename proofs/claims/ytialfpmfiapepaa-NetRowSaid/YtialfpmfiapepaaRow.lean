/-
  The walk of the law NetRow.
-/
import Derived.Test.YtialfpmfiapepaaIns
namespace Go.Proofs.Ytialfpmfiapepaa
open Go.RowKit
set_option linter.unusedVariables false
set_option linter.unusedSimpArgs false
attribute [local go_sem ↓] Go.wp_at_zero Go.wp_at_succ
def fF : ByteArray := ⟨#[102]⟩
theorem BytesHold.at_ {w : World} {oa : Option Addr} {cap : Nat} {l : List Int} (h : BytesHold w (.slice oa l.length cap) l) {k : Nat} (hk : k < l.length) :
    ∃ b off, oa = some ⟨b, off, none⟩ ∧ b < w.heap.size ∧ 0 ≤ l[k] ∧ l[k] ≤ 255 ∧ w.cell? ⟨b, off + k, none⟩ = some (.int .u8 l[k]) := by
  obtain ⟨oa', cap', he, hr, hc⟩ := h
  simp only [Value.slice.injEq] at he
  obtain ⟨rfl, -, rfl⟩ := he
  obtain ⟨b, off, rfl, hlt, hq⟩ := hc k hk
  exact ⟨b, off, rfl, hlt, (hr _ (List.getElem_mem hk)).1, (hr _ (List.getElem_mem hk)).2, hq⟩
theorem N.Row.at_ {n : N} {f : ByteArray} {next last : Int} (h : n.Row f next last) (k : Nat) (hk : k < n.l.length) : n.has k = true ∧ (n.get k).s = f ∧ (n.get k).to = next - n.l.length + k := by
  have hh : n.has (k : Int) = true := by simp [N.has, hk]
  have := h.to k hk
  refine ⟨hh, ?_, ?_⟩
  · unfold N.get; rw [if_pos hh]; exact this.1
  · unfold N.get; rw [if_pos hh]; exact this.2
set_option maxRecDepth 100000 in
set_option maxHeartbeats 4000000 in
theorem row_walk (m : Int) (oa : Option Addr) (cap : Nat) (l : List Int) (W : World) (hl : BytesHold W (.slice oa l.length cap) l) :
    Calls Try.prog 4 #[.int .i64 m, .slice oa l.length cap] W fun e w' => e = .returned (.bool true) ∧ Below W.heap.size W w' := by
  by_cases hlen : l.length ≤ 200
  · by_cases hm : 1 ≤ m ∧ m ≤ 65536
    · obtain ⟨m1, m2⟩ := hm
      go_enter Try.func4, Try.ntmps4
      go_wp2_with fail
      refine (works_any _).mono ?_
      rintro e w0 ⟨rfl, hb0⟩
      go_wp2_with fail
      refine (new_of m hb0 m1 m2).mono ?_
      rintro e w1 ⟨rfl, hn, -⟩
      have HR := Lib.hid (N.Row.start m fF m1 m2)
      generalize w0.heap.size = B at hn ⊢
      clear hb0
      go_wp2_with fail
      go_loopw [7, 8, 9, 10, 11, 12, 13, 14] (fun nx la i _ _ _ _ _ wr => ∃ (k : Nat) (next last : Int) (v : Value) (n : N), k ≤ l.length ∧ i = .int .i64 k ∧ nx = .int .i64 next ∧ la = .int .i64 last ∧ 0 ≤ next ∧ next ≤ 6 * k ∧ -1 ≤ last ∧ last ≤ next ∧ Hs B v n W wr ∧ Hid (n.max = m) ∧ Hid (n.Row fF next last)) (fun _ _ i _ _ _ _ _ _ => l.length - (intOf i).toNat)
      case atStart => exact ⟨0, 0, -1, _, _, by omega, rfl, rfl, rfl, by omega, by omega, by omega, by omega, hn, Lib.hid rfl, HR⟩
      case round =>
        clear hn HR
        obtain ⟨k, next, last, v, n, hk, rfl, rfl, rfl, n0, n1, l0, l1, hs, HM, HR⟩ := hrel
        by_cases hlt : k < l.length
        · obtain ⟨b, off, rfl, hbl, x0, x1, hq⟩ := hl.at_ hlt
          generalize l[k] = x at x0 x1 hq
          obtain ⟨wo, rfl⟩ : ∃ wo : World, wo = wr := ⟨_, rfl⟩
          have hq1 := (hs.below.cell (p := ⟨b, off + k, none⟩) hbl).trans hq
          obtain ⟨c1, hc1⟩ : ∃ c1 : Nat, x % 7 = c1 := ⟨(x % 7).toNat, by omega⟩
          obtain ⟨c2, hc2⟩ : ∃ c2 : Nat, x / 7 % 7 = c2 := ⟨(x / 7 % 7).toNat, by omega⟩
          have hc1l : c1 ≤ 6 := by omega
          have hc2l : c2 ≤ 6 := by omega
          go_wp2_with fail
          go_loopw [7, 10] (fun nx j wr => ∃ (t : Nat) (next' : Int) (v' : Value) (n' : N), t ≤ c1 ∧ j = .int .i64 t ∧ nx = .int .i64 next' ∧ 0 ≤ next' ∧ next ≤ next' ∧ next' ≤ next + t ∧ Hs B v' n' W wr ∧ Hid (n'.max = m) ∧ Hid (n'.Row fF next' last)) (fun _ j _ => c1 - (intOf j).toNat)
          case atStart => exact ⟨0, next, v, n, by omega, rfl, rfl, by omega, by omega, by omega, hs, HM, HR⟩
          case round =>
            clear hs hq1
            obtain ⟨t, nx, v, n, ht, rfl, rfl, p0, p1, p2, hs, HM, HR⟩ := hrel
            have hq1 := (hs.below.cell (p := ⟨b, off + k, none⟩) hbl).trans hq
            by_cases htl : t < c1
            · go_wp2_with fail
              refine (send_of ⟨#[102]⟩ nx hs (by decide)).mono ?_
              rintro e w2 ⟨rfl, v2, h2, -⟩
              have HR2 : Hid ((n.push ⟨fF, nx, false⟩).Row fF (nx + 1) last) := Lib.hid HR.out.send
              have HM2 : Hid ((n.push ⟨fF, nx, false⟩).max = m) := HM
              clear hs hq1
              go_wp2_with fail
              go_roundw
              case rel => exact ⟨t + 1, nx + 1, v2, _, by omega, by go_num, rfl, by omega, by omega, by omega, h2, HM2, HR2⟩
              case measure => simp only [intOf]; omega
            · obtain rfl : t = c1 := by omega
              go_wp2_with fail
              clear hc1
              obtain ⟨wp, rfl⟩ : ∃ wp : World, wp = wr := ⟨_, rfl⟩
              go_loopw [8, 11, 12, 13, 14] (fun la j _ _ _ wr => ∃ (s : Nat) (last' : Int) (v' : Value) (n' : N), s ≤ c2 ∧ j = .int .i64 s ∧ la = .int .i64 last' ∧ -1 ≤ last' ∧ last' ≤ nx ∧ Hs B v' n' W wr ∧ Hid (n'.max = m) ∧ Hid (n'.Row fF nx last')) (fun _ j _ _ _ _ => c2 - (intOf j).toNat)
              case atStart => exact ⟨0, last, v, n, by omega, rfl, rfl, by omega, by omega, hs, HM, HR⟩
              case round =>
                clear hs hq1
                obtain ⟨s, la, v, n, hs2, rfl, rfl, la0, la1, hs, HM, HR⟩ := hrel
                have hq1 := (hs.below.cell (p := ⟨b, off + k, none⟩) hbl).trans hq
                by_cases hsl : s < c2
                · by_cases hp : 0 < n.l.length
                  · obtain ⟨hR2, hto⟩ := HR.out.give hp
                    have hle := HR.out.ok.le
                    rw [HM.out] at hle
                    have hlt2 := HR.out.lt
                    have HE : Hid (n.noneE 0 = 0) := Lib.hid (by simp [N.noneE, N.has, hp])
                    have HM2 : Hid ((n.lose 0).max = m) := Lib.hid (by rw [← HM.out]; unfold N.lose; split <;> rfl)
                    have HR2 := Lib.hid hR2
                    clear hR2
                    go_wp2_with fail
                    refine (give_of 0 hs).mono ?_
                    rintro e w2 ⟨rfl, v2, h2, -⟩
                    rw [HE.out, hto]
                    obtain ⟨d, hd⟩ : ∃ d, d = nx - (n.l.length : Int) := ⟨_, rfl⟩
                    rw [← hd] at HR2 ⊢
                    have d0 : la < d := by omega
                    have d1 : nx - m - 1 ≤ d := by omega
                    have d2 : d ≤ nx := by omega
                    clear hd hto hle hlt2 hs hq1
                    go_wp2_with fail
                    go_roundw
                    case rel => exact ⟨s + 1, d, v2, _, by omega, by go_num, rfl, by omega, by omega, h2, HM2, HR2⟩
                    case measure => simp only [intOf]; omega
                  · have hz : n.l.length = 0 := by omega
                    have HL : Hid (n.lose 0 = n) := Lib.hid (N.lose_out (by simp [N.has, hz]))
                    have HE : Hid (n.noneE 0 = 5) := Lib.hid (by simp [N.noneE, N.has, hz])
                    have HZ := Lib.hid hz
                    clear hz hp
                    go_wp2_with fail
                    refine (give_of 0 hs).mono ?_
                    rintro e w2 ⟨rfl, v2, h2, -⟩
                    rw [HE.out]
                    rw [HL.out] at h2
                    clear hs hq1
                    go_wp2_with fail
                    refine (len_of h2).mono ?_
                    rintro e w3 ⟨rfl, rfl⟩
                    rw [HZ.out]
                    go_wp2_with fail
                    go_roundw
                    case rel => exact ⟨s + 1, la, v2, n, by omega, by go_num, rfl, by omega, by omega, h2, HM, HR⟩
                    case measure => simp only [intOf]; omega
                · go_wp2_with fail
                  go_roundw
                  case rel => exact ⟨k + 1, nx, la, v, n, by omega, by go_num, rfl, rfl, by omega, by omega, by omega, by omega, hs, HM, HR⟩
                  case measure => simp only [intOf]; omega
        · have HX := Lib.hid hl
          clear hl
          go_wp2_with fail
          go_loopw [15] (fun i wr => ∃ t : Nat, t ≤ n.l.length ∧ i = .int .i64 t ∧ Hs B v n W wr) (fun i _ => n.l.length - (intOf i).toNat)
          case atStart => exact ⟨0, by omega, rfl, hs⟩
          case round =>
            clear hs
            obtain ⟨t, ht, rfl, hs⟩ := hrel
            have hle := hs.nt.ok.le
            have hm2 := hs.nt.ok.m2
            by_cases htl : t < n.l.length
            · obtain ⟨a1, a2, a3⟩ := HR.out.at_ t htl
              have HA := Lib.hid (And.intro a1 (And.intro a2 a3))
              clear a1 a2 a3
              go_wp2_with fail
              refine (len_of hs).mono ?_
              rintro e w2 ⟨rfl, rfl⟩
              go_wp2_with fail
              refine (len_of hs).mono ?_
              rintro e w3 ⟨rfl, rfl⟩
              go_wp2_with fail
              refine (is_at_yes _ _ _ _ t ⟨#[102]⟩ _ _ hs.nt HA.out.1 HA.out.2.1 HA.out.2.2).mono ?_
              rintro e w4 ⟨rfl, hb⟩
              have hs := hs.kept hb
              clear hb
              go_wp2_with fail
              go_roundw
              case rel => exact ⟨t + 1, by omega, by go_num, hs⟩
              case measure => simp only [intOf]; omega
            · go_wp2_with fail
              refine (len_of hs).mono ?_
              rintro e w2 ⟨rfl, rfl⟩
              go_wp2_with fail
              go_ret
              exact ⟨rfl, hs.below⟩
    · have hd : m < 1 ∨ 65536 < m := by omega
      clear hm
      go_enter Try.func4, Try.ntmps4
      go_wp2_with fail
      refine (works_any _).mono ?_
      rintro e w0 ⟨rfl, hb0⟩
      go_wp2_with fail
      refine (new_no m w0 hd).mono ?_
      rintro e w1 ⟨rfl, rfl⟩
      go_wp2_with fail
      go_ret
      exact ⟨rfl, hb0⟩
  · go_enter Try.func4, Try.ntmps4
    go_wp2_with fail
    refine (works_any _).mono ?_
    rintro e w0 ⟨rfl, hb0⟩
    go_wp2_with fail
    refine (works_any _).mono ?_
    rintro e w1 ⟨rfl, hb1⟩
    go_wp2_with fail
    go_ret
    exact ⟨rfl, then_below hb0 hb1⟩
end Go.Proofs.Ytialfpmfiapepaa
