/-
  The walk of the law OutboxLast.
-/
import Derived.Test.YtjdhdmljchnidaaIns
namespace Go.Proofs.Ytjdhdmljchnidaa
open Go.RowKit
set_option linter.unusedVariables false
set_option linter.unusedSimpArgs false
attribute [local go_sem ↓] Go.wp_at_zero Go.wp_at_succ
theorem last_len {m : Int} {K : Nat → Int} {i : Nat} {n : N} (h : Last m K i n) : ((n.l.length : Int) = if m ≤ i then m else (i : Int)) := by
  have := h.len
  split <;> omega
def kindOf (b : Bool) : Int := if b = true then 4 else 3
set_option maxRecDepth 100000 in
set_option maxHeartbeats 4000000 in
theorem last_walk (m : Int) (oa : Option Addr) (cap : Nat) (l : List Bool) (W : World) (hl : BoolsHold W (.slice oa l.length cap) l) :
    Calls Try.prog 5 #[.int .i64 m, .slice oa l.length cap] W fun e w' => e = .returned (.bool true) ∧ Below W.heap.size W w' := by
  by_cases hlen : l.length ≤ 500
  · by_cases hm : 1 ≤ m ∧ m ≤ 4096
    · obtain ⟨m1, m2⟩ := hm
      go_enter Try.func5, Try.ntmps5
      go_wp2_with fail
      refine (works_any _).mono ?_
      rintro e w0 ⟨rfl, hb0⟩
      go_wp2_with fail
      refine (new_of m hb0 m1 m2).mono ?_
      rintro e w1 ⟨rfl, hn, -⟩
      have HR := Lib.hid (Last.start (fun j => kindOf (l.getD j false)) m m1 m2)
      generalize w0.heap.size = B at hn ⊢
      clear hb0
      go_wp2_with fail
      go_loopw [7, 8] (fun i _ wr => ∃ (k : Nat) (v : Value) (n : N), k ≤ l.length ∧ i = .int .i64 k ∧ Hs B v n W wr ∧ Hid (Last m (fun j => kindOf (l.getD j false)) k n)) (fun i _ _ => l.length - (intOf i).toNat)
      case atStart => exact ⟨0, _, _, by omega, rfl, hn, HR⟩
      case round =>
        clear hn HR
        obtain ⟨k, v, n, hk, rfl, hs, HR⟩ := hrel
        by_cases hlt : k < l.length
        · obtain ⟨b, off, rfl, hbl, hq⟩ := hl.at_ hlt
          have hq1 := (hs.below.cell (p := ⟨b, off + k, none⟩) hbl).trans hq
          have hkk : kindOf (l.getD k false) = kindOf l[k] := by simp [List.getD_eq_getElem?_getD, hlt]
          have HN := Lib.hid (HR.out.put (fun j => by unfold kindOf; split <;> simp))
          have HK := Lib.hid hkk
          clear hkk
          cases hlk : l[k]
          all_goals
            rw [hlk] at hq1
            have HLK := Lib.hid hlk
            clear hlk
            go_wp2_with fail
            refine (of_any _ _ _).mono ?_
            rintro e w2 ⟨rfl, hb⟩
            have h2 := hs.kept hb
            clear hb hs hq1
            go_wp2_with fail
            refine (put_of _ (Fr.Bare.of _ _) h2).mono ?_
            rintro e w3 ⟨rfl, v3, h3, -⟩
            clear h2
            go_wp2_with fail
            go_roundw
            case rel =>
              have hx := HN.out
              simp only [HK.out, HLK.out] at hx
              exact ⟨k + 1, v3, _, by omega, by go_num, h3, Lib.hid hx⟩
            case measure => simp only [intOf]; omega
        · obtain rfl : k = l.length := by omega
          have hX := Lib.hid hl
          have hle := last_len HR.out
          have HLE := Lib.hid hle
          have hmm : (if m ≤ (l.length : Int) then m else (l.length : Int)) = (n.l.length : Int) := hle.symm
          have hnl : (n.l.length : Int) ≤ l.length := by rw [hle]; split <;> omega
          clear hl hle
          go_wp2_with fail
          refine (all_bare _ B v n _ hs.nt hs.bare).mono ?_
          rintro e w2 ⟨ob, cb, rfl, hr, hb⟩
          have h2 := hs.kept hb
          have HRow := Lib.hid hr
          clear hb hr hs
          generalize wr.heap.size = Pw at HRow
          have hroff : ∀ t : Nat, ∀ ht : t < n.l.length, n.l[t].n = (l.length : Int) - n.l.length + t := fun t ht => by
            rw [HR.out.at_ t ht]
            show ((l.length - n.l.length + t : Nat) : Int) = _
            omega
          have HOFF := Lib.hid hroff
          clear hroff
          by_cases hml : m ≤ (l.length : Int)
          · rw [if_pos hml] at hmm
            have hnx : (n.l.length : Int) ≤ l.length := hnl
            go_wp2_with fail
            go_loopw [11] (fun i wr => ∃ t : Nat, t ≤ n.l.length ∧ i = .int .i64 t ∧ Hs B v n W wr ∧ Hid (wr.ownsRow Pw 38 14 (.slice ob n.l.length cb) n.l.length (rows n.l))) (fun i _ => n.l.length - (intOf i).toNat)
            case atStart => exact ⟨0, by omega, rfl, h2, HRow⟩
            case round =>
              clear h2 HRow
              obtain ⟨t, ht, rfl, hs, HRow⟩ := hrel
              by_cases htl : t < n.l.length
              · obtain ⟨g, cg, hg, -, -⟩ := World.ownsRow.form HRow.out (by omega)
                simp only [Value.slice.injEq] at hg
                obtain ⟨rfl, -, rfl⟩ := hg
                have c5 : wr.cell? ⟨g, t * 14 + 5, none⟩ = some (.int .i64 ((l.length : Int) - m + t)) := by
                  rw [World.ownsRow.cellAt HRow.out _ (by omega), rows_get _ _ _ htl (by omega)]
                  show some (Value.int .i64 n.l[t].n) = _
                  rw [HOFF.out t htl]
                  congr 2
                  omega
                go_wp2_with fail
                go_roundw
                case rel => exact ⟨t + 1, by omega, by go_num, hs, HRow⟩
                case measure => simp only [intOf]; omega
              · go_wp2_with fail
                go_ret
                exact ⟨rfl, hs.below⟩
          · rw [if_neg hml] at hmm
            go_wp2_with fail
            go_loopw [11] (fun i wr => ∃ t : Nat, t ≤ n.l.length ∧ i = .int .i64 t ∧ Hs B v n W wr ∧ Hid (wr.ownsRow Pw 38 14 (.slice ob n.l.length cb) n.l.length (rows n.l))) (fun i _ => n.l.length - (intOf i).toNat)
            case atStart => exact ⟨0, by omega, rfl, h2, HRow⟩
            case round =>
              clear h2 HRow
              obtain ⟨t, ht, rfl, hs, HRow⟩ := hrel
              by_cases htl : t < n.l.length
              · obtain ⟨g, cg, hg, -, -⟩ := World.ownsRow.form HRow.out (by omega)
                simp only [Value.slice.injEq] at hg
                obtain ⟨rfl, -, rfl⟩ := hg
                have c5 : wr.cell? ⟨g, t * 14 + 5, none⟩ = some (.int .i64 ((t : Int))) := by
                  rw [World.ownsRow.cellAt HRow.out _ (by omega), rows_get _ _ _ htl (by omega)]
                  show some (Value.int .i64 n.l[t].n) = _
                  rw [HOFF.out t htl]
                  congr 2
                  omega
                go_wp2_with fail
                go_roundw
                case rel => exact ⟨t + 1, by omega, by go_num, hs, HRow⟩
                case measure => simp only [intOf]; omega
              · go_wp2_with fail
                go_ret
                exact ⟨rfl, hs.below⟩
    · have hd : m < 1 ∨ 4096 < m := by omega
      clear hm
      go_enter Try.func5, Try.ntmps5
      go_wp2_with fail
      refine (works_any _).mono ?_
      rintro e w0 ⟨rfl, hb0⟩
      go_wp2_with fail
      refine (new_no m w0 hd).mono ?_
      rintro e w1 ⟨rfl, rfl⟩
      go_wp2_with fail
      go_ret
      exact ⟨rfl, hb0⟩
  · go_enter Try.func5, Try.ntmps5
    go_wp2_with fail
    refine (works_any _).mono ?_
    rintro e w0 ⟨rfl, hb0⟩
    go_wp2_with fail
    refine (works_any _).mono ?_
    rintro e w1 ⟨rfl, hb1⟩
    go_wp2_with fail
    go_ret
    exact ⟨rfl, then_below hb0 hb1⟩
end Go.Proofs.Ytjdhdmljchnidaa
