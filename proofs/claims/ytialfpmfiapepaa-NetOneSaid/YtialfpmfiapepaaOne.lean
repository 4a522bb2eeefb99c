/-
  The walk of the law NetOne.
-/
import Derived.Test.YtialfpmfiapepaaOnePlain
namespace Go.Proofs.Ytialfpmfiapepaa
open Go.RowKit
set_option linter.unusedVariables false
set_option linter.unusedSimpArgs false
attribute [local go_sem ↓] Go.wp_at_zero Go.wp_at_succ
theorem u_of' (n : Int) (h0 : 0 ≤ n) (h1 : n ≤ 4294967295) : ∃ x, n = u x :=
  ⟨BitVec.ofNat 32 n.toNat, by unfold u; rw [BitVec.toNat_ofNat]; omega⟩
theorem max_lose (n : N) (k : Int) : (n.lose k).max = n.max := by unfold N.lose; split <;> rfl
theorem max_twice (n : N) (k : Int) : (n.twice k).max = n.max := by unfold N.twice; split <;> rfl
theorem max_bend (n : N) (k a : Int) (x : BitVec 32) : (n.bend k a x).max = n.max := by unfold N.bend N.put; split <;> rfl
section
variable {B C : Nat} {v v' y : Value} {n n' m : N} {W w w' : World}
theorem Hs.beside2 (h : Hs C y m W w) (hT : Turn B v v' w w') (ha : Apart B v C y) (hx : Hs B v' n' W w') : Hs C y m W w' := ⟨h.nt.beside hT ha, h.small, hx.below⟩
end
/-- Where a frame stands behind the step. -/
def placeF (kind K : Int) (th : Bool) (sh : Int) (k : Int) : Int := if (kind = 1 ∨ kind = 2) ∧ th = true ∧ K < k then k - 1 else k - sh
theorem placeF_of {kind K : Int} {th : Bool} {sh k : Int} (h : ¬ (kind = 1 ∨ kind = 2)) : placeF kind K th sh k = k - sh := if_neg (fun e => h e.1)
theorem placeF_at {kind K sh k : Int} (h : kind = 1 ∨ kind = 2) (hk : K < k) : placeF kind K true sh k = k - 1 := if_pos ⟨h, rfl, hk⟩
theorem placeF_le {kind K sh k : Int} {th : Bool} (hk : ¬ K < k) : placeF kind K th sh k = k - sh := if_neg (fun e => hk e.2.2)
theorem placeF_no {kind K sh k : Int} : placeF kind K false sh k = k - sh := if_neg (fun e => by simp at e)
section
variable {n : N} {K kind : Int} {th : Bool}
theorem hs_room (u : U) (h : ¬ (kind = 1 ∨ kind = 2)) (hf : n.full = false) : Hid (∀ k : Nat, k < n.l.length → (k : Int) ≠ -1 → Stays n (n.push u) k (placeF kind K th 0 k)) := Lib.hid (fun k hk _ => by
  rw [placeF_of h, Int.sub_zero]; exact Stays.push_room _ hk hf)
theorem hs_full (u : U) (h : ¬ (kind = 1 ∨ kind = 2)) (hf : n.full = true) : Hid (∀ k : Nat, k < n.l.length → (k : Int) ≠ 0 → Stays n (n.push u) k (placeF kind K th 1 k)) := Lib.hid (fun k hk hk0 => by
  rw [placeF_of h]; exact Stays.push_full _ hk (by omega) hf)
theorem hs_lose_no (h : n.has K = false) : Hid (∀ k : Nat, k < n.l.length → (k : Int) ≠ -1 → Stays n (n.lose K) k (placeF kind K false 0 k)) := Lib.hid (fun k hk _ => by
  rw [placeF_no, Int.sub_zero, N.lose_out h]; exact Stays.same n k hk)
theorem hs_lose (hk : kind = 1 ∨ kind = 2) (h : n.has K = true) : Hid (∀ k : Nat, k < n.l.length → (k : Int) ≠ K → Stays n (n.lose K) k (placeF kind K true 0 k)) := Lib.hid (fun k hl hkK => by
  by_cases hlt : K < k
  · rw [placeF_at hk hlt]; exact Stays.lose_after K hl h hlt
  · rw [placeF_le hlt, Int.sub_zero]; exact Stays.lose_before K hl (by omega))
theorem hs_twice_no (h : n.has K = false) : Hid (∀ k : Nat, k < n.l.length → (k : Int) ≠ -1 → Stays n (n.twice K) k (placeF 3 K false 0 k)) := Lib.hid (fun k hk _ => by
  have : n.twice K = n := by unfold N.twice; rw [h]; rfl
  rw [placeF_no, Int.sub_zero, this]; exact Stays.same n k hk)
theorem hs_twice_room (h : n.has K = true) (hf : n.full = false) : Hid (∀ k : Nat, k < n.l.length → (k : Int) ≠ -1 → Stays n (n.twice K) k (placeF 3 K true 0 k)) := Lib.hid (fun k hk hx => by
  have : n.twice K = n.push (n.get K) := by unfold N.twice; rw [if_pos h]
  rw [this]; exact (hs_room (n.get K) (by omega) hf).out k hk hx)
theorem hs_twice_full (h : n.has K = true) (hf : n.full = true) : Hid (∀ k : Nat, k < n.l.length → (k : Int) ≠ 0 → Stays n (n.twice K) k (placeF 3 K true 1 k)) := Lib.hid (fun k hk hx => by
  have : n.twice K = n.push (n.get K) := by unfold N.twice; rw [if_pos h]
  rw [this]; exact (hs_full (n.get K) (by omega) hf).out k hk hx)
theorem hs_bend (a : Int) (x : BitVec 32) (h : ¬ (kind = 1 ∨ kind = 2)) : Hid (∀ k : Nat, k < n.l.length → (k : Int) ≠ K → Stays n (n.bend K a x) k (placeF kind K true 0 k)) := Lib.hid (fun k hk hkK => by
  rw [placeF_of h, Int.sub_zero]; exact Stays.bend K a x hk hkK)
theorem hs_bend_no (a : Int) (x : BitVec 32) (h : ¬ (kind = 1 ∨ kind = 2)) (hh : n.has K = false) : Hid (∀ k : Nat, k < n.l.length → (k : Int) ≠ -1 → Stays n (n.bend K a x) k (placeF kind K false 0 k)) := Lib.hid (fun k hk _ => by
  rw [placeF_of h, Int.sub_zero]; exact Stays.bend K a x hk (fun e => by have := (N.get_nat hk).1; rw [e, hh] at this; cases this))
end
set_option maxRecDepth 100000 in
set_option maxHeartbeats 16000000 in
theorem one_walk (m : Int) (oa : Option Addr) (cap : Nat) (l : List Step) (kind : Int) (txt : ByteArray) (dst K pos : Int) (xx : BitVec 32) (W : World) (hl : Step.Holds W (.slice oa l.length cap) l) (ht : ∀ s ∈ l, s.txt.size ≤ 140737488351232) (hsz9 : txt.size ≤ 140737488351232) (hK0 : -9223372036854775808 ≤ K) (hK1 : K ≤ 9223372036854775807) (hp0 : -9223372036854775808 ≤ pos) (hp1 : pos ≤ 9223372036854775807) :
    Calls Try.prog 7 #[.int .i64 m, .slice oa l.length cap, .agg #[.int .u8 kind, .string txt, .int .i64 dst, .int .i64 K, .int .i64 pos, .int .u32 (u xx)]] W fun e w' => e = .returned (.bool true) ∧ Below W.heap.size W w' := by
  have hlX := hl.below ((Below.refl _ W).alloc (Nat.le_refl _) (.cells #[.int .u8 kind, .string txt, .int .i64 dst, .int .i64 K, .int .i64 pos, .int .u32 (u xx)] 32))
  obtain ⟨X, hX⟩ : ∃ X, X = W.heap.size := ⟨_, rfl⟩
  go_enter Try.func7, Try.ntmps7
  go_wp2_with fail
  refine (works_any _).mono ?_
  rintro e w0 ⟨rfl, hb0⟩
  have hbW : Below W.heap.size W w0 := ((Below.refl _ W).alloc (Nat.le_refl _) (.cells #[.int .u8 kind, .string txt, .int .i64 dst, .int .i64 K, .int .i64 pos, .int .u32 (u xx)] 32)).trans (hb0.mono (by simp))
  have hlw := hl.below hbW
  have ge : ∀ o, w0.cell? ⟨W.heap.size, o, none⟩ = (#[.int .u8 kind, .string txt, .int .i64 dst, .int .i64 K, .int .i64 pos, .int .u32 (u xx)] : Array Value)[o]? := fun o => (hb0.cell (p := ⟨W.heap.size, o, none⟩) (by simp)).trans (cell_of_row _ _ _ _ _ _ (heap_alloc_new _ _))
  have e0 : w0.cell? ⟨W.heap.size, 0, none⟩ = some (.int .u8 kind) := ge 0
  have e1 : w0.cell? ⟨W.heap.size, 1, none⟩ = some (.string txt) := ge 1
  have e2 : w0.cell? ⟨W.heap.size, 2, none⟩ = some (.int .i64 dst) := ge 2
  have e3 : w0.cell? ⟨W.heap.size, 3, none⟩ = some (.int .i64 K) := ge 3
  have e4 : w0.cell? ⟨W.heap.size, 4, none⟩ = some (.int .i64 pos) := ge 4
  have e5 : w0.cell? ⟨W.heap.size, 5, none⟩ = some (.int .u32 (u xx)) := ge 5
  have hXl0 : W.heap.size < w0.heap.size := Nat.lt_of_lt_of_le (by simp) hb0.size
  clear ge hb0 hlX
  go_wp2_with fail
  refine (large_any oa cap l _ hlw ht).mono ?_
  rintro e w1 ⟨bg, rfl, rfl, HT⟩
  cases bg
  · obtain ⟨hlen, HT3⟩ := HT rfl
    have HT2 := Lib.hid HT3
    have E := Lib.hid (And.intro e0 (And.intro e1 (And.intro e2 (And.intro e3 (And.intro e4 e5)))))
    clear HT3 ht hX hl HT e0 e1 e2 e3 e4 e5
    have HT := HT2
    clear HT2
    have hl := hlw
    clear hlw
    by_cases hsz : txt.size ≤ 1000
    · have e1 := E.out.2.1
      by_cases hm : 1 ≤ m ∧ m ≤ 65536
      · obtain ⟨m1, m2⟩ := hm
        go_wp2_with fail
        clear e1
        refine (new_of (W := w1) m (Below.refl _ _) m1 m2).mono ?_
        rintro e w2 ⟨rfl, hn, -⟩
        generalize w1.heap.size = B at hn ⊢
        go_wp2_with fail
        go_loopw [9] (fun i wr => ∃ (k : Nat) (v : Value) (n : N), k ≤ l.length ∧ i = .int .i64 k ∧ Hs B v n w1 wr ∧ Hid (n.max = m)) (fun i _ => l.length - (intOf i).toNat)
        case atStart => exact ⟨0, _, _, by omega, rfl, hn, Lib.hid rfl⟩
        case round =>
          clear hn
          obtain ⟨k, v, n, hk, rfl, hs, HM⟩ := hrel
          by_cases hlt : k < l.length
          · obtain ⟨b, off, rfl, hbl, hok, q0, q1, q2, q3, q4, q5⟩ := hl.at_ hlt
            have hsz := HT.out k hlt
            generalize l[k] = x at hok q0 q1 q2 q3 q4 q5 hsz
            obtain ⟨kind, txt, dst, K, pos, xi⟩ := x
            simp only at q0 q1 q2 q3 q4 q5 hsz
            obtain ⟨-, -, -, -, -, -, -, hp0, hp1, hx0, hx1⟩ := hok
            simp only at hp0 hp1 hx0 hx1
            obtain ⟨xx, rfl⟩ := u_of' xi hx0 hx1
            have Q0 := Lib.hid q0
            have q0 := (hs.below.cell (p := ⟨b, off + k * 6, none⟩) hbl).trans q0
            have Q1 := Lib.hid q1
            have q1 := (hs.below.cell (p := ⟨b, off + k * 6 + 1, none⟩) hbl).trans q1
            have Q2 := Lib.hid q2
            have q2 := (hs.below.cell (p := ⟨b, off + k * 6 + 2, none⟩) hbl).trans q2
            have Q3 := Lib.hid q3
            have q3 := (hs.below.cell (p := ⟨b, off + k * 6 + 3, none⟩) hbl).trans q3
            have Q4 := Lib.hid q4
            have q4 := (hs.below.cell (p := ⟨b, off + k * 6 + 4, none⟩) hbl).trans q4
            have Q5 := Lib.hid q5
            have q5 := (hs.below.cell (p := ⟨b, off + k * 6 + 5, none⟩) hbl).trans q5
            have HL := Lib.hid hl
            clear hl hx0 hx1
            by_cases k0 : kind = 0
            · subst k0
              go_wp2_with fail
              have hs := hs.drew
              go_region_held3 (fun x => x.cell? ⟨b, off + k * 6 + 1, none⟩ = some (.string txt) ∧ x.cell? ⟨b, off + k * 6 + 2, none⟩ = some (.int .i64 dst)) (go_keep) ((go_at_call 12; (with_reducible refine (send_of txt dst hs hsz).mono ?_); rintro e w2 ⟨rfl, v2, h2, -⟩; have q1 := (h2.below.cell (p := ⟨b, off + k * 6 + 1, none⟩) hbl).trans Q1.out; have q2 := (h2.below.cell (p := ⟨b, off + k * 6 + 2, none⟩) hbl).trans Q2.out))
              have HM2 : Hid ((n.push ⟨txt, dst, false⟩).max = m) := HM
              clear hs
              go_wp2_with fail
              refine ⟨⟨k + 1, v2, _, by omega, by go_num, h2, HM2⟩, ?_⟩
              simp only [intOf]; omega
            · by_cases k1 : kind = 1
              · subst k1
                go_wp2_with fail
                refine (give_of K hs).mono ?_
                rintro e w2 ⟨rfl, v2, h2, -⟩
                have HM2 : Hid ((n.lose K).max = m) := Lib.hid (by rw [← HM.out]; exact max_lose n K)
                clear hs
                go_wp2_with fail
                refine ⟨⟨k + 1, v2, _, by omega, by go_num, h2, HM2⟩, ?_⟩
                simp only [intOf]; omega
              · by_cases k2 : kind = 2
                · subst k2
                  go_wp2_with fail
                  refine (lose_of K hs).mono ?_
                  rintro e w2 ⟨rfl, v2, h2, -⟩
                  have HM2 : Hid ((n.lose K).max = m) := Lib.hid (by rw [← HM.out]; exact max_lose n K)
                  clear hs
                  go_wp2_with fail
                  refine ⟨⟨k + 1, v2, _, by omega, by go_num, h2, HM2⟩, ?_⟩
                  simp only [intOf]; omega
                · by_cases k3 : kind = 3
                  · subst k3
                    go_wp2_with fail
                    refine (twice_of K hs).mono ?_
                    rintro e w2 ⟨rfl, v2, h2, -⟩
                    have HM2 : Hid ((n.twice K).max = m) := Lib.hid (by rw [← HM.out]; exact max_twice n K)
                    clear hs
                    go_wp2_with fail
                    refine ⟨⟨k + 1, v2, _, by omega, by go_num, h2, HM2⟩, ?_⟩
                    simp only [intOf]; omega
                  · go_wp2_with fail
                    have hs := hs.drew
                    go_region_held3 (fun x => x.cell? ⟨b, off + k * 6 + 3, none⟩ = some (.int .i64 K) ∧ x.cell? ⟨b, off + k * 6 + 4, none⟩ = some (.int .i64 pos) ∧ x.cell? ⟨b, off + k * 6 + 5, none⟩ = some (.int .u32 (u xx))) (go_keep) ((go_at_call 17; (with_reducible refine (bend_of K pos xx hs hp0 hp1).mono ?_); rintro e w2 ⟨rfl, v2, h2, -⟩; have q3 := (h2.below.cell (p := ⟨b, off + k * 6 + 3, none⟩) hbl).trans Q3.out; have q4 := (h2.below.cell (p := ⟨b, off + k * 6 + 4, none⟩) hbl).trans Q4.out; have q5 := (h2.below.cell (p := ⟨b, off + k * 6 + 5, none⟩) hbl).trans Q5.out))
                    have HM2 : Hid ((n.bend K pos xx).max = m) := Lib.hid (by rw [← HM.out]; exact max_bend n K pos xx)
                    clear hs
                    go_wp2_with fail
                    refine ⟨⟨k + 1, v2, _, by omega, by go_num, h2, HM2⟩, ?_⟩
                    simp only [intOf]; omega
          · obtain rfl : k = l.length := by omega
            clear HT hlt hk
            go_wp2_with fail
            refine (copy_any _ B v n _ hs.nt).mono ?_
            rintro e w3 ⟨C, y, rfl, hcn, hb3, hC, hy⟩
            have hac : Apart B v C y := ⟨fun e => by have := hs.nt.lt; omega, fun e => by have := hy _ e; have := hs.nt.lt; omega, fun e => by have := hs.nt.vlt _ e; omega, fun k hk e => by have := hs.nt.vlt _ hk; have := hy _ e; omega⟩
            replace hs := hs.kept hb3
            have hc : Hs C y n w1 w3 := ⟨hcn, hs.small, hs.below⟩
            clear hcn hb3 hC hy
            clear hl
            go_wp2_with fail
            refine (len_of hc).mono ?_
            rintro e w4 ⟨rfl, rfl⟩
            have e0 := (hs.below.cell (p := ⟨W.heap.size, 0, none⟩) hXl0).trans E.out.1
            have e3 := (hs.below.cell (p := ⟨W.heap.size, 3, none⟩) hXl0).trans E.out.2.2.2.1
            go_wp2_with fail
            obtain ⟨fu, hfu⟩ : ∃ fu, fu = n.full := ⟨_, rfl⟩
            have hff : ((n.l.length : Int) == m) = fu := by rw [hfu, ← HM.out]; unfold N.full; rfl
            rw [hff]
            have HFU := Lib.hid hfu
            clear hfu hff
            obtain ⟨th, hth⟩ : ∃ th, th = n.has K := ⟨_, rfl⟩
            have HTH := Lib.hid hth
            clear hth
            go_upto_region 21 with fail
            go_cut [12] (fun t wx => t = .bool th ∧ ∃ j, wx = w4.drewN j)
            case first => as_aux_lemma =>
              by_cases hk0 : 0 ≤ K
              · go_quiet (first
                  | (go_at_call 11; exact Calls.quiet_of_same (len_of (hc.drewN _))))
                go_wp2_with fail
                go_meet
                case rel => exact ⟨by rw [HTH.out]; simp [N.has, hk0], _, rfl⟩
              · go_quiet (first
                  | (go_at_call 11; exact Calls.quiet_of_same (len_of (hc.drewN _))))
                go_wp2_with fail
                go_meet
                case rel => exact ⟨by rw [HTH.out]; simp [N.has]; omega, _, rfl⟩
            case rest =>
              obtain ⟨rfl, j, rfl⟩ := hcut
              replace hs := hs.drewN j
              replace hc := hc.drewN j
              clear e0 e3
              generalize w4.drewN j = w5 at hs hc ⊢
              have e0 := (hs.below.cell (p := ⟨W.heap.size, 0, none⟩) hXl0).trans E.out.1
              have e1 := (hs.below.cell (p := ⟨W.heap.size, 1, none⟩) hXl0).trans E.out.2.1
              have e2 := (hs.below.cell (p := ⟨W.heap.size, 2, none⟩) hXl0).trans E.out.2.2.1
              have e3 := (hs.below.cell (p := ⟨W.heap.size, 3, none⟩) hXl0).trans E.out.2.2.2.1
              have e4 := (hs.below.cell (p := ⟨W.heap.size, 4, none⟩) hXl0).trans E.out.2.2.2.2.1
              have e5 := (hs.below.cell (p := ⟨W.heap.size, 5, none⟩) hXl0).trans E.out.2.2.2.2.2
              go_upto_block 3 with fail
              go_cut [13, 14] (fun a b wx => ∃ (sh go : Int) (v2 : Value) (n2 : N), a = .int .i64 sh ∧ b = .int .i64 go ∧ 0 ≤ sh ∧ sh ≤ 1 ∧ Hs B v2 n2 w1 wx ∧ Hs C y n w1 wx ∧ Hid (∀ k : Nat, k < n.l.length → (k : Int) ≠ go → Stays n n2 k (placeF kind K th sh k)))
              case first => as_aux_lemma =>
                by_cases k0 : kind = 0
                · subst k0
                  cases fu
                  · have HS := hs_room (kind := 0) (K := K) (th := th) ⟨txt, dst, false⟩ (by omega) HFU.out.symm
                    go_wp2_with fail
                    refine (send_of txt dst hs (by omega)).mono ?_
                    rintro e w6 ⟨rfl, v2, h2, hT⟩
                    have c2 := hc.beside2 hT hac h2
                    have e3 := (h2.below.cell (p := ⟨W.heap.size, 3, none⟩) hXl0).trans E.out.2.2.2.1
                    clear hT hs hc hac e0 e1 e2 e4 e5
                    go_wp2_with fail
                    go_meet
                    case rel => exact ⟨0, -1, v2, _, rfl, rfl, by omega, by omega, h2, c2, HS⟩
                  · have HS := hs_full (kind := 0) (K := K) (th := th) ⟨txt, dst, false⟩ (by omega) HFU.out.symm
                    go_wp2_with fail
                    refine (send_of txt dst hs (by omega)).mono ?_
                    rintro e w6 ⟨rfl, v2, h2, hT⟩
                    have c2 := hc.beside2 hT hac h2
                    have e3 := (h2.below.cell (p := ⟨W.heap.size, 3, none⟩) hXl0).trans E.out.2.2.2.1
                    clear hT hs hc hac e0 e1 e2 e4 e5
                    go_wp2_with fail
                    go_meet
                    case rel => exact ⟨1, 0, v2, _, rfl, rfl, by omega, by omega, h2, c2, HS⟩
                · by_cases k1 : kind = 1
                  · subst k1
                    cases th
                    · have HS := hs_lose_no (kind := 1) HTH.out.symm
                      go_wp2_with fail
                      refine (give_of K hs).mono ?_
                      rintro e w6 ⟨rfl, v2, h2, hT⟩
                      have c2 := hc.beside2 hT hac h2
                      have e3 := (h2.below.cell (p := ⟨W.heap.size, 3, none⟩) hXl0).trans E.out.2.2.2.1
                      clear hT hs hc hac e0 e1 e2 e4 e5
                      go_wp2_with fail
                      go_meet
                      case rel => exact ⟨0, -1, v2, _, rfl, rfl, by omega, by omega, h2, c2, HS⟩
                    · have HS := hs_lose (kind := 1) (by omega) HTH.out.symm
                      go_wp2_with fail
                      refine (give_of K hs).mono ?_
                      rintro e w6 ⟨rfl, v2, h2, hT⟩
                      have c2 := hc.beside2 hT hac h2
                      have e3 := (h2.below.cell (p := ⟨W.heap.size, 3, none⟩) hXl0).trans E.out.2.2.2.1
                      clear hT hs hc hac e0 e1 e2 e4 e5
                      go_wp2_with fail
                      go_meet
                      case rel => exact ⟨0, K, v2, _, rfl, rfl, by omega, by omega, h2, c2, HS⟩
                  · by_cases k2 : kind = 2
                    · subst k2
                      cases th
                      · have HS := hs_lose_no (kind := 2) HTH.out.symm
                        go_wp2_with fail
                        refine (lose_of K hs).mono ?_
                        rintro e w6 ⟨rfl, v2, h2, hT⟩
                        have c2 := hc.beside2 hT hac h2
                        have e3 := (h2.below.cell (p := ⟨W.heap.size, 3, none⟩) hXl0).trans E.out.2.2.2.1
                        clear hT hs hc hac e0 e1 e2 e4 e5
                        go_wp2_with fail
                        go_meet
                        case rel => exact ⟨0, -1, v2, _, rfl, rfl, by omega, by omega, h2, c2, HS⟩
                      · have HS := hs_lose (kind := 2) (by omega) HTH.out.symm
                        go_wp2_with fail
                        refine (lose_of K hs).mono ?_
                        rintro e w6 ⟨rfl, v2, h2, hT⟩
                        have c2 := hc.beside2 hT hac h2
                        have e3 := (h2.below.cell (p := ⟨W.heap.size, 3, none⟩) hXl0).trans E.out.2.2.2.1
                        clear hT hs hc hac e0 e1 e2 e4 e5
                        go_wp2_with fail
                        go_meet
                        case rel => exact ⟨0, K, v2, _, rfl, rfl, by omega, by omega, h2, c2, HS⟩
                    · by_cases k3 : kind = 3
                      · subst k3
                        cases th
                        · have HS := hs_twice_no HTH.out.symm
                          go_wp2_with fail
                          refine (twice_of K hs).mono ?_
                          rintro e w6 ⟨rfl, v2, h2, hT⟩
                          have c2 := hc.beside2 hT hac h2
                          have e3 := (h2.below.cell (p := ⟨W.heap.size, 3, none⟩) hXl0).trans E.out.2.2.2.1
                          clear hT hs hc hac e0 e1 e2 e4 e5
                          go_wp2_with fail
                          go_meet
                          case rel => exact ⟨0, -1, v2, _, rfl, rfl, by omega, by omega, h2, c2, HS⟩
                        · cases fu
                          · have HS := hs_twice_room HTH.out.symm HFU.out.symm
                            go_wp2_with fail
                            refine (twice_of K hs).mono ?_
                            rintro e w6 ⟨rfl, v2, h2, hT⟩
                            have c2 := hc.beside2 hT hac h2
                            have e3 := (h2.below.cell (p := ⟨W.heap.size, 3, none⟩) hXl0).trans E.out.2.2.2.1
                            clear hT hs hc hac e0 e1 e2 e4 e5
                            go_wp2_with fail
                            go_meet
                            case rel => exact ⟨0, -1, v2, _, rfl, rfl, by omega, by omega, h2, c2, HS⟩
                          · have HS := hs_twice_full HTH.out.symm HFU.out.symm
                            go_wp2_with fail
                            refine (twice_of K hs).mono ?_
                            rintro e w6 ⟨rfl, v2, h2, hT⟩
                            have c2 := hc.beside2 hT hac h2
                            have e3 := (h2.below.cell (p := ⟨W.heap.size, 3, none⟩) hXl0).trans E.out.2.2.2.1
                            clear hT hs hc hac e0 e1 e2 e4 e5
                            go_wp2_with fail
                            go_meet
                            case rel => exact ⟨1, 0, v2, _, rfl, rfl, by omega, by omega, h2, c2, HS⟩
                      · cases th
                        · have HS := hs_bend_no (n := n) (K := K) (kind := kind) pos xx (by omega) HTH.out.symm
                          go_wp2_with fail
                          refine (bend_of K pos xx hs hp0 hp1).mono ?_
                          rintro e w6 ⟨rfl, v2, h2, hT⟩
                          have c2 := hc.beside2 hT hac h2
                          have e3 := (h2.below.cell (p := ⟨W.heap.size, 3, none⟩) hXl0).trans E.out.2.2.2.1
                          clear hT hs hc hac e0 e1 e2 e4 e5
                          go_wp2_with fail
                          go_meet
                          case rel => exact ⟨0, -1, v2, _, rfl, rfl, by omega, by omega, h2, c2, HS⟩
                        · have HS := hs_bend (n := n) (K := K) (kind := kind) pos xx (by omega)
                          go_wp2_with fail
                          refine (bend_of K pos xx hs hp0 hp1).mono ?_
                          rintro e w6 ⟨rfl, v2, h2, hT⟩
                          have c2 := hc.beside2 hT hac h2
                          have e3 := (h2.below.cell (p := ⟨W.heap.size, 3, none⟩) hXl0).trans E.out.2.2.2.1
                          clear hT hs hc hac e0 e1 e2 e4 e5
                          go_wp2_with fail
                          go_meet
                          case rel => exact ⟨0, K, v2, _, rfl, rfl, by omega, by omega, h2, c2, HS⟩
              case rest => as_aux_lemma =>
                obtain ⟨sh, go, v2, n2, rfl, rfl, s0, s1, h2, c2, HS⟩ := hcut
                clear hs hc hac e0 e1 e2 e3 e4 e5 HFU
                have hll : n.l.length ≤ 65536 := by have := c2.nt.ok.le; have := c2.nt.ok.m2; omega
                obtain ⟨len, hlE⟩ : ∃ len, len = n.l.length := ⟨_, rfl⟩
                rw [← hlE] at hll
                have HLE := Lib.hid hlE
                clear hlE
                go_wp2_with fail
                go_loopw [15, 16, 17, 18, 19] (fun i _ _ _ _ wr => ∃ k : Nat, k ≤ len ∧ i = .int .i64 k ∧ Hs B v2 n2 w1 wr ∧ Hs C y n w1 wr) (fun i _ _ _ _ _ => len - (intOf i).toNat)
                case atStart => exact ⟨0, by omega, rfl, h2, c2⟩
                case round =>
                  clear h2 c2
                  obtain ⟨k, hk, rfl, h2, c2⟩ := hrel
                  have e0 := (h2.below.cell (p := ⟨W.heap.size, 0, none⟩) hXl0).trans E.out.1
                  have e3 := (h2.below.cell (p := ⟨W.heap.size, 3, none⟩) hXl0).trans E.out.2.2.2.1
                  have hlen' := len_of c2
                  rw [← HLE.out] at hlen'
                  by_cases hlt : k < len
                  · have hk9 : (k : Int) < 65536 := by omega
                    by_cases hg : (k : Int) = go
                    · subst hg
                      go_wp2_with fail
                      refine hlen'.mono ?_
                      rintro e w7 ⟨rfl, rfl⟩
                      clear hlen'
                      go_wp2_with fail
                      refine ⟨⟨k + 1, by omega, by go_num, h2, c2⟩, ?_⟩
                      simp only [intOf]; omega
                    · have HG := Lib.hid hg
                      have hgb : ((k : Int) == go) = false := by simpa using hg
                      clear hg
                      go_wp2_with fail
                      refine hlen'.mono ?_
                      rintro e w7 ⟨rfl, rfl⟩
                      clear hlen'
                      go_upto_region 49 with fail

                      clear hgb
                      go_upto_region 50 with fail

                      have hkb := hk9
                      go_cut [202] (fun b wx => b = .bool (decide ((kind = 1 ∨ kind = 2) ∧ th = true ∧ K < k)) ∧ wx = w7)
                      case first =>
                        clear h2 c2
                        by_cases k1 : kind = 1
                        · subst k1
                          cases th
                          · go_wp2_with fail
                            go_meet
                            case rel => exact ⟨by simp, rfl⟩
                          · go_wp2_with fail
                            go_meet
                            case rel => exact ⟨by simp, rfl⟩
                        · by_cases k2 : kind = 2
                          · subst k2
                            cases th
                            · go_wp2_with fail
                              go_meet
                              case rel => exact ⟨by simp, rfl⟩
                            · go_wp2_with fail
                              go_meet
                              case rel => exact ⟨by simp, rfl⟩
                          · go_wp2_with fail
                            go_meet
                            case rel => exact ⟨by simp [k1, k2], rfl⟩
                      case rest =>
                        obtain ⟨rfl, rfl⟩ := hcut
                        clear e0 e3
                        by_cases hP : (kind = 1 ∨ kind = 2) ∧ th = true ∧ K < k
                        · have hpl : placeF kind K th sh k = (k : Int) - 1 := if_pos hP
                          obtain ⟨st1, st2, st3⟩ := HS.out k (by rw [← HLE.out]; exact hlt) HG.out
                          rw [hpl] at st1 st2 st3
                          have ST := Lib.hid (And.intro st1 (And.intro st2 st3))
                          clear st1 st2 st3 hpl
                          rw [decide_eq_true hP]
                          clear hP
                          go_wp2_with fail
                          refine (at_of k c2).mono ?_
                          rintro e w8 ⟨rfl, c8, hb8⟩
                          have h8 := h2.kept hb8
                          clear h2 c2 hb8
                          go_wp2_with fail
                          refine (is_at_yes _ _ _ _ ((k : Int) - 1) (n.get k).s (n.get k).to _ h8.nt ST.out.1 ST.out.2.1 ST.out.2.2).mono ?_
                          rintro e w9 ⟨rfl, hb9⟩
                          have h9 := h8.kept hb9
                          have c9 := c8.kept hb9
                          clear h8 c8 hb9 ST
                          go_wp2_with fail
                          refine ⟨⟨k + 1, by omega, by go_num, h9, c9⟩, ?_⟩
                          simp only [intOf]; omega
                        · have hpl : placeF kind K th sh k = (k : Int) - sh := if_neg hP
                          obtain ⟨st1, st2, st3⟩ := HS.out k (by rw [← HLE.out]; exact hlt) HG.out
                          rw [hpl] at st1 st2 st3
                          have ST := Lib.hid (And.intro st1 (And.intro st2 st3))
                          clear st1 st2 st3 hpl
                          rw [decide_eq_false hP]
                          clear hP
                          go_wp2_with fail
                          refine (at_of k c2).mono ?_
                          rintro e w8 ⟨rfl, c8, hb8⟩
                          have h8 := h2.kept hb8
                          clear h2 c2 hb8
                          go_wp2_with fail
                          refine (is_at_yes _ _ _ _ ((k : Int) - sh) (n.get k).s (n.get k).to _ h8.nt ST.out.1 ST.out.2.1 ST.out.2.2).mono ?_
                          rintro e w9 ⟨rfl, hb9⟩
                          have h9 := h8.kept hb9
                          have c9 := c8.kept hb9
                          clear h8 c8 hb9 ST
                          go_wp2_with fail
                          refine ⟨⟨k + 1, by omega, by go_num, h9, c9⟩, ?_⟩
                          simp only [intOf]; omega
                  · obtain rfl : k = len := by omega
                    go_wp2_with fail
                    refine hlen'.mono ?_
                    rintro e w7 ⟨rfl, rfl⟩
                    clear hlen'
                    go_wp2_with fail
                    go_ret
                    exact ⟨rfl, then_below hbW c2.below⟩
      · go_wp2_with fail
        clear e1
        refine (new_no m _ (by omega)).mono ?_
        rintro e w2 ⟨rfl, rfl⟩
        go_wp2_with fail
        go_ret
        exact ⟨rfl, hbW⟩
    · have e1 := E.out.2.1
      go_wp2_with fail
      refine (works_any _).mono ?_
      rintro e w2 ⟨rfl, hb2⟩
      go_wp2_with fail
      go_ret
      exact ⟨rfl, then_below hbW hb2⟩
  · clear e0 e1 e2 e3 e4 e5 HT
    go_wp2_with fail
    refine (works_any _).mono ?_
    rintro e w2 ⟨rfl, hb2⟩
    go_wp2_with fail
    go_ret
    exact ⟨rfl, then_below hbW hb2⟩
end Go.Proofs.Ytialfpmfiapepaa
