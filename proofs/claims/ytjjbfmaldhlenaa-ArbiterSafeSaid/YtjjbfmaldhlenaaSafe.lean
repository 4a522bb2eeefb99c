/-
  The walk of the law ArbiterSafe.
-/
import Derived.Test.YtjjbfmaldhlenaaBuild
import Derived.Test.YtjjbfmaldhlenaaEnough
import Derived.Deep.CutBlock
namespace Go.Proofs.Ytjjbfmaldhlenaa
open Go.RowKit
set_option linter.unusedVariables false
set_option linter.unusedSimpArgs false
attribute [local go_sem ↓] Go.wp_at_zero Go.wp_at_succ
theorem upd_self (w : Nat → Asker) (k : Nat) : upd w k (w k) = w := by
  funext j; unfold upd; split
  · next h => rw [h]
  · rfl
theorem new_cells2 (w : World) (o : Obj) (c : Array Value) (t : TypeId) : ∀ j u, c.toList[j]? = some u → ((w.alloc o).alloc (.cells c t)).cell? ((⟨w.heap.size + 1, 0, none⟩ : Addr).add j) = some u := by
  have h := new_cells (w.alloc o) c t
  rwa [show (w.alloc o).heap.size = w.heap.size + 1 by simp] at h
theorem nums_of (what who num : Int) : ∃ m : Nat, m < 1000 ∧ wrap64 ((IntKind.u64.wrap num).tmod 1000) = (m : Int) ∧ m = Ev.m ⟨what, who, num⟩ := by
  have h : IntKind.u64.wrap num = num % 18446744073709551616 := by simp [IntKind.wrap, IntKind.bits, IntKind.signed]
  rw [h]
  have h0 : 0 ≤ num % 18446744073709551616 := by omega
  refine ⟨_, ?_, ?_, rfl⟩
  · simp only [Ev.m]; omega
  · simp only [Ev.m]
    rw [Int.tmod_eq_emod_of_nonneg h0, IntWalk.wrap64_in _ (by omega)]
    omega
set_option maxRecDepth 100000 in
set_option maxHeartbeats 16000000 in
theorem safe_walk (term hold : Int) (oa : Option Addr) (cap : Nat) (l : List Ev) (W : World) (hl : Ev.Holds W (.slice oa l.length cap) l) :
    Calls Try.prog 3 #[.int .i64 term, .int .i64 hold, .slice oa l.length cap] W fun e w' => e = .returned (.bool true) ∧ Below W.heap.size W w' := by
  rcases (show 300 < l.length ∨ (l.length ≤ 300 ∧ term < 1) ∨ (l.length ≤ 300 ∧ 1 ≤ term ∧ 4096 < term) ∨ (l.length ≤ 300 ∧ 1 ≤ term ∧ term ≤ 4096 ∧ hold < 1) ∨ (l.length ≤ 300 ∧ 1 ≤ term ∧ term ≤ 4096 ∧ 1 ≤ hold ∧ 4096 < hold) ∨
      (l.length ≤ 300 ∧ 1 ≤ term ∧ term ≤ 4096 ∧ 1 ≤ hold ∧ hold ≤ 4096) by omega) with hq | ⟨hq, hq1⟩ | ⟨hq, hq1, hq2⟩ | ⟨hq, hq1, hq2, hq3⟩ | ⟨hq, hq1, hq2, hq3, hq4⟩ | ⟨hlen, t1, t2, h1, h2⟩
  rotate_right 1
  · go_enter Try.func3, Try.ntmps3
    go_wp2_with fail
    refine (awake_any _).mono ?_
    rintro e w0 ⟨rfl, hb0⟩
    go_wp2_with fail
    refine (enough_any term hold oa cap l w0 (hl.below hb0) hlen t1 t2 h1 h2).mono ?_
    rintro e w1 ⟨en, rfl, hE, hb1⟩
    have hb1 := then_below hb0 hb1
    cases en
    · go_wp2_with fail
      refine (awake_any _).mono ?_
      rintro e w2 ⟨rfl, hb2⟩
      go_wp2_with fail
      go_ret
      exact ⟨rfl, then_below hb1 hb2⟩
    · have HE := Lib.hid (hE rfl)
      clear hE hb0
      go_wp2_with fail
      refine (new_yes term w1 t1 t2).mono ?_
      rintro e w2 ⟨rfl, hA2, hb2⟩
      have hM : Sw w1.heap.size w2.heap.size (w2.heap.size + 1) (.start term) (.slice none 0 0) (.slice none 0 0) W (w2.alloc (.cells (trio (fun _ => ⟨0, 0, 0, 0, 0⟩)) 31)) := by
        have hlt := hA2.lt
        have hb3 := then_below hb1 hb2
        exact ⟨hA2.alloc _, heap_alloc_new _ _, Frs.nil _ _, Frs.nil _ _, .inl rfl, hb3.alloc hb3.size _, hb1.size, hb3.size, by omega, by omega, by omega, by simp⟩
      have hlt1 := hA2.lt
      generalize w1.heap.size = B at hM hlt1 ⊢
      clear hA2 hb2 hb1
      generalize hNN : w2.heap.size = N at hM hlt1 ⊢
      obtain ⟨i48, z48, hi48, hz48, hs48, hb48, hzs48⟩ := info48
      obtain ⟨P, hP⟩ : ∃ P, P = N + 1 := ⟨_, rfl⟩
      rw [← hP] at hM
      simp only [trio] at hM
      go_wp2_with fail
      go_loopw [10, 11, 12] (fun av tv x wr => ∃ (i : Nat) (p : Play) (q : Nat) (g suf : List Ev), i ≤ l.length ∧ x = .int .i64 i ∧ Sw B N P p av tv W wr ∧ Safe term hold (l.take i) p q g suf) (fun _ _ x _ => l.length - (intOf x).toNat)
      case atStart => exact ⟨0, .start term, 0, [], [], by omega, rfl, hM, Safe.begin term hold h1⟩
      case round =>
        clear hM
        obtain ⟨i, p, q, g, suf, hi, rfl, hM, J⟩ := hrel
        have hpre : (l.take i).length ≤ 300 := by rw [List.length_take]; omega
        have hok := hM.ok J t1 t2 hpre
        by_cases hlt : i < l.length
        · obtain ⟨b, off, rfl, hb, hx, q0, q1, q2⟩ := (hl.below hM.below).at_ hlt
          have HTK : Hid (l.take (i + 1) = l.take i ++ [l[i]]) := Lib.hid (List.take_succ_eq_append_getElem hlt)
          have HEN : Hid (term ≤ ticks suf → hold ≤ owns q suf) := Lib.hid (fun h => HE.out g suf (l.drop i) (by rw [← J.cut, List.take_append_drop]) h q J.hlt)
          generalize l[i] = x at hx q0 q1 q2 HTK
          have hw0 := hx.who0
          have hw1 := hx.who1
          have hwa := hx.what0
          have hwb := hx.what1
          obtain ⟨what, who, num⟩ := x
          simp only at q0 q1 q2 hw0 hw1 hwa hwb
          obtain ⟨k, hk, hwk, hek⟩ : ∃ k : Nat, k < 3 ∧ who % 3 = (k : Int) ∧ k = Ev.k ⟨what, who, num⟩ := ⟨(who % 3).toNat, by omega, by omega, rfl⟩
          obtain ⟨m, hm, hnm, hem⟩ : ∃ m : Nat, m < 1000 ∧ wrap64 ((IntKind.u64.wrap num).tmod 1000) = (m : Int) ∧ m = Ev.m ⟨what, who, num⟩ := nums_of what who num
          have HEK := Lib.hid hek
          have HEM := Lib.hid hem
          clear hek hem hx
          obtain ⟨t0, t1, t2, t3, t4⟩ := hM.trio.reads k hk
          have fz := fun o => hM.trio.free o
          have nl := hM.trio.lt
          have n0 : 0 ≤ (p.w k).now ∧ (p.w k).now ≤ 300 := by have := J.now k hk; have : owns k (l.take i) ≤ 300 := Nat.le_trans (owns_le _ _) hpre; omega
          have n1 := J.last k hk
          have n2 := J.sent k hk
          have n3 := J.tok k hk
          have n4 := J.till0 k hk
          have n6 := J.la
          have n7 := J.lt
          go_upto_block 2 with fail
          go_cut [10, 11, 15, 16, 17, 18, 19, 20, 21] (fun a10 a11 _ _ _ _ _ _ _ wx => ∃ (av tv : Value) (p' : Play) (q' : Nat) (g' suf' : List Ev), av = a10 ∧ tv = a11 ∧ Sw B N P p' av tv W wx ∧ Safe term hold (l.take (i + 1)) p' q' g' suf')
          case first =>
            by_cases hw0 : what = 0
            · as_aux_lemma =>
              subst hw0
              go_wp2_with fail
              refine (tick_any B p.a _ hM.here hok).mono ?_
              rintro e1 w3 ⟨rfl, hA3, hK3⟩
              go_wp2_with fail
              go_meet
              case rel => exact ⟨_, _, _, q, g, _, rfl, rfl, hM.turn _ hA3 hK3, HTK.out ▸ J.tick (e := ⟨0, who, num⟩) rfl⟩
            · by_cases hw1 : what = 1
              · as_aux_lemma =>
                subst hw1
                go_wp2_with fail
                refine (start_any B p.a _ hM.here).mono ?_
                rintro e1 w3 ⟨rfl, hA3, hK3⟩
                go_wp2_with fail
                go_meet
                case rel => exact ⟨_, _, _, q, g, _, rfl, rfl, hM.turn _ hA3 hK3, HTK.out ▸ J.restart (e := ⟨1, who, num⟩) rfl⟩
              · by_cases hw2 : what = 2
                · as_aux_lemma =>
                  subst hw2
                  go_wp2_with fail
                  go_meet
                  case rel => exact ⟨_, _, _, q, g, _, rfl, rfl, hM.now k hk, HTK.out ▸ HEK.out ▸ J.own (e := ⟨2, who, num⟩) rfl⟩
                · by_cases hw3 : what = 3
                  · skip
                    subst hw3
                    clear t3
                    go_upto_region 29 with fail
                    go_cut [14] (fun v wx => v = .pointer (some ⟨N, k * 5, none⟩) ∧ Sw B N P { p with w := upd p.w k (p.w k).send } u10 u11 W wx)
                    case first =>
                      go_wp2_with fail
                      go_meet
                      case rel => exact ⟨rfl, hM.send k hk⟩
                    case rest =>
                      clear t0 t1 t2 t4
                      obtain ⟨rfl, hM2⟩ := hcut
                      obtain ⟨t0, t1, t2, t3, t4⟩ := hM2.trio.reads k hk
                      rw [show (({ p with w := upd p.w k (p.w k).send } : Play).w k) = (p.w k).send from upd_same _ _ _] at t0 t1 t2 t3 t4
                      simp only [Asker.send] at t0 t1 t2 t3 t4
                      have nl := hM2.trio.lt
                      go_upto_region 30 with fail
                      go_cut [15, 16] (fun v15 v wx => v15 = .int .i64 m ∧ ∃ (w2 : World) (f : Nat), v = .pointer (some ⟨f, 0, none⟩) ∧ Sw B N P { p with w := upd p.w k (p.w k).send } u10 u11 W w2 ∧ w2.heap.size ≤ f ∧ Below w2.heap.size w2 wx ∧ wx.heap[f]? = some (.cells (Fr.cells ⟨9, k + 1, 1, 0, 0, (p.w k).last + 1, 0⟩) 48 (0, 0)))
                      case first =>
                        have hkw : IntKind.i64.wrap ((k : Int) + 1) = (k : Int) + 1 := IntWalk.i64_in _ (by omega)
                        clear t0 t2 t3 t4
                        have HM2 := Lib.hid hM2
                        clear hM2
                        refine wp_region_any (by as_aux_lemma => kernel_rfl) ?_
                        try (change wpAny _ _ _ _ _ _ _ (World.drew _))
                        refine wpAny_take (i := 0) (v := ?_) rfl (by as_aux_lemma => kernel_rfl) (by as_aux_lemma => kernel_rfl) (by as_aux_lemma => kernel_rfl) (fun _ _ _ h => h) (Or.inl ⟨by rfl, ?_⟩) ?_
                        rotate_left
                        · (intro w; go_simp) <;> with_reducible rfl
                        refine wpAny_take (i := 1) (v := ?_) rfl (by as_aux_lemma => kernel_rfl) (by as_aux_lemma => kernel_rfl) (by as_aux_lemma => kernel_rfl) (fun _ _ _ h => h) (Or.inl ⟨by rfl, ?_⟩) ?_
                        rotate_left
                        · (intro w; go_simp) <;> with_reducible rfl
                        refine wpAny_take (i := 3) (v := ?_) rfl (by as_aux_lemma => kernel_rfl) (by as_aux_lemma => kernel_rfl) (by as_aux_lemma => kernel_rfl) (fun _ _ _ h => h) (Or.inl ⟨by rfl, ?_⟩) ?_
                        rotate_left
                        · (intro w; go_simp) <;> with_reducible rfl
                        refine wpAny_take (i := 4) (v := ?_) rfl (by as_aux_lemma => kernel_rfl) (by as_aux_lemma => kernel_rfl) (by as_aux_lemma => kernel_rfl) (fun _ _ _ h => h) (Or.inl ⟨by rfl, ?_⟩) ?_
                        rotate_left
                        · (intro w; go_simp) <;> with_reducible rfl
                        refine wpAny_take (i := 5) (v := ?_) rfl (by as_aux_lemma => kernel_rfl) (by as_aux_lemma => kernel_rfl) (by as_aux_lemma => kernel_rfl) (fun _ _ _ h => h) (Or.inl ⟨by rfl, ?_⟩) ?_
                        rotate_left
                        · (intro w; go_simp) <;> with_reducible rfl
                        have t1 : wc.drew.cell? ⟨N, k * 5 + 1, none⟩ = some (.int .i64 ((p.w k).last + 1)) := t1
                        have nl : N < wc.drew.heap.size := nl
                        refine wpAny_of_till (S := fun x => x.cell? ⟨N, k * 5 + 1, none⟩ = some (.int .i64 ((p.w k).last + 1))) (k := 9) _ _ _ _ ?_
                        have hS : (fun x : World => x.cell? ⟨N, k * 5 + 1, none⟩ = some (.int .i64 ((p.w k).last + 1))) _ := t1
                        refine wpTill_take (i := 6) (v := .int .i64 ((p.w k).last + 1)) rfl (by as_aux_lemma => kernel_rfl) (by as_aux_lemma => kernel_rfl) (by as_aux_lemma => kernel_rfl) (by as_aux_lemma => kernel_rfl) (fun _ _ _ h => h) (Or.inl ⟨by rfl, ?_⟩) hS ?_
                        · intro w hSw; (try dsimp only at hSw); go_simp
                        try simp only [Act.put, List.setIfInBounds_toArray, List.set_cons_zero, List.set_cons_succ]
                        refine wpTill_two (i := 2) (j := 8) (by as_aux_lemma => kernel_rfl) rfl rfl (by as_aux_lemma => kernel_rfl) (fun K hK => ?_) (fun K hK => ?_)
                        · go_simp
                          refine (at_any _ _).mono ?_
                          rintro e w9 ⟨rfl, hb9⟩
                          have hbD : Below wc.drew.heap.size wc.drew w9 := hb9
                          have t1 : w9.cell? ⟨N, k * 5 + 1, none⟩ = some (.int .i64 ((p.w k).last + 1)) := (hbD.cell (p := ⟨N, k * 5 + 1, none⟩) nl).trans t1
                          have nl9 := Nat.lt_of_lt_of_le nl hbD.size
                          have HBD := Lib.hid hbD
                          clear hb9 hbD hS
                          have hS : (fun x : World => x.cell? ⟨N, k * 5 + 1, none⟩ = some (.int .i64 ((p.w k).last + 1))) w9 := t1
                          go_wp2_with fail
                          refine hK.out _ _ hS ?_; clear hK K
                          try simp only [Act.put, List.setIfInBounds_toArray, List.set_cons_zero, List.set_cons_succ]
                          refine wpTill_take (i := 7) (v := ?_) rfl (by as_aux_lemma => kernel_rfl) (by as_aux_lemma => kernel_rfl) (by as_aux_lemma => kernel_rfl) (by as_aux_lemma => kernel_rfl) (fun _ _ _ h => h) (Or.inl ⟨by rfl, ?_⟩) hS ?_
                          rotate_left
                          · (intro w hSw; go_simp) <;> with_reducible rfl
                          try simp only [Act.put, List.setIfInBounds_toArray, List.set_cons_zero, List.set_cons_succ]
                          refine wpTill_one (i := 8) (by as_aux_lemma => kernel_rfl) rfl (by as_aux_lemma => kernel_rfl) (fun K hK => ?_)
                          go_simp
                          clear hS
                          have hS : (fun x : World => x.cell? ⟨N, k * 5 + 1, none⟩ = some (.int .i64 ((p.w k).last + 1))) (w9.alloc (.cells Fr.zero.cells 48)) := ((((Below.refl w9.heap.size w9).alloc (Nat.le_refl _) _).cell (p := ⟨N, k * 5 + 1, none⟩) nl9)).trans t1
                          refine hK.out _ _ hS ?_; clear hK K
                          try simp only [Act.put, List.setIfInBounds_toArray, List.set_cons_zero, List.set_cons_succ]
                          refine wpTill_end (by as_aux_lemma => kernel_rfl) rfl (fun K hK => ?_)
                          go_simp
                          refine hK.out _ _ ?_; clear hK K
                          refine wpAny_done (by as_aux_lemma => kernel_rfl) ?_ _
                          go_simp
                          go_wp2_with fail
                          go_meet
                          case rel => exact ⟨rfl, wc, w9.heap.size, rfl, HM2.out, HBD.out.size, (below_undrew HBD.out).alloc HBD.out.size _, heap_alloc_new _ _⟩
                        · go_simp
                          clear hS
                          have hS : (fun x : World => x.cell? ⟨N, k * 5 + 1, none⟩ = some (.int .i64 ((p.w k).last + 1))) (wc.drew.alloc (.cells Fr.zero.cells 48)) := ((((Below.refl wc.drew.heap.size wc.drew).alloc (Nat.le_refl _) _).cell (p := ⟨N, k * 5 + 1, none⟩) nl)).trans t1
                          refine hK.out _ _ hS ?_; clear hK K
                          try simp only [Act.put, List.setIfInBounds_toArray, List.set_cons_zero, List.set_cons_succ]
                          refine wpTill_one (i := 2) (by as_aux_lemma => kernel_rfl) rfl (by as_aux_lemma => kernel_rfl) (fun K hK => ?_)
                          go_simp
                          refine (at_any _ _).mono ?_
                          rintro e w9 ⟨rfl, hb9⟩
                          have hf9 : w9.heap[wc.heap.size]? = some (.cells Fr.zero.cells 48 (0, 0)) := (hb9.block _ (by simp)).trans (heap_alloc_new wc.drew _)
                          have hbD : Below wc.drew.heap.size wc.drew w9 := ((Below.refl _ _).alloc (Nat.le_refl _) _).trans (hb9.mono (by simp))
                          have t1 : w9.cell? ⟨N, k * 5 + 1, none⟩ = some (.int .i64 ((p.w k).last + 1)) := (hbD.cell (p := ⟨N, k * 5 + 1, none⟩) nl).trans t1
                          have HBD := Lib.hid hbD
                          have HF9 := Lib.hid hf9
                          obtain ⟨b0, b1, b2, b3, b4, b5, b6, b7, b8, b9, b10, b11, b12, b13⟩ := Fr.reads hf9
                          have fz9 := fun o => frozen_of_row w9 wc.heap.size o _ _ hf9
                          clear hb9 hbD hf9 hS
                          have hS : (fun x : World => x.cell? ⟨N, k * 5 + 1, none⟩ = some (.int .i64 ((p.w k).last + 1))) w9 := t1
                          go_wp2_with fail
                          refine hK.out _ _ hS ?_; clear hK K
                          try simp only [Act.put, List.setIfInBounds_toArray, List.set_cons_zero, List.set_cons_succ]
                          refine wpTill_take (i := 7) (v := ?_) rfl (by as_aux_lemma => kernel_rfl) (by as_aux_lemma => kernel_rfl) (by as_aux_lemma => kernel_rfl) (by as_aux_lemma => kernel_rfl) (fun _ _ _ h => h) (Or.inl ⟨by rfl, ?_⟩) hS ?_
                          rotate_left
                          · (intro w hSw; go_simp) <;> with_reducible rfl
                          try simp only [Act.put, List.setIfInBounds_toArray, List.set_cons_zero, List.set_cons_succ]
                          refine wpTill_end (by as_aux_lemma => kernel_rfl) rfl (fun K hK => ?_)
                          go_simp
                          refine hK.out _ _ ?_; clear hK K
                          refine wpAny_done (by as_aux_lemma => kernel_rfl) ?_ _
                          go_simp
                          have q9 := HF9.out
                          have hl1 := lay14_below wc.heap.size ⟨9, k + 1, 1, 0, 0, (p.w k).last + 1, 0⟩ (below_undrew HBD.out) (Nat.le_refl _)
                          have hl2 := lay14 w9 wc.heap.size ⟨9, k + 1, 1, 0, 0, (p.w k).last + 1, 0⟩ q9
                          clear b2 b3 b4 b5 b6 b7 b8 b9 b10 b11 b12 b13 fz9 q9
                          simp only at hl1 hl2
                          generalize ((((((((((((((w9.setCell ⟨wc.heap.size, 0, none⟩ (.int .u8 9)).setCell ⟨wc.heap.size, 1, none⟩ (.int .i64 (k + 1))).setCell ⟨wc.heap.size, 2, none⟩ (.int .i64 1)).setCell ⟨wc.heap.size, 3, none⟩ (.int .i64 0)).setCell ⟨wc.heap.size, 4, none⟩ (.int .i64 0)).setCell ⟨wc.heap.size, 5, none⟩ (.int .i64 ((p.w k).last + 1))).setCell ⟨wc.heap.size, 6, none⟩ (.int .i64 0)).setCell ⟨wc.heap.size, 7, none⟩ (.int .i64 0)).setCell ⟨wc.heap.size, 8, none⟩ (.int .i64 0)).setCell ⟨wc.heap.size, 9, none⟩ (.slice none 0 0)).setCell ⟨wc.heap.size, 10, none⟩ (.slice none 0 0)).setCell ⟨wc.heap.size, 11, none⟩ (.slice none 0 0)).setCell ⟨wc.heap.size, 12, none⟩ (.slice none 0 0)).setCell ⟨wc.heap.size, 13, none⟩ (.slice none 0 0)) = wx at hl1 hl2 ⊢
                          clear HF9 HBD b0 b1
                          go_wp2_with fail
                          go_meet
                          case rel => exact ⟨rfl, wc, wc.heap.size, rfl, HM2.out, Nat.le_refl _, hl1, hl2⟩
                      case rest =>
                        obtain ⟨rfl, w2, f, rfl, hM3, hf1, hb3, hf3⟩ := hcut
                        have hX := hM3.kept hb3
                        obtain ⟨t0, t1, t2, t3, t4⟩ := hX.trio.reads k hk
                        rw [show (({ p with w := upd p.w k (p.w k).send } : Play).w k) = (p.w k).send from upd_same _ _ _] at t0 t1 t2 t3 t4
                        simp only [Asker.send] at t0 t1 t2 t3 t4
                        clear t0 t1 t2 t3
                        have nl := hX.trio.lt
                        have H3 := Lib.hid (And.intro hb3 hf3)
                        clear hb3 hf3 hX
                        go_upto_region 31 with fail
                        go_cut [182] (fun v wx => ∃ bt : Bool, v = .bool bt ∧ Hid (bt = (decide (0 < (p.w k).token) && ((m : Int) % 2 == 1))) ∧ Hid (Below w2.heap.size w2 wx ∧ wx.heap[f]? = some (.cells (Fr.cells ⟨9, (k : Int) + 1, 1, 0, 0, (p.w k).last + 1, 0⟩) 48 (0, 0))))
                        case first => as_aux_lemma =>
                          by_cases h0 : 0 < (p.w k).token
                          · go_wp2_with fail
                            go_meet
                            case rel => exact ⟨_, rfl, Lib.hid (by simp [h0]), H3⟩
                          · go_wp2_with fail
                            go_meet
                            case rel => exact ⟨false, rfl, Lib.hid (by rw [decide_eq_false (show ¬ 0 < (p.w k).token by omega)]; rfl), H3⟩
                        case rest =>
                          clear H3 t4 nl
                          obtain ⟨bt, rfl, hbt, H3⟩ := hcut
                          go_upto_if 182 with fail
                          go_cut [16] (fun v wx => v = .pointer (some ⟨f, 0, none⟩) ∧ Hid (Below w2.heap.size w2 wx ∧ wx.heap[f]? = some (.cells (Fr.cells ((p.w k).asks k (m % 2 == 1))) 48 (0, 0))))
                          case first => as_aux_lemma =>
                            cases bt
                            · have HA : (p.w k).asks k (m % 2 == 1) = ⟨9, (k : Int) + 1, 1, 0, 0, (p.w k).last + 1, 0⟩ := by
                                have h := hbt.out
                                by_cases h0 : 0 < (p.w k).token
                                · have : m % 2 ≠ 1 := by
                                    intro e
                                    simp [h0] at h
                                    omega
                                  simp [Asker.asks, this]
                                · simp [Asker.asks, h0]
                              have H4 : Hid (Below w2.heap.size w2 wc ∧ wc.heap[f]? = some (.cells (Fr.cells ((p.w k).asks k (m % 2 == 1))) 48 (0, 0))) := Lib.hid (by rw [HA]; exact H3.out)
                              clear HA H3 hbt
                              go_wp2_with fail
                              go_meet
                              case rel => exact ⟨rfl, H4⟩
                            · have HA : (p.w k).asks k (m % 2 == 1) = ⟨10, (k : Int) + 1, 1, 0, 0, (p.w k).last + 1, (p.w k).token⟩ := by
                                have h := hbt.out
                                simp at h
                                have : m % 2 = 1 := by omega
                                simp [Asker.asks, h.1, this]
                              have hX := hM3.kept H3.out.1
                              obtain ⟨t0, t1, t2, t3, t4⟩ := hX.trio.reads k hk
                              rw [show (({ p with w := upd p.w k (p.w k).send } : Play).w k) = (p.w k).send from upd_same _ _ _] at t0 t1 t2 t3 t4
                              simp only [Asker.send] at t0 t1 t2 t3 t4
                              clear t0 t1 t2 t3
                              have nl := hX.trio.lt
                              have hf3 := H3.out.2
                              have fl : f < wc.heap.size := (Array.getElem?_eq_some_iff.1 hf3).1
                              obtain ⟨b0, b1, b2, b3, b4, b5, b6, b7, b8, b9, b10, b11, b12, b13⟩ := Fr.reads hf3
                              simp only at b0 b1 b2 b3 b4 b5 b6
                              have ff := fun o => frozen_of_row wc f o _ _ hf3
                              have H4 : Hid (Below w2.heap.size w2 ((wc.setCell ⟨f, 0, none⟩ (.int .u8 10)).setCell ⟨f, 6, none⟩ (.int .i64 (p.w k).token)) ∧ ((wc.setCell ⟨f, 0, none⟩ (.int .u8 10)).setCell ⟨f, 6, none⟩ (.int .i64 (p.w k).token)).heap[f]? = some (.cells (Fr.cells ((p.w k).asks k (m % 2 == 1))) 48 (0, 0))) := Lib.hid ⟨(H3.out.1.setCell (p := ⟨f, 0, none⟩) hf1 _).setCell (p := ⟨f, 6, none⟩) hf1 _, by
                                rw [HA, heap_setCell_same _ _ _ _ _ _ (heap_setCell_same _ _ _ _ _ _ hf3)]; rfl⟩
                              clear HA H3 hbt hX hf3
                              go_wp2_with fail
                              go_region
                              all_goals
                                go_wp2_with fail
                                go_meet
                                case rel => exact ⟨rfl, Lib.hid ⟨⟨H4.out.1.os, H4.out.1.tape, H4.out.1.output, H4.out.1.size, H4.out.1.block⟩, H4.out.2⟩⟩
                          case rest => as_aux_lemma =>
                            clear H3 hbt bt
                            obtain ⟨rfl, H4⟩ := hcut
                            obtain ⟨hb3, hf3⟩ := H4.out
                            clear H4
                            have hX := hM3.kept hb3
                            have nl := hX.trio.lt
                            have fl : f < wc.heap.size := (Array.getElem?_eq_some_iff.1 hf3).1
                            obtain ⟨FR, HF⟩ : ∃ FR, Hid ((p.w k).asks k (m % 2 == 1) = FR) := ⟨_, Lib.hid rfl⟩
                            rw [HF.out] at hf3
                            obtain ⟨kind, fa, fi, ta, ti, n, token⟩ := FR
                            obtain ⟨b0, b1, b2, b3, b4, b5, b6, b7, b8, b9, b10, b11, b12, b13⟩ := Fr.reads hf3
                            simp only at b0 b1 b2 b3 b4 b5 b6
                            have ff := fun o => frozen_of_row wc f o _ _ hf3
                            have HC3 : p.asked.length + 1 ≤ maxLen := by unfold maxLen; omega
                            have HC4 : (p.asked.length + 1) * i48.bytes ≤ 140737488355328 := by
                              have := Nat.mul_le_mul (show p.asked.length + 1 ≤ 301 by omega) hb48
                              omega
                            have HC5 : P ≤ (wc.alloc (.cells (Fr.cells ⟨kind, fa, fi, ta, ti, n, token⟩) 48)).heap.size := by
                              have := hX.lp
                              simp; omega
                            clear hf3
                            go_wp2_with (first | (refine wpList_build48 ⟨kind, fa, fi, ta, ti, n, token⟩ rfl (.tmp 190) rfl rfl ?_) | (at_builtin; (refine wpList_append_own_at _ rfl _ _ 32 rfl P 48 i48 z48 14 i48.bytes Try.underlying32 hi48 hz48 hs48 rfl hzs48 (by decide) u10 p.asked.length (rows p.asked) rfl (hX.alloc _).asked ⟨_, 0, none⟩ 1 1 (Fr.cells ⟨kind, fa, fi, ta, ti, n, token⟩).toList rfl rfl (new_cells _ _ _) (Fr.one _) HC3 HC4 HC5 ?_); intro av' w5 hown5 hgrow5 hn5 hat5; clear hn5) | fail)
                            have hSw := Sw.quests (hX.alloc _) ⟨kind, fa, fi, ta, ti, n, token⟩ hown5 hgrow5 hat5
                            have hSf : Hid (∃ suf2, Safe term hold (l.take (i + 1)) { p with w := upd p.w k (p.w k).send, asked := p.asked ++ [⟨kind, fa, fi, ta, ti, n, token⟩] } q g suf2) := Lib.hid (by
                              have h := J.ask (e := ⟨3, who, num⟩) rfl
                              rw [← HEK.out, ← HEM.out, HF.out] at h
                              rw [HTK.out]
                              exact ⟨_, h⟩)
                            obtain ⟨suf2, hSf⟩ := hSf.out
                            clear hown5 hgrow5 hat5 HC3 HC4 HC5 hX hM
                            go_meet
                            case rel => exact ⟨_, _, _, q, g, _, rfl, rfl, hSw, hSf⟩
                  · by_cases hw4 : what = 4
                    · as_aux_lemma =>
                      subst hw4
                      clear t0 t1 t2 t3 t4 fz nl
                      by_cases hz : p.asked.length = 0
                      · have HZ := Lib.hid hz
                        rcases hM.asked.shape with ⟨rfl, -⟩ | ⟨g1, cap1, rfl, -, -⟩
                        · go_wp2_with fail
                          go_meet
                          case rel => exact ⟨_, _, _, q, g, _, rfl, rfl, hM, HTK.out ▸ J.idle (e := ⟨4, who, num⟩) (show (3 : Int) ≤ 4 by decide)⟩
                        · rw [hz] at hM ⊢
                          go_wp2_with fail
                          go_meet
                          case rel => exact ⟨_, _, _, q, g, _, rfl, rfl, hM, HTK.out ▸ J.idle (e := ⟨4, who, num⟩) (show (3 : Int) ≤ 4 by decide)⟩
                      · obtain ⟨g1, cap1, rfl, hg1, hg2⟩ : ∃ g1 cap1, u10 = .slice (some ⟨g1, 0, none⟩) p.asked.length cap1 ∧ P ≤ g1 ∧ g1 < wr.heap.size := by
                          rcases hM.asked.shape with ⟨-, h⟩ | h
                          · rw [h] at hz; exact absurd rfl hz
                          · exact h
                        have hj : m % p.asked.length < p.asked.length := Nat.mod_lt _ (by omega)
                        have hmod : ((m : Int)).tmod (p.asked.length : Int) = ((m % p.asked.length : Nat) : Int) := by rw [Int.tmod_eq_emod_of_nonneg (by omega)]; simp
                        obtain ⟨a0, a1, a2, a3, a4, a5, a6, a7, a8, a9, a10, a11, a12, a13⟩ := hM.asked.at_ _ hj
                        have hfm := List.getElem_mem hj
                        obtain ⟨hE0, hE1, h', g', suf', hS'⟩ := J.put (e := ⟨4, who, num⟩) rfl h1 (by omega) hfm HEN.out
                        obtain ⟨-, -, -, -, -, -, hkd⟩ := J.asked _ hfm
                        generalize p.asked[m % p.asked.length] = f at a0 a1 a2 a3 a4 a5 a6 hE0 hE1 hS' hkd
                        generalize m % p.asked.length = j at hj hmod a0 a1 a2 a3 a4 a5 a6 a7 a8 a9 a10 a11 a12 a13
                        have HS := Lib.hid hS'
                        clear hS' hfm
                        go_wp2_with fail
                        refine (take_any B p.a f _ hM.here hok (by omega) (by omega)).mono ?_
                        rintro e1 w3 ⟨rfl, hA3, hK3⟩
                        have hM3 := hM.turn _ hA3 hK3
                        have HSS := HS.out
                        clear hA3 hK3 HS a0 a1 a2 a3 a4 a5 a6 a7 a8 a9 a10 a11 a12 a13
                        generalize p.a.take f = r at hE0 hE1 hM3 HSS
                        obtain ⟨st, fr, is, err⟩ := r
                        simp only at hE0 hE1
                        subst hE0 hE1
                        obtain ⟨kind, fa, fi, ta, ti, n, token⟩ := fr
                        have HS := Lib.hid HSS
                        clear HSS
                        simp only [Ans.val, Fr.val, Fr.cells]
                        have HC3 : p.told.length + 1 ≤ maxLen := by unfold maxLen; omega
                        have HC4 : (p.told.length + 1) * i48.bytes ≤ 140737488355328 := by
                          have := Nat.mul_le_mul (show p.told.length + 1 ≤ 301 by omega) hb48
                          omega
                        have HC5 : P ≤ ((w3.alloc (.cells (Fr.cells ⟨kind, fa, fi, ta, ti, n, token⟩) 48)).alloc (.cells (Fr.cells ⟨kind, fa, fi, ta, ti, n, token⟩) 48)).heap.size := by
                          have := hM3.lp
                          simp; omega
                        clear hkd hmod hj
                        go_wp2_with (first | (refine wpList_build48 ⟨kind, fa, fi, ta, ti, n, token⟩ rfl (.tmp 215) rfl rfl ?_) | (at_builtin;  (first | (refine wpList_append_own_at _ rfl _ _ 32 rfl P 48 i48 z48 14 i48.bytes Try.underlying32 hi48 hz48 hs48 rfl hzs48 (by decide) u11 p.told.length (rows p.told) rfl ((hM3.alloc _).alloc _).told ⟨_, 0, none⟩ 1 1 (Fr.cells ⟨kind, fa, fi, ta, ti, n, token⟩).toList rfl rfl (new_cells _ _ _) (Fr.one _) HC3 HC4 HC5 ?_) | (refine wpList_append_own_at _ rfl _ _ 32 rfl P 48 i48 z48 14 i48.bytes Try.underlying32 hi48 hz48 hs48 rfl hzs48 (by decide) u11 p.told.length (rows p.told) rfl ((hM3.alloc _).alloc _).told ⟨w3.heap.size + 1, 0, none⟩ 1 1 (Fr.cells ⟨kind, fa, fi, ta, ti, n, token⟩).toList rfl rfl (new_cells2 _ _ _ _) (Fr.one _) HC3 HC4 HC5 ?_)); intro tv' w5 hown5 hgrow5 hn5 hat5; clear hn5) | fail)
                        have hSw : Sw B N P ⟨st, p.w, p.asked, p.told ++ [⟨kind, fa, fi, ta, ti, n, token⟩]⟩ (.slice (some ⟨g1, 0, none⟩) p.asked.length cap1) tv' W w5 := Sw.tells ((hM3.alloc _).alloc _) ⟨kind, fa, fi, ta, ti, n, token⟩ hown5 hgrow5 hat5
                        have hSf : Safe term hold (l.take (i + 1)) ⟨st, p.w, p.asked, p.told ++ [⟨kind, fa, fi, ta, ti, n, token⟩]⟩ h' g' suf' := by rw [HTK.out]; exact HS.out
                        clear hown5 hgrow5 hat5 HC3 HC4 HC5 HS hM3 hM
                        go_meet
                        case rel => exact ⟨_, _, _, h', g', suf', rfl, rfl, hSw, hSf⟩
                    · as_aux_lemma =>
                      clear t0 t1 t2 t3 t4
                      by_cases hz : p.told.length = 0
                      · rcases hM.told.shape with ⟨rfl, -⟩ | ⟨g1, cap1, rfl, -, -⟩
                        · go_wp2_with fail
                          refine ⟨⟨i + 1, p, q, g, _, by omega, by go_num, hM, HTK.out ▸ J.idle (e := ⟨what, who, num⟩) (by simp only; omega)⟩, ?_⟩
                          simp only [intOf]; omega
                        · rw [hz] at hM ⊢
                          go_wp2_with fail
                          refine ⟨⟨i + 1, p, q, g, _, by omega, by go_num, hM, HTK.out ▸ J.idle (e := ⟨what, who, num⟩) (by simp only; omega)⟩, ?_⟩
                          simp only [intOf]; omega
                      · obtain ⟨g1, cap1, rfl, hg1, hg2⟩ : ∃ g1 cap1, u11 = .slice (some ⟨g1, 0, none⟩) p.told.length cap1 ∧ P ≤ g1 ∧ g1 < wr.heap.size := by
                          rcases hM.told.shape with ⟨-, h⟩ | h
                          · rw [h] at hz; exact absurd rfl hz
                          · exact h
                        have hj : m % p.told.length < p.told.length := Nat.mod_lt _ (by omega)
                        have hmod : ((m : Int)).tmod (p.told.length : Int) = ((m % p.told.length : Nat) : Int) := by rw [Int.tmod_eq_emod_of_nonneg (by omega)]; simp
                        obtain ⟨a0, a1, a2, a3, a4, a5, a6, a7, a8, a9, a10, a11, a12, a13⟩ := hM.told.at_ _ hj
                        have hfm := List.getElem_mem hj
                        obtain ⟨hk3, hta, hS'⟩ := J.hear (e := ⟨what, who, num⟩) h1 (by simp only; omega) hfm
                        generalize p.told[m % p.told.length] = f at a0 a1 a2 a3 a4 a5 a6 hk3 hta hS'
                        generalize m % p.told.length = j at hj hmod a0 a1 a2 a3 a4 a5 a6 a7 a8 a9 a10 a11 a12 a13
                        generalize (f.ta - 1).toNat = k3 at hk3 hta hS'
                        have HS := Lib.hid hS'
                        clear hS' hfm
                        obtain ⟨kind, fa, fi, ta, ti, n, token⟩ := f
                        simp only at hta a0 a1 a2 a3 a4 a5 a6
                        subst hta
                        obtain ⟨-, t1, t2, t3, t4⟩ := hM.trio.reads k3 hk3
                        have o0 : 0 ≤ (p.w k3).sent ∧ (p.w k3).sent ≤ 300 := by have := J.now k3 hk3; have : owns k3 (l.take i) ≤ 300 := Nat.le_trans (owns_le _ _) hpre; have := J.sent k3 hk3; omega
                        by_cases h12 : kind = 12
                        · subst h12
                          by_cases hn : n = (p.w k3).last
                          · subst hn
                            have HX : Hid ((p.w k3).hear hold ⟨12, fa, fi, (k3 : Int) + 1, ti, (p.w k3).last, token⟩ = { p.w k3 with till := (p.w k3).sent + hold, token := token }) := Lib.hid (by simp [Asker.hear])
                            have fz2 := (hM.alloc (.cells (Fr.cells ⟨12, fa, fi, (k3 : Int) + 1, ti, (p.w k3).last, token⟩) 48)).trio.free
                            simp only [Fr.cells] at fz2
                            go_wp2_with fail
                            go_region
                            go_wp2_with fail
                            go_region
                            all_goals
                              go_wp2_with fail
                              go_meet
                              case rel => first
                                | exact ⟨_, _, _, q, g, _, rfl, rfl, (((hM.heard k3 hk3 _ _).alloc _).drew).drew, HTK.out ▸ HX.out ▸ HS.out⟩
                                | exact ⟨_, _, _, q, g, _, rfl, rfl, (((hM.alloc _).drew.heard k3 hk3 _ _).drew), HTK.out ▸ HX.out ▸ HS.out⟩
                                | exact ⟨_, _, _, q, g, _, rfl, rfl, ((hM.alloc _).heard k3 hk3 _ _).drewN 2, HTK.out ▸ HX.out ▸ HS.out⟩
                          · have hnb : (n == (p.w k3).last) = false := by simpa using hn
                            have HX : Hid ((p.w k3).hear hold ⟨12, fa, fi, (k3 : Int) + 1, ti, n, token⟩ = p.w k3) := Lib.hid (by simp [Asker.hear, hn])
                            clear hn
                            go_wp2_with fail
                            go_region
                            all_goals
                              go_wp2_with fail
                              go_meet
                              case rel => exact ⟨_, _, _, q, g, _, rfl, rfl, (hM.alloc _).drew, by have := HS.out; rw [HX.out, upd_self] at this; exact HTK.out ▸ this⟩
                        · have h12b : (kind == 12) = false := by simpa using h12
                          have HX : Hid ((p.w k3).hear hold ⟨kind, fa, fi, (k3 : Int) + 1, ti, n, token⟩ = p.w k3) := Lib.hid (by simp [Asker.hear, h12])
                          clear h12
                          go_wp2_with fail
                          go_region
                          all_goals
                            go_wp2_with fail
                            go_meet
                            case rel => exact ⟨_, _, _, q, g, _, rfl, rfl, (hM.alloc _).drew, by have := HS.out; rw [HX.out, upd_self] at this; exact HTK.out ▸ this⟩
          case rest => as_aux_lemma =>
            obtain ⟨av', tv', p', q', g', suf', rfl, rfl, hM', J'⟩ := hcut
            clear t0 t1 t2 t3 t4
            have hone := fun a b => J'.one (j := a) (k := b)
            have HJ := Lib.hid J'
            clear J'
            go_wp2_with fail
            go_loopw [22, 23] (fun c y wy => ∃ (k2 : Nat) (c2 : Int), k2 ≤ 3 ∧ y = .int .i64 k2 ∧ c = .int .i64 c2 ∧ Sw B N P p' av' tv' W wy ∧ (c2 = 0 ∨ (c2 = 1 ∧ ∃ a, a < k2 ∧ (p'.w a).now < (p'.w a).till))) (fun _ y _ => 3 - (intOf y).toNat)
            case atStart => exact ⟨0, 0, by omega, rfl, rfl, hM', .inl rfl⟩
            case round =>
              clear hM'
              obtain ⟨k2, c2, hk2, rfl, rfl, hM', hc2⟩ := hrel
              by_cases hlt2 : k2 < 3
              · obtain ⟨t0, -, -, t3, -⟩ := hM'.trio.reads k2 hlt2
                have HM := Lib.hid hM'
                by_cases hlive : (p'.w k2).now < (p'.w k2).till
                · have hc0 : c2 = 0 := by
                    rcases hc2 with e | ⟨-, a, ha, hla⟩
                    · exact e
                    · have := hone a k2 (by omega) hlt2 hla hlive; omega
                  subst hc0
                  clear hone hc2
                  have HL := Lib.hid hlive
                  generalize (p'.w k2).now = x0 at t0 hlive
                  generalize (p'.w k2).till = x3 at t3 hlive
                  go_wp2_with fail
                  go_region
                  go_wp2_with fail
                  go_roundw
                  case rel => exact ⟨k2 + 1, 1, by omega, by go_num, rfl, HM.out.drew, .inr ⟨rfl, k2, by omega, HL.out⟩⟩
                  case measure => simp only [intOf]; omega
                · have HC : Hid (c2 = 0 ∨ (c2 = 1 ∧ ∃ a, a < k2 + 1 ∧ (p'.w a).now < (p'.w a).till)) := Lib.hid (by
                    rcases hc2 with e | ⟨e, a, ha, hla⟩
                    · exact .inl e
                    · exact .inr ⟨e, a, by omega, hla⟩)
                  clear hone hc2
                  generalize (p'.w k2).now = x0 at t0 hlive
                  generalize (p'.w k2).till = x3 at t3 hlive
                  go_wp2_with fail
                  go_region
                  go_wp2_with fail
                  go_roundw
                  case rel => exact ⟨k2 + 1, c2, by omega, by go_num, rfl, HM.out.drew, HC.out⟩
                  case measure => simp only [intOf]; omega
              · have hle : c2 ≤ 1 := by omega
                clear hone hc2
                have HM := Lib.hid hM'
                clear hM'
                go_wp2_with fail
                go_roundw
                case rel => exact ⟨i + 1, p', q', g', suf', by omega, by go_num, HM.out, HJ.out⟩
                case measure => simp only [intOf]; omega
        · clear J
          go_wp2_with fail
          go_ret
          exact ⟨rfl, hM.below⟩
  all_goals
    go_enter Try.func3, Try.ntmps3
    go_wp2_with fail
    refine (awake_any _).mono ?_
    rintro e w0 ⟨rfl, hb0⟩
    go_wp2_with fail
    go_ret
    exact ⟨rfl, hb0⟩
end Go.Proofs.Ytjjbfmaldhlenaa
