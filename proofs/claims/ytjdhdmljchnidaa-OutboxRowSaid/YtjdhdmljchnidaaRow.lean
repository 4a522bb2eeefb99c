/-
  The walk of the law OutboxRow.
-/
import Derived.Test.YtjdhdmljchnidaaLast
namespace Go.Proofs.Ytjdhdmljchnidaa
open Go.RowKit
set_option linter.unusedVariables false
set_option linter.unusedSimpArgs false
attribute [local go_sem ↓] Go.wp_at_zero Go.wp_at_succ
theorem info4 : (Try.prog.info? 4).map (fun i => (i.zero, i.size, i.bytes)) = some (some (.bool false), 1, 1) := by kernel_rfl
/-- Block M tells of the numbers below len which were met. -/
structure Met (M len : Nat) (f : Nat → Bool) (w : World) : Prop where
  lt : M < w.heap.size
  cell : ∀ j, j < len → w.cell? ⟨M, j, none⟩ = some (.bool (f j))
  free : ∀ j, w.frozen? ⟨M, j, none⟩ = false
section
variable {M len B : Nat} {f : Nat → Bool} {v v' : Value} {w w' : World}
theorem Met.same (h : Met M len f w) (hs : w.heap.size ≤ w'.heap.size) (hb : w'.heap[M]? = w.heap[M]?) : Met M len f w' :=
  ⟨Nat.lt_of_lt_of_le h.lt hs, fun j hj => (World.cell?_of_block (a := ⟨M, j, none⟩) hb).trans (h.cell j hj), fun j => (World.frozen?_of_block (a := ⟨M, j, none⟩) hb).trans (h.free j)⟩
theorem Met.kept (h : Met M len f w) (hb : Below w.heap.size w w') : Met M len f w' := h.same hb.size (hb.block _ h.lt)
theorem Met.turn (h : Met M len f w) (hT : Turn B v v' w w') (hB : M ≠ B) (hv : v.ownBlock ≠ some M) : Met M len f w' := h.same hT.size (hT.block _ h.lt hB hv)
theorem Met.set (h : Met M len f w) (j : Nat) (hj : j < len) : Met M len (setb f j) (w.setCell ⟨M, j, none⟩ (.bool true)) where
  lt := by simpa using h.lt
  cell := fun i hi => by
    by_cases e : i = j
    · subst e
      rw [World.cell?_setCell_same _ _ _ (h.cell i hi), setb_same]
    · rw [World.cell?_setCell_other _ _ _ _ (by simp [e]), h.cell i hi, setb_other e]
  free := fun i => by rw [← h.free i]; simp
theorem Met.made (w : World) (n : Nat) : Met w.heap.size n (fun _ => false) (w.alloc (.cells (madeCells #[.bool false] n) 4)) where
  lt := by simp
  cell := fun j hj => by
    rw [cell_of_row _ _ _ _ _ _ (heap_alloc_new _ _), ← Array.getElem?_toList, toList_madeCells_one, List.getElem?_replicate]
    simp [hj]
  free := fun j => frozen_of_row _ _ _ _ _ (heap_alloc_new _ _)
theorem Hs.setOther {n : N} {W : World} (h : Hs B v n W w) {p : Addr} (u : Value) (hB : p.block ≠ B) (hv : v.ownBlock ≠ some p.block) (hW : W.heap.size ≤ p.block) : Hs B v n W (w.setCell p u) := by
  refine ⟨⟨?_, ⟨h.nt.row.1, ?_⟩, h.nt.ne, h.nt.ok, h.nt.pB⟩, h.bare, h.below.setCell hW u⟩
  · rw [Below.heap_setCell _ _ _ _ (Ne.symm hB)]; exact h.nt.here
  · rcases h.nt.row.2 with hn | ⟨g, cap, cur, rfl, hb, hgg, rest⟩
    · exact .inl hn
    · exact .inr ⟨g, cap, cur, rfl, hb, by rw [Below.heap_setCell _ _ _ _ (fun e => hv (by rw [← e]; rfl))]; exact hgg, rest⟩
theorem Turn.off (hT : Turn B v v' w w') (hM : M < w.heap.size) (hv : v.ownBlock ≠ some M) : v'.ownBlock ≠ some M := fun e => by
  rcases hT.own _ e with e | e
  · exact hv e
  · omega
end
theorem Inv.put {K : List Int} {i : Nat} {last lost taken : Int} {met : Nat → Bool} {n : N} {js : List Nat} (h : Inv K i last lost taken met n js) :
    (n.full = false ∧ ∃ js', Inv K (i + 1) last lost taken met (n.put (Fr.of (K.getD i 0) i)) js') ∨
    (n.full = true ∧ ∃ j : Nat, j < i + 1 ∧ met j = false ∧ n.out (Fr.of (K.getD i 0) i) = Fr.of (K.getD j 0) j ∧ ∃ js', Inv K (i + 1) last (lost + 1) taken (setb met j) (n.put (Fr.of (K.getD i 0) i)) js') := by
  cases hf : n.full
  · exact .inl ⟨rfl, _, h.free hf⟩
  · right
    refine ⟨rfl, ?_⟩
    cases hq : first n.l with
    | none =>
      obtain ⟨a, b, c⟩ := h.new hf hq
      exact ⟨i, by omega, c, b, _, a⟩
    | some p =>
      obtain ⟨j, a, -, c, d, js', e⟩ := h.old hf hq
      exact ⟨j, by omega, c, d, js', e⟩
/-- What stands between two steps of a round. -/
def RowAt (W : World) (B M : Nat) (K : List Int) (m : Int) (i : Nat) (last lost taken : Int) (w : World) : Prop :=
  ∃ (v : Value) (n : N) (js : List Nat) (met : Nat → Bool), Hs B v n W w ∧ n.max = m ∧ Inv K i last lost taken met n js ∧ Met M K.length met w ∧ v.ownBlock ≠ some M ∧ M ≠ B ∧ W.heap.size ≤ M ∧ 0 ≤ lost ∧ 0 ≤ taken ∧ -1 ≤ last
theorem RowAt.sum {W : World} {B M : Nat} {K : List Int} {m : Int} {i : Nat} {last lost taken : Int} {w : World} (h : RowAt W B M K m i last lost taken w) : lost ≤ i ∧ taken ≤ i ∧ last < i ∧ -1 ≤ last ∧ 0 ≤ lost ∧ 0 ≤ taken := by
  obtain ⟨v, n, js, met, -, -, hI, -, -, -, -, h1, h2, h3⟩ := h
  have := hI.sum
  have := hI.lst
  omega
theorem RowAt.drewN {W : World} {B M : Nat} {K : List Int} {m : Int} {i : Nat} {last lost taken : Int} {w : World} (h : RowAt W B M K m i last lost taken w) (q : Nat) : RowAt W B M K m i last lost taken (w.drewN q) := by
  obtain ⟨v, n, js, met, hs, h1, h2, hM, rest⟩ := h
  exact ⟨v, n, js, met, hs.drewN q, h1, h2, hM.same (Nat.le_refl _) rfl, rest⟩
set_option maxRecDepth 100000 in
set_option maxHeartbeats 8000000 in
theorem row_walk (m : Int) (oa : Option Addr) (cap : Nat) (l : List Int) (ob : Option Addr) (cb : Nat) (tl : List Bool) (W : World) (hl : BytesHold W (.slice oa l.length cap) l) (ht : BoolsHold W (.slice ob tl.length cb) tl) :
    Calls Try.prog 3 #[.int .i64 m, .slice oa l.length cap, .slice ob tl.length cb] W fun e w' => e = .returned (.bool true) ∧ Below W.heap.size W w' := by
  by_cases hlen : l.length ≤ 500
  · by_cases hm : 1 ≤ m ∧ m ≤ 4096
    · obtain ⟨m1, m2⟩ := hm
      obtain ⟨i4, hi4, hz40, hz41, hz42⟩ := info_parts info4
      have hmk : ∀ v : World, (Instr.makeSlice 23 (.int .i64 (l.length : Int)) (.int .i64 (l.length : Int))).run Try.prog v =
          .ok (.slice (some ⟨v.heap.size, 0, none⟩) l.length l.length) (v.alloc (.cells (madeCells #[.bool false] l.length) 4)) := fun v => by
        have h := run_make (P := Try.prog) v 23 4 i4 (.bool false) Try.underlying23 hi4 hz40 .i64 .i64 (l.length : Int) (l.length : Int) (by omega) (Int.le_refl _) (by rw [hz42]; omega) (by omega)
        simpa [hz41, Value.cells] using h
      clear hi4 hz40 hz41 hz42
      go_enter Try.func3, Try.ntmps3
      go_wp2_with fail
      refine (works_any _).mono ?_
      rintro e w0 ⟨rfl, hb0⟩
      go_wp2_with fail
      refine (new_of m hb0 m1 m2).mono ?_
      rintro e w1 ⟨rfl, hn, -⟩
      generalize w0.heap.size = B at hn ⊢
      clear hb0
      have hR0 : RowAt W B w1.heap.size l m 0 (-1) 0 0 (w1.alloc (.cells (madeCells #[.bool false] l.length) 4)) :=
        ⟨_, _, [], fun _ => false, hn.alloc _, rfl, Inv.start l m m1 m2, Met.made w1 l.length, by simp [Value.ownBlock], by have := hn.nt.lt; omega, hn.below.size, by omega, by omega, by omega⟩
      have HR0 := Lib.hid hR0
      clear hR0 hn
      go_wp2_with fail
      clear hmk
      generalize w1.heap.size = M at HR0 ⊢
      generalize w1.alloc (.cells (madeCells #[.bool false] l.length) 4) = Z at HR0 ⊢
      go_loopw [9, 10, 11, 13, 14, 15, 16, 17, 18, 19, 20] (fun a9 a10 a11 a13 _ _ _ _ _ _ _ wr => ∃ (k : Nat) (last lost taken : Int), k ≤ l.length ∧ a13 = .int .i64 k ∧ a9 = .int .i64 last ∧ a10 = .int .i64 lost ∧ a11 = .int .i64 taken ∧ Hid (RowAt W B M l m k last lost taken wr)) (fun _ _ _ i _ _ _ _ _ _ _ _ => l.length - (intOf i).toNat)
      case atStart => exact ⟨0, -1, 0, 0, by omega, rfl, rfl, rfl, rfl, HR0⟩
      case round =>
        clear HR0
        obtain ⟨k, last, lost, taken, hk, rfl, rfl, rfl, rfl, HR⟩ := hrel
        obtain ⟨s1, s2, s3, s4, s5, s6⟩ := HR.out.sum
        by_cases hlt : k < l.length
        · have hlh := hl
          obtain ⟨b, off, rfl, hbl, x0, x1, hq⟩ := hlh.at_ hlt
          obtain ⟨v, n, js, met, hs, hmx, hI, hM, hvM, hMB, hWM, -, -, -⟩ := HR.out
          have hq1 := (hs.below.cell (p := ⟨b, off + k, none⟩) hbl).trans hq
          have hgd : l.getD k 0 = l[k] := by simp [List.getD_eq_getElem?_getD, hlt]
          generalize l[k] = x at hgd x0 x1 hq hq1
          have HG := Lib.hid hgd
          have HS := Lib.hid (And.intro hs (And.intro hmx (And.intro hI (And.intro hM (And.intro hvM (And.intro hMB hWM))))))
          clear hs hmx hI hM hvM hMB hWM HR hgd hq
          go_wp2_with fail
          refine (of_any _ _ _).mono ?_
          rintro e w2 ⟨rfl, hb⟩
          have h2 := HS.out.1.kept hb
          have hM2 := HS.out.2.2.2.1.kept hb
          clear hb hq1
          go_wp2_with fail
          refine (put_of _ (Fr.Bare.of _ _) h2).mono ?_
          rintro e w3 ⟨rfl, v3, h3, hT⟩
          have hM3 := hM2.turn hT HS.out.2.2.2.2.2.1 HS.out.2.2.2.2.1
          have hv3 := hT.off hM2.lt HS.out.2.2.2.2.1
          have hmx3 : (n.put (Fr.of x k)).max = m := by
            rw [← HS.out.2.1]
            cases hf : n.full
            · rw [(N.put_free hf _).1]
            · cases hq : first n.l with
              | none => rw [(N.put_none hf hq _).1]
              | some p => obtain ⟨hp, -⟩ := first_some hq; rw [(N.put_some hf hq hp _).1]
          have hle3 := h3.nt.ok.le
          rw [hmx3] at hle3
          obtain ⟨o, ho⟩ : ∃ o, o = n.out (Fr.of x k) := ⟨_, rfl⟩
          obtain ⟨fu, hfu⟩ : ∃ fu, fu = n.full := ⟨_, rfl⟩
          obtain ⟨n3, hn3⟩ : ∃ n3, n3 = n.put (Fr.of x k) := ⟨_, rfl⟩
          rw [← ho, ← hfu]
          rw [← hn3] at h3 hmx3 hle3
          have hI3 := HS.out.2.2.1.put
          rw [HG.out, ← hn3, ← ho, ← hfu] at hI3
          have H3 := Lib.hid (And.intro h3 (And.intro hM3 (And.intro hv3 (And.intro hmx3 hI3))))
          clear h2 hM2 h3 hT hM3 hv3 hmx3 hI3 ho hfu hn3
          obtain ⟨ok, ofa, ofi, ota, oti, ofn, otk, oba, obi, ⟨ga1, gn1, gc1⟩, ⟨ga2, gn2, gc2⟩, ⟨ga3, gn3, gc3⟩, ⟨ga4, gn4, gc4⟩, ⟨ga5, gn5, gc5⟩⟩ := o
          simp only [Fr.val, Fr.cells]
          go_upto_if 65 with (first | (go_at_call 13; refine (len_of (H3.out.1.alloc _)).mono ?_; rintro e wl ⟨rfl, rfl⟩) | fail)
          obtain ⟨-, -, -, -, -, hMB, hWM⟩ := HS.out
          go_cut [10] (fun a10 wx => ∃ lost' : Int, a10 = .int .i64 lost' ∧ RowAt W B M l m (k + 1) last lost' taken wx)
          case first =>
            obtain ⟨h3, hM3, hv3, hmx3, hI3⟩ := H3.out
            rcases hI3 with ⟨hf, js', hI'⟩ | ⟨hf, j, hj, hmj, hout, js', hI'⟩
            · subst hf
              have HF := Lib.hid (show RowAt W B M l m (k + 1) last lost taken (w3.alloc (.cells #[.int .u8 ok, .int .i64 ofa, .int .i64 ofi, .int .i64 ota, .int .i64 oti, .int .i64 ofn, .int .i64 otk, .int .i64 oba, .int .i64 obi, .slice ga1 gn1 gc1, .slice ga2 gn2 gc2, .slice ga3 gn3 gc3, .slice ga4 gn4 gc4, .slice ga5 gn5 gc5] 38)) from ⟨v3, n3, js', met, h3.alloc _, hmx3, hI', hM3.kept ((Below.refl _ _).alloc (Nat.le_refl _) _), hv3, hMB, hWM, s5, s6, s4⟩)
              clear h3 hM3 hv3 hmx3 hI' hle3
              go_wp2_with fail
              go_meet
              case rel => exact ⟨lost, rfl, HF.out⟩
            · as_aux_lemma =>
              subst hf
              obtain ⟨y, hy⟩ : ∃ y, y = l.getD j 0 := ⟨_, rfl⟩
              rw [← hy] at hout
              have hjl : j < l.length := by omega
              have hlj := hl
              obtain ⟨b2, off2, he2, hbl2, y0, y1, hq2⟩ := hlj.at_ hjl
              have e2 := congrArg Option.get! he2
              simp only [Option.some.injEq, Addr.mk.injEq, and_true] at he2
              obtain ⟨rfl, rfl⟩ := he2
              have hyl : y = l[j] := by rw [hy]; simp [List.getD_eq_getElem?_getD, hjl]
              rw [← hyl] at hq2 y0 y1
              clear e2 hy hyl hlj
              simp only [Fr.of, Fr.mk.injEq] at hout
              obtain ⟨rfl, rfl, rfl, rfl, rfl, rfl, rfl, rfl, rfl, h5a, h5b, h5c, h5d, h5e⟩ := hout
              simp only [SL.nil, SL.mk.injEq] at h5a h5b h5c h5d h5e
              obtain ⟨rfl, rfl, rfl⟩ := h5a
              obtain ⟨rfl, rfl, rfl⟩ := h5b
              obtain ⟨rfl, rfl, rfl⟩ := h5c
              obtain ⟨rfl, rfl, rfl⟩ := h5d
              obtain ⟨rfl, rfl, rfl⟩ := h5e
              have hb3 : Below w3.heap.size w3 (w3.alloc (.cells #[.int .u8 ok, .int .i64 0, .int .i64 0, .int .i64 0, .int .i64 0, .int .i64 (j : Int), .int .i64 0, .int .i64 0, .int .i64 0, .slice none 0 0, .slice none 0 0, .slice none 0 0, .slice none 0 0, .slice none 0 0] 38)) := (Below.refl _ _).alloc (Nat.le_refl _) _
              have hM4 := hM3.kept hb3
              have h4 := h3.alloc (.cells #[.int .u8 ok, .int .i64 0, .int .i64 0, .int .i64 0, .int .i64 0, .int .i64 (j : Int), .int .i64 0, .int .i64 0, .int .i64 0, .slice none 0 0, .slice none 0 0, .slice none 0 0, .slice none 0 0, .slice none 0 0] 38)
              have cM := hM4.cell j hjl
              rw [hmj] at cM
              have fM := hM4.free j
              have cK := (h4.below.cell (p := ⟨b, off + j, none⟩) hbl).trans hq2
              have hj0 : (0 : Int) ≤ (j : Int) := by omega
              have hjk : (j : Int) ≤ (k : Int) := by omega
              have hjL : (j : Int) < (l.length : Int) := by omega
              have hMQ : M ≠ w3.heap.size := by have := hM3.lt; omega
              have hd1 : decide ((j : Int) < 0) = false := by simp
              have hd2 : decide ((k : Int) < (j : Int)) = false := by rw [decide_eq_false_iff_not]; omega
              have hd3 : decide (k < j) = false := by rw [decide_eq_false_iff_not]; omega
              have hbQ : b ≠ w3.heap.size := by have := h3.below.size; omega
              have HZ := Lib.hid (And.intro h4 (And.intro hM4 (And.intro hv3 (And.intro hmx3 hI'))))
              clear hb3 hM4 h4 hv3 hmx3 hI' h3 hM3 hle3 hmj H3
              go_wp2_with fail
              go_quiet (fail)
              obtain ⟨h4, hM4, hv3, hmx3, hI'⟩ := HZ.out
              have HF := Lib.hid (show RowAt W B M l m (k + 1) last (lost + 1) taken (((w3.alloc (.cells #[.int .u8 ok, .int .i64 0, .int .i64 0, .int .i64 0, .int .i64 0, .int .i64 (j : Int), .int .i64 0, .int .i64 0, .int .i64 0, .slice none 0 0, .slice none 0 0, .slice none 0 0, .slice none 0 0, .slice none 0 0] 38)).setCell ⟨M, j, none⟩ (.bool true)).drewN nq) from
                ⟨v3, n3, js', setb met j, (h4.setOther (p := ⟨M, j, none⟩) (.bool true) hMB hv3 hWM).drewN nq, hmx3, hI', (hM4.set j hjl).same (Nat.le_refl _) rfl, hv3, hMB, hWM, by omega, s6, s4⟩)
              clear h4 hM4 hv3 hmx3 hI' HZ
              go_wp2_with fail
              go_meet
              case rel => exact ⟨lost + 1, by go_num, HF.out⟩
          case rest =>
            clear H3 HS HG
            obtain ⟨lost', rfl, HRA⟩ := hcut
            obtain ⟨z1, z2, z3, z4, z5, z6⟩ := HRA.sum
            have HRA := Lib.hid HRA
            go_upto_region 20 with fail
            go_cut [107] (fun a107 wx => a107 = .bool (decide (k < tl.length) && tl.getD k false) ∧ wx = wc)
            case first =>
              by_cases htl : k < tl.length
              · obtain ⟨tb, toff, rfl, htb, htq⟩ := ht.at_ htl
                obtain ⟨v, n, js, met, hs, -⟩ := id HRA.out
                have htc := (hs.below.cell (p := ⟨tb, toff + k, none⟩) htb).trans htq
                have hgd : (decide (k < tl.length) && tl.getD k false) = tl[k] := by simp [List.getD_eq_getElem?_getD, htl]
                have HGD := Lib.hid hgd
                generalize tl[k] = tv at htq htc HGD
                clear hs htq hgd
                go_wp2_with fail
                go_meet
                case rel => exact ⟨by rw [HGD.out], rfl⟩
              · have hgd : (decide (k < tl.length) && tl.getD k false) = false := by simp [htl]
                have HGD := Lib.hid hgd
                clear hgd
                go_wp2_with fail
                go_meet
                case rel => exact ⟨by rw [HGD.out], rfl⟩
            case rest =>
            obtain ⟨rfl, rfl⟩ := hcut
            generalize (decide (k < tl.length) && tl.getD k false) = tv
            go_upto_if 107 with fail
            go_cut [9, 11, 17, 18] (fun a9 a11 _ _ wx => ∃ last' taken' : Int, a9 = .int .i64 last' ∧ a11 = .int .i64 taken' ∧ RowAt W B M l m (k + 1) last' lost' taken' wx)
            case first => as_aux_lemma =>
                cases tv
                · go_wp2_with fail
                  go_meet
                  case rel => exact ⟨last, taken, rfl, rfl, HRA.out⟩
                · obtain ⟨v, n, js, met, hs, hmx, hI, hM, hvM, -, -, -, -, -⟩ := id HRA.out
                  have HS := Lib.hid (And.intro hs (And.intro hmx (And.intro hI (And.intro hM hvM))))
                  clear hs hmx hI hM hvM HRA
                  go_wp2_with fail
                  refine (take_of HS.out.1).mono ?_
                  rintro e w4 ⟨rfl, v4, h4, hT⟩
                  cases hany : n.any
                  · obtain ⟨e1, e2⟩ := Inv.none hany
                    rw [e1]
                    rw [e2] at h4
                    have hM4 := HS.out.2.2.2.1.turn hT hMB HS.out.2.2.2.2
                    have hv4 := hT.off HS.out.2.2.2.1.lt HS.out.2.2.2.2
                    have HF := Lib.hid (show RowAt W B M l m (k + 1) last lost' taken (w4.alloc (.cells Fr.zero.cells 38)) from ⟨v4, n, js, met, h4.alloc _, HS.out.2.1, HS.out.2.2.1, hM4.kept ((Below.refl _ _).alloc (Nat.le_refl _) _), hv4, hMB, hWM, z5, s6, s4⟩)
                    clear h4 hM4 hv4 hT e1 e2 hany
                    simp only [Fr.zero, Fr.val, Fr.cells, SL.nil] at HF ⊢
                    go_wp2_with fail
                    go_meet
                    case rel => exact ⟨last, taken, rfl, rfl, HF.out⟩
                  · obtain ⟨j, hj, hlj, hmj, hout, js', hI'⟩ := HS.out.2.2.1.take hany
                    have hM4 := HS.out.2.2.2.1.turn hT hMB HS.out.2.2.2.2
                    have hv4 := hT.off HS.out.2.2.2.1.lt HS.out.2.2.2.2
                    obtain ⟨y, hy⟩ : ∃ y, y = l.getD j 0 := ⟨_, rfl⟩
                    rw [← hy] at hout
                    have hjl : j < l.length := by omega
                    have hlj2 := hl
                    obtain ⟨b2, off2, he2, hbl2, y0, y1, hq2⟩ := hlj2.at_ hjl
                    simp only [Option.some.injEq, Addr.mk.injEq, and_true] at he2
                    obtain ⟨rfl, rfl⟩ := he2
                    have hyl : y = l[j] := by rw [hy]; simp [List.getD_eq_getElem?_getD, hjl]
                    rw [← hyl] at hq2 y0 y1
                    rw [hout]
                    have hb3 : Below w4.heap.size w4 (w4.alloc (.cells #[.int .u8 y, .int .i64 0, .int .i64 0, .int .i64 0, .int .i64 0, .int .i64 (j : Int), .int .i64 0, .int .i64 0, .int .i64 0, .slice none 0 0, .slice none 0 0, .slice none 0 0, .slice none 0 0, .slice none 0 0] 38)) := (Below.refl _ _).alloc (Nat.le_refl _) _
                    have hM5 := hM4.kept hb3
                    have h5 := h4.alloc (.cells #[.int .u8 y, .int .i64 0, .int .i64 0, .int .i64 0, .int .i64 0, .int .i64 (j : Int), .int .i64 0, .int .i64 0, .int .i64 0, .slice none 0 0, .slice none 0 0, .slice none 0 0, .slice none 0 0, .slice none 0 0] 38)
                    have cM := hM5.cell j hjl
                    rw [hmj] at cM
                    have fM := hM5.free j
                    have cK := (h5.below.cell (p := ⟨b, off + j, none⟩) hbl).trans hq2
                    have hj0 : (0 : Int) ≤ (j : Int) := by omega
                    have hjk : (j : Int) ≤ (k : Int) := by omega
                    have hjL : (j : Int) < (l.length : Int) := by omega
                    have hjlast : last < (j : Int) := hlj
                    have hMQ : M ≠ w4.heap.size := by have := hM4.lt; omega
                    have hd1 : decide ((j : Int) ≤ last) = false := by rw [decide_eq_false_iff_not]; omega
                    have hd2 : decide ((k : Int) < (j : Int)) = false := by rw [decide_eq_false_iff_not]; omega
                    have hd3 : decide (k < j) = false := by rw [decide_eq_false_iff_not]; omega
                    have hbQ : b ≠ w4.heap.size := by have := h4.below.size; omega
                    have hmx4 : n.take.max = m := HS.out.2.1
                    have HZ := Lib.hid (And.intro h5 (And.intro hM5 (And.intro hv4 (And.intro hmx4 hI'))))
                    clear hb3 hM5 h5 hv4 hmx4 hI' h4 hM4 hmj hT HS hout hy hyl hlj2 hlj hany
                    simp only [Fr.of, Fr.val, Fr.cells, SL.nil]
                    go_wp2_with fail
                    go_quiet (fail)
                    obtain ⟨h4, hM4, hv3, hmx3, hI'⟩ := HZ.out
                    have HF := Lib.hid (show RowAt W B M l m (k + 1) j lost' (taken + 1) (((w4.alloc (.cells #[.int .u8 y, .int .i64 0, .int .i64 0, .int .i64 0, .int .i64 0, .int .i64 (j : Int), .int .i64 0, .int .i64 0, .int .i64 0, .slice none 0 0, .slice none 0 0, .slice none 0 0, .slice none 0 0, .slice none 0 0] 38)).setCell ⟨M, j, none⟩ (.bool true)).drewN nq) from
                      ⟨v4, n.take, js', setb met j, (h4.setOther (p := ⟨M, j, none⟩) (.bool true) hMB hv3 hWM).drewN nq, hmx3, hI', (hM4.set j hjl).same (Nat.le_refl _) rfl, hv3, hMB, hWM, z5, by omega, by omega⟩)
                    have cN : (((w4.alloc (.cells #[.int .u8 y, .int .i64 0, .int .i64 0, .int .i64 0, .int .i64 0, .int .i64 (j : Int), .int .i64 0, .int .i64 0, .int .i64 0, .slice none 0 0, .slice none 0 0, .slice none 0 0, .slice none 0 0, .slice none 0 0] 38)).setCell ⟨M, j, none⟩ (.bool true)).drewN nq).cell? ⟨w4.heap.size, 5, none⟩ = some (.int .i64 (j : Int)) := by
                      show ((w4.alloc (.cells #[.int .u8 y, .int .i64 0, .int .i64 0, .int .i64 0, .int .i64 0, .int .i64 (j : Int), .int .i64 0, .int .i64 0, .int .i64 0, .slice none 0 0, .slice none 0 0, .slice none 0 0, .slice none 0 0, .slice none 0 0] 38)).setCell ⟨M, j, none⟩ (.bool true)).cell? ⟨w4.heap.size, 5, none⟩ = _
                      rw [World.cell?_setCell_other _ _ _ _ (by simp; try omega)]
                      simp
                    clear h4 hM4 hv3 hmx3 hI' HZ
                    go_wp2_with fail
                    go_meet
                    case rel => exact ⟨j, taken + 1, rfl, by go_num, HF.out⟩
            case rest => as_aux_lemma =>
              clear HRA
              obtain ⟨last', taken', rfl, rfl, HRA⟩ := hcut
              obtain ⟨z1, z2, z3, z4, z5, z6⟩ := HRA.sum
              obtain ⟨v, n, js, met, hs, hmx, hI, hM, hvM, -, -, -, -, -⟩ := id HRA
              have hsum : lost' + taken' + (n.l.length : Int) = (k : Int) + 1 := by have := hI.sum; have := hI.len; omega
              have HS := Lib.hid (And.intro hI (And.intro hs HRA))
              clear hI hs HRA
              have hll : n.l.length ≤ 4096 := by have := HS.out.2.1.nt.ok.le; have := HS.out.2.1.nt.ok.m2; omega
              go_wp2_with fail
              refine (all_bare _ B v n _ HS.out.2.1.nt HS.out.2.1.bare).mono ?_
              rintro e w5 ⟨oc, cc, rfl, hr, hb⟩
              have h5 := HS.out.2.1.kept hb
              have hM5 := hM.kept hb
              have HRo := Lib.hid hr
              have HRA := Lib.hid (show RowAt W B M l m (k + 1) last' lost' taken' w5 from ⟨v, n, js, met, h5, hmx, HS.out.1, hM5, hvM, hMB, hWM, z5, z6, z4⟩)
              clear hb hr hM hvM hmx
              generalize wc.heap.size = Pw at HRo
              go_wp2_with fail
              refine (len_of h5).mono ?_
              rintro e w6 ⟨rfl, rfl⟩
              go_wp2_with fail
              have HM5 := Lib.hid hM5
              clear hM5
              obtain ⟨wo, rfl⟩ : ∃ wo : World, wo = wr := ⟨_, rfl⟩
              go_loopw [20] (fun i wr => ∃ t : Nat, t ≤ n.l.length ∧ i = .int .i64 t ∧ Hs B v n W wr ∧ Hid (wr.ownsRow Pw 38 14 (.slice oc n.l.length cc) n.l.length (rows n.l)) ∧ Hid (Met M l.length met wr) ∧ Hid (RowAt W B M l m (k + 1) last' lost' taken' wr)) (fun i _ => n.l.length - (intOf i).toNat)
              case atStart => exact ⟨0, by omega, rfl, h5, HRo, HM5, HRA⟩
              case round =>
                clear h5 HRo HM5 HRA
                obtain ⟨t, ht2, rfl, hs, HRo, HM5, HRA⟩ := hrel
                by_cases htl : t < n.l.length
                · obtain ⟨g, cg, hg, -, -⟩ := World.ownsRow.form HRo.out (by omega)
                  simp only [Value.slice.injEq] at hg
                  obtain ⟨rfl, -, rfl⟩ := hg
                  obtain ⟨j, hlj, hj, hjlast, hmj, hjs⟩ := HS.out.1.at_ htl
                  have c5 : wr.cell? ⟨g, t * 14 + 5, none⟩ = some (.int .i64 (j : Int)) := by
                    rw [World.ownsRow.cellAt HRo.out _ (by omega), rows_get _ _ _ htl (by omega), hlj]
                    rfl
                  have cM := HM5.out.cell j (by omega)
                  rw [hmj] at cM
                  have hj0 : (0 : Int) ≤ (j : Int) := by omega
                  have hjL : (j : Int) < (l.length : Int) := by omega
                  clear hlj hmj
                  have hd1 : decide ((j : Int) ≤ last') = false := by
                    rw [decide_eq_false_iff_not]; omega
                  have HQ := Lib.hid hsum
                  clear hsum
                  by_cases ht0 : t = 0
                  · subst ht0
                    clear hjs
                    simp only [Nat.zero_mul, Nat.zero_add] at c5
                    go_wp2_with fail
                    go_quiet (fail)
                    have h6 := hs.drewN nq
                    have hr6 : Hid ((wr.drewN nq).ownsRow Pw 38 14 (.slice (some ⟨g, 0, none⟩) n.l.length cc) n.l.length (rows n.l)) := HRo
                    have hM6 : Hid (Met M l.length met (wr.drewN nq)) := Lib.hid (HM5.out.same (Nat.le_refl _) rfl)
                    have hA6 : Hid (RowAt W B M l m (k + 1) last' lost' taken' (wr.drewN nq)) := Lib.hid (RowAt.drewN HRA.out nq)
                    clear hs HRo HM5 HRA c5 cM
                    go_wp2_with fail
                    go_roundw
                    case rel => exact ⟨1, by omega, by go_num, h6, hr6, hM6, hA6⟩
                    case measure => simp only [intOf]; omega
                  · obtain ⟨u, rfl⟩ : ∃ u, t = u + 1 := ⟨t - 1, by omega⟩
                    obtain ⟨j2, hlj2, -, -, -, hjs2⟩ := HS.out.1.at_ (k := u) (by omega)
                    have hrise : j2 < j := HS.out.1.rise hjs2 hjs
                    have hd2 : decide ((j : Int) ≤ (j2 : Int)) = false := by
                      rw [decide_eq_false_iff_not]; omega
                    have hd3 : decide (j ≤ j2) = false := by
                      rw [decide_eq_false_iff_not]; omega
                    have hd4 : decide ((0 : Int) < (u : Int) + 1) = true := by
                      rw [decide_eq_true_iff]; omega
                    have c52 : wr.cell? ⟨g, u * 14 + 5, none⟩ = some (.int .i64 (j2 : Int)) := by
                      rw [World.ownsRow.cellAt HRo.out _ (by omega), rows_get _ _ _ (by omega) (by omega), hlj2]
                      rfl
                    have hu0 : (0 : Int) ≤ (u : Int) := by omega
                    have huL : (u : Int) < (n.l.length : Int) := by omega
                    have huM : (u : Int) ≤ 4096 := by omega
                    clear hlj2 hjs2 hjs ht0 hrise
                    go_wp2_with fail
                    go_quiet (fail)
                    clear c52
                    have h6 := hs.drewN nq
                    have hr6 : Hid ((wr.drewN nq).ownsRow Pw 38 14 (.slice (some ⟨g, 0, none⟩) n.l.length cc) n.l.length (rows n.l)) := HRo
                    have hM6 : Hid (Met M l.length met (wr.drewN nq)) := Lib.hid (HM5.out.same (Nat.le_refl _) rfl)
                    have hA6 : Hid (RowAt W B M l m (k + 1) last' lost' taken' (wr.drewN nq)) := Lib.hid (RowAt.drewN HRA.out nq)
                    clear hs HRo HM5 HRA c5 cM
                    go_wp2_with fail
                    go_roundw
                    case rel => exact ⟨u + 2, by omega, by go_num, h6, hr6, hM6, hA6⟩
                    case measure => simp only [intOf]; omega
                · have HF := HRA
                  clear HRA
                  go_wp2_with fail
                  go_roundw
                  case rel => exact ⟨k + 1, last', lost', taken', by omega, by go_num, rfl, rfl, rfl, HF⟩
                  case measure => simp only [intOf]; omega
        · go_wp2_with fail
          go_ret
          obtain ⟨v, n, js, met, hs, -⟩ := HR.out
          exact ⟨rfl, hs.below⟩
    · have hd : m < 1 ∨ 4096 < m := by omega
      clear hm
      go_enter Try.func3, Try.ntmps3
      go_wp2_with fail
      refine (works_any _).mono ?_
      rintro e w0 ⟨rfl, hb0⟩
      go_wp2_with fail
      refine (new_no m w0 hd).mono ?_
      rintro e w1 ⟨rfl, rfl⟩
      go_wp2_with fail
      go_ret
      exact ⟨rfl, hb0⟩
  · go_enter Try.func3, Try.ntmps3
    go_wp2_with fail
    refine (works_any _).mono ?_
    rintro e w0 ⟨rfl, hb0⟩
    go_wp2_with fail
    refine (works_any _).mono ?_
    rintro e w1 ⟨rfl, hb1⟩
    go_wp2_with fail
    go_ret
    exact ⟨rfl, then_below hb0 hb1⟩
end Go.Proofs.Ytjdhdmljchnidaa
