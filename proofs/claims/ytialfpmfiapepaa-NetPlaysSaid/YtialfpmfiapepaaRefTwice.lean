/-
  The document's Give, Lose, Twice, Send.
-/
import Derived.Test.YtialfpmfiapepaaRefPush
namespace Go.Proofs.Ytialfpmfiapepaa
open Go.RowKit
set_option linter.unusedVariables false
set_option linter.unusedSimpArgs false
attribute [local go_sem ↓] Go.wp_at_zero Go.wp_at_succ
theorem rd_take {P R b off c : Nat} {l : List U} {w : World} (h : Rd P R (.slice (some ⟨b, off, none⟩) l.length c) l w) {j : Nat} (hj : j ≤ l.length) : Rd P R (.slice (some ⟨b, off, none⟩) j c) (l.take j) w := by
  obtain ⟨oa, c', e, h1, h2, h3⟩ := h
  simp only [Value.slice.injEq] at e
  obtain ⟨rfl, -, rfl⟩ := e
  have hlt : (l.take j).length = j := by rw [List.length_take]; omega
  rcases h3 with ⟨h3, -⟩ | ⟨b', off', e2, hP, hbl, hR, ht, hc⟩
  · cases h3
  · refine ⟨_, c, by rw [hlt], by omega, h2, .inr ⟨b', off', e2, hP, hbl, hR, ht, fun i u hi => hc i u ?_⟩⟩
    have e3 : rows l = rows (l.take j) ++ rows (l.drop j) := by rw [← rows_append, List.take_append_drop]
    rw [e3, List.getElem?_append_left (List.getElem?_eq_some_iff.1 hi).1]
    exact hi
theorem rd_drop {P R b off c : Nat} {l : List U} {w : World} (h : Rd P R (.slice (some ⟨b, off, none⟩) l.length c) l w) {j : Nat} (hj : j ≤ l.length) :
    Rd P R (.slice (if c = j then some (⟨b, off, none⟩ : Addr) else some ⟨b, off + j * 3, none⟩) (l.length - j) (c - j)) (l.drop j) w := by
  obtain ⟨oa, c', e, h1, h2, h3⟩ := h
  simp only [Value.slice.injEq] at e
  obtain ⟨rfl, -, rfl⟩ := e
  have hlt : (l.drop j).length = l.length - j := List.length_drop
  rcases h3 with ⟨h3, -⟩ | ⟨b', off', e2, hP, hbl, hR, ht, hc⟩
  · cases h3
  · simp only [Option.some.injEq, Addr.mk.injEq, and_true] at e2
    obtain ⟨rfl, rfl⟩ := e2
    by_cases hcj : c = j
    · have h0 : l.drop j = [] := List.eq_nil_of_length_eq_zero (by omega)
      refine ⟨some ⟨b, off, none⟩, c - j, by rw [if_pos hcj, hlt], by omega, by omega, .inr ⟨b, off, rfl, hP, hbl, hR, ht, fun i u hi => ?_⟩⟩
      rw [h0] at hi; simp [rows] at hi
    · refine ⟨some ⟨b, off + j * 3, none⟩, c - j, by rw [if_neg hcj, hlt], by omega, by omega, .inr ⟨b, off + j * 3, rfl, hP, hbl, hR, ht, fun i u hi => ?_⟩⟩
      have e3 : rows l = rows (l.take j) ++ rows (l.drop j) := by rw [← rows_append, List.take_append_drop]
      have hlen : (rows (l.take j)).length = j * 3 := by rw [rows_length, List.length_take, Nat.min_eq_left hj]
      have := hc (j * 3 + i) u (by rw [e3, List.getElem?_append_right (by omega), hlen, Nat.add_sub_cancel_left]; exact hi)
      rwa [← Nat.add_assoc] at this
theorem Doc.lay {P P' R q o : Nat} {v x : Value} {n : N} {w : World} (h : Doc P R v n w) (hr : Rd P' R v n.l w) (hq : q < P') (hqR : q ≠ R) : Doc P R v n (w.setCell ⟨q, o, none⟩ x) ∧ Rd P' R v n.l (w.setCell ⟨q, o, none⟩ x) := by
  have hr2 : Rd P' R v n.l (w.setCell ⟨q, o, none⟩ x) := hr.same (by simp) (fun k hk _ _ => Below.heap_setCell _ _ _ _ (by show k ≠ q; omega))
  refine ⟨⟨?_, ?_, h.ok, h.pR⟩, hr2⟩
  · rw [Below.heap_setCell _ _ _ _ (by show R ≠ q; omega)]; exact h.here
  · by_cases hP : P ≤ P'
    · exact hr2.mono hP
    · obtain ⟨oa, c, e, h1, h2, h3⟩ := h.rd
      refine ⟨oa, c, e, h1, h2, ?_⟩
      rcases h3 with h3 | ⟨b, off, e2, hPb, hlt, hR, ht, hc⟩
      · exact .inl h3
      · refine .inr ⟨b, off, e2, hPb, by simpa using hlt, hR, (by obtain ⟨cur, fz, e⟩ := ht; exact ⟨cur, fz, (Below.heap_setCell _ _ _ _ (by show b ≠ q; intro e9; omega)).trans e⟩), fun j u hj => ?_⟩
        rw [World.cell?_setCell_other _ _ _ _ (by simp; try (intro e9; omega))]
        exact hc j u hj
theorem rsend_any (P R : Nat) (v : Value) (n : N) (s : ByteArray) (d : Int) (w : World) (h : Doc P R v n w) :
    Calls Try.prog 21 #[.pointer (some ⟨R, 0, none⟩), .string s, .int .i64 d] w fun e w' => e = .returned (.bool n.full) ∧ DidD P R (n.push ⟨s, d, false⟩) w w' := by
  go_enter Try.func21, Try.ntmps21
  go_wp2_with fail
  refine (rpush_any P R v n s d false _ h).mono ?_
  rintro e w1 ⟨rfl, hD⟩
  go_wp2_with fail
  go_ret
  exact ⟨rfl, hD⟩
theorem Doc.has {P R : Nat} {v : Value} {n : N} {w : World} (h : Doc P R v n w) {k : Int} (hk : n.has k = true) :
    ∃ (j b off c : Nat), k = j ∧ v = .slice (some ⟨b, off, none⟩) n.l.length c ∧ j < n.l.length ∧ P ≤ b ∧ b < w.heap.size ∧ b ≠ R ∧ n.l.length ≤ c ∧ c ≤ 9223372036854775807 ∧
      w.cell? ⟨b, off + j * 3, none⟩ = some (.string (n.get k).s) ∧ w.cell? ⟨b, off + j * 3 + 1, none⟩ = some (.int .i64 (n.get k).to) ∧ w.cell? ⟨b, off + j * 3 + 2, none⟩ = some (.bool (n.get k).bent) := by
  have hk' : 0 ≤ k ∧ k < n.l.length := by simpa [N.has] using hk
  obtain ⟨hj, hg⟩ := N.get_of hk
  obtain ⟨oa, c, e, h1, h2, h3⟩ := h.rd
  rcases h3 with ⟨-, h3, -⟩ | ⟨b, off, rfl, hP, hlt, hR, ht, hc⟩
  · rw [h3] at hj; simp at hj
  · have hr : ∀ o, o < 3 → w.cell? ⟨b, off + (k.toNat * 3 + o), none⟩ = n.l[k.toNat].cells[o]? := fun o ho => by
      have := rows_get n.l k.toNat o hj ho
      have h3 : o < n.l[k.toNat].cells.size := by simpa [U.cells] using ho
      rw [Array.getElem?_eq_getElem h3] at this ⊢
      exact hc _ _ this
    refine ⟨k.toNat, b, off, c, by omega, e, hj, hP, hlt, hR, h1, by unfold maxLen at h2; omega, ?_, ?_, ?_⟩
    · have := hr 0 (by omega); rw [hg]; exact this
    · have := hr 1 (by omega); rw [hg, Nat.add_assoc]; exact this
    · have := hr 2 (by omega); rw [hg, Nat.add_assoc]; exact this
theorem rtwice_any (P R : Nat) (v : Value) (n : N) (k : Int) (w : World) (h : Doc P R v n w) :
    Calls Try.prog 24 #[.pointer (some ⟨R, 0, none⟩), .int .i64 k] w fun e w' => e = .returned (.int .i64 (n.noneE k)) ∧ DidD P R (n.twice k) w w' := by
  cases hk : n.has k
  · have HE := Lib.hid (show n.noneE k = 5 ∧ n.twice k = n by simp [N.noneE, N.twice, hk])
    have HK := Lib.hid hk
    clear hk
    go_enter Try.func24, Try.ntmps24
    go_wp2_with fail
    refine (ris_any P R v n k _ h).mono ?_
    rintro e w1 ⟨rfl, rfl⟩
    rw [HK.out]
    go_wp2_with fail
    go_ret
    exact ⟨ret_i (by rw [HE.out.1]), v, by rw [HE.out.2]; exact h, Keep.refl _ _⟩
  · have HE := Lib.hid (show n.noneE k = 0 ∧ n.twice k = n.push (n.get k) by simp [N.noneE, N.twice, hk])
    obtain ⟨j, b, off, c, rfl, rfl, hj, hPb, hlt, hbR, hnc, hcm, e0, e1, e2⟩ := h.has hk
    obtain ⟨c0, c1⟩ := h.reads
    have HK := Lib.hid hk
    obtain ⟨u, hu⟩ : ∃ u, u = n.get (j : Int) := ⟨_, rfl⟩
    rw [← hu] at e0 e1 e2
    have HU := Lib.hid hu
    clear hk hu
    obtain ⟨us, uto, ub⟩ := u
    simp only at e0 e1 e2
    have hj0 : (0 : Int) ≤ (j : Int) := by omega
    have hjl : (j : Int) < (n.l.length : Int) := by omega
    have HH := Lib.hid h
    clear h
    go_enter Try.func24, Try.ntmps24
    go_wp2_with fail
    refine (ris_any P R _ n j _ HH.out).mono ?_
    rintro e w1 ⟨rfl, rfl⟩
    rw [HK.out]
    go_wp2_with fail
    refine (rpush_any P R _ n us uto ub _ HH.out).mono ?_
    rintro e w2 ⟨rfl, hD⟩
    have HD := Lib.hid hD
    clear hD
    go_wp2_with fail
    go_ret
    exact ⟨ret_i (by rw [HE.out.1]), by rw [HE.out.2, ← HU.out]; exact HD.out⟩
end Go.Proofs.Ytialfpmfiapepaa
