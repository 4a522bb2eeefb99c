/-
  slices.Delete at the frames that wait: one of them goes.
-/
import Derived.Test.YtjdhdmljchnidaaBase
namespace Go.Proofs.Ytjdhdmljchnidaa
open Go.RowKit
set_option linter.unusedVariables false
set_option linter.unusedSimpArgs false
attribute [local go_sem ↓] Go.wp_at_zero Go.wp_at_succ
set_option maxRecDepth 100000 in
set_option maxHeartbeats 4000000 in
theorem del_any (P g cap r : Nat) (xs : List Value) (i : Nat) (w : World) (h : w.ownsRow P 38 14 (.slice (some ⟨g, 0, none⟩) (r + 1) cap) (r + 1) xs) (hi : i < r + 1) (h1 : ∀ u ∈ xs, u.oneCell' = true) :
    Calls Try.prog 32 #[.slice (some ⟨g, 0, none⟩) (r + 1) cap, .int .i64 i, .int .i64 (i + 1)] w fun e w' => e = .returned (.slice (some ⟨g, 0, none⟩) r cap) ∧
      w'.ownsRow P 38 14 (.slice (some ⟨g, 0, none⟩) r cap) r (xs.take (i * 14) ++ xs.drop ((i + 1) * 14)) ∧ w.grownBy w' (some g) := by
  obtain ⟨i0, hi0, hz0, hz1, hz2⟩ := info_parts info38
  obtain ⟨hlen, h2⟩ := h
  obtain ⟨g', cap', cur, he, hPg, hg, hnc, hcm, hcs, htake⟩ := h2.resolve_left (by rintro ⟨h, -⟩; cases h)
  simp only [Value.slice.injEq, Option.some.injEq, Addr.mk.injEq, true_and, and_true] at he
  obtain ⟨rfl, rfl⟩ := he
  have hcap : cap ≤ 9223372036854775807 := by unfold maxLen at hcm; omega
  -- what is moved
  obtain ⟨news, hnews⟩ : ∃ news, news = xs.drop ((i + 1) * 14) := ⟨_, rfl⟩
  have hnl : news.length = (r - i) * 14 := by rw [hnews, List.length_drop, hlen]; omega
  have hone : Hid (∀ u ∈ news, u.oneCell' = true) := fun u hu => h1 u (List.mem_of_mem_drop (hnews ▸ hu))
  have hcell : ∀ j, j < (r + 1) * 14 → w.cell? ⟨g, j, none⟩ = xs[j]? := by
    intro j hj
    rw [cell_of_row _ _ _ _ _ _ hg, ← htake, List.getElem?_take, if_pos hj]
    simp
  obtain ⟨A, hA, hsrc⟩ : ∃ A : Addr, (if cap = i + 1 then some (⟨g, 0, none⟩ : Addr) else some ⟨g, (i + 1) * 14, none⟩) = some A ∧ Hid (∀ t u, news[t]? = some u → w.drew.cell? (A.add t) = some u) := by
    by_cases hc : cap = i + 1
    · refine ⟨⟨g, 0, none⟩, by simp [hc], fun t u hu => ?_⟩
      have h0 : news.length = 0 := by rw [hnl]; omega
      rw [List.length_eq_zero_iff.1 h0] at hu
      simp at hu
    · refine ⟨⟨g, (i + 1) * 14, none⟩, by simp [hc], fun t u hu => ?_⟩
      have ht : t < (r - i) * 14 := by
        have := (List.getElem?_eq_some_iff.1 hu).1
        rwa [hnl] at this
      rw [hnews, List.getElem?_drop] at hu
      rw [Addr.add_lit]
      exact (hcell _ (by omega)).trans hu
  obtain ⟨c1, hc1⟩ : ∃ c1 : Array Value, c1 = (cur.toList.take (i * 14) ++ news ++ cur.toList.drop (i * 14 + news.length)).toArray := ⟨_, rfl⟩
  have hc1s : c1.size = cap * 14 := by
    rw [hc1]
    simp only [List.size_toArray, List.length_append, List.length_take, List.length_drop, Array.length_toList, hnl, hcs]
    omega
  have hW : Hid (w.drew.setRow g c1 = w.drew.setRow g (cur.toList.take (i * 14) ++ news ++ cur.toList.drop (i * 14 + news.length)).toArray) := by rw [hc1]; exact rfl
  obtain ⟨W1, hW1⟩ : ∃ W1, W1 = w.drew.setRow g c1 := ⟨_, rfl⟩
  have hg1 : W1.heap[g]? = some (.cells c1 38 (0, 0)) := by rw [hW1]; exact setRow_heap _ _ _ _ _ _ hg
  have hzv : ∀ w, (zeroValue 38).run Try.prog w = .ok Fr.zero.val w := fun w => by kernel_rfl
  obtain ⟨c2, hcl, hc2s, hc2t⟩ := run_clear_row (P := Try.prog) W1 45 38 0 _ Try.underlying45 hzv 14 rfl Fr.zero.one g (r * 14) 1 (cap - r) c1 hg1 (by omega) (by rw [hc1s]; omega)
  have hic : i ≤ cap := by omega
  have h0i : (0 : Int) ≤ (i : Int) + 1 := by omega
  have hjc : i + 1 ≤ cap := by omega
  have hjn : i + 1 ≤ r + 1 := by omega
  have hW2 : Hid (W1 = w.drew.setRow g c1) := hW1
  have hi1 : (i : Int) + 1 ≤ r + 1 := by omega
  have HD := Lib.hid (And.intro hnl (And.intro hc2t (And.intro hc1 (And.intro hc1s (And.intro hc2s (And.intro htake (And.intro hnews (And.intro hlen hg))))))))
  clear hW1 hg1 hcell htake h2 hnews hc1 hc1s hc2s hc2t hzv hlen
  go_enter Try.func32, Try.ntmps32
  go_wp2_with fail
  go_region_law (refine step_append_row rfl (.tmp 22) (.tmp 25) 45 rfl 38 i0 14 Try.underlying45 hi0 hz1 g i cap cur hg (by simp [Act.eval, Act.put]) A (r - i) (cap - (i + 1)) news (by simp [Act.eval, Act.put]) HD.out.1 hsrc.out hone.out (by omega) (by have := HD.out.1; omega) ?_; rw [← hW.out, ← hW2.out])
  rw [show i + (r - i) = r by omega]
  clear hi1 hjn hjc h0i
  go_wp2_with fail
  go_ret
  obtain ⟨hnl, hc2t, hc1, hc1s, hc2s, htake, hnews, hlen, hg⟩ := HD.out
  have hx : (xs.take (i * 14) ++ xs.drop ((i + 1) * 14)).length = r * 14 := by
    simp only [List.length_append, List.length_take, List.length_drop, hlen]; omega
  have hW3 := hW2.out
  subst hW3
  refine ⟨rfl, ⟨hx, .inr ⟨g, cap, c2, rfl, hPg, setRow_heap _ _ _ _ _ _ (setRow_heap _ _ _ _ _ _ hg), by omega, hcm, by rw [hc2s, hc1s], ?_⟩⟩, ⟨rfl, rfl, rfl, by simp, fun k _ hk => ?_⟩⟩
  · rw [hc2t, hc1]
    have e1 : xs.take (i * 14) = cur.toList.take (i * 14) := by rw [← htake, List.take_take, Nat.min_eq_left (by omega)]
    rw [e1, ← hnews]
    have e2 : (cur.toList.take (i * 14) ++ news).length = r * 14 := by rw [← e1, hnews]; exact hx
    show List.take (r * 14) (cur.toList.take (i * 14) ++ news ++ cur.toList.drop (i * 14 + news.length)) = _
    rw [List.take_append_of_le_length (by omega), List.take_of_length_le (by omega)]
  · have hkg : k ≠ g := fun e => hk (by rw [e])
    rw [setRow_other _ _ _ _ hkg, setRow_other _ _ _ _ hkg]
    rfl
end Go.Proofs.Ytjdhdmljchnidaa
