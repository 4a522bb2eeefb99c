/-
  The walk of the law CodeBack.
-/
import Derived.Test.YtimlenapeghknaaInts
namespace Go.Proofs.Ytimlenapeghknaa
open Go.RowKit
set_option linter.unusedVariables false
set_option linter.unusedSimpArgs false
attribute [local go_sem ↓] Go.wp_at_zero Go.wp_at_succ
theorem info3 : ∃ i z, Try.prog.info? 3 = some i ∧ i.zero = some z ∧ i.size = 1 ∧ i.bytes = 8 ∧ z.cells.size = 1 := by
  have h : (Try.prog.info? 3).map (fun i => (i.size, i.bytes, i.zero.map (·.cells.size))) = some (1, 8, some 1) := by kernel_rfl
  cases hi : Try.prog.info? 3 with
  | none => rw [hi] at h; simp at h
  | some i =>
    rw [hi] at h
    simp only [Option.map_some, Option.some.injEq, Prod.mk.injEq] at h
    obtain ⟨h1, h2, h3⟩ := h
    cases hz : i.zero with
    | none => rw [hz] at h3; simp at h3
    | some z => rw [hz] at h3; simp at h3; exact ⟨i, z, rfl, hz, h1, h2, h3⟩
def nvals (l : List Nat) : List Value := l.map fun (n : Nat) => Value.int .i64 (n : Int)
theorem nvals_snoc (l : List Nat) (n : Nat) : nvals (l ++ [n]) = nvals l ++ [.int .i64 (n : Int)] := by simp [nvals]
theorem own_same1 {base n : Nat} {v : Value} {xs : List Value} {w w' : World} (h : w.ownsRow base 3 1 v n xs) (hK : ∀ k, v.ownBlock = some k → w'.heap[k]? = w.heap[k]?) : w'.ownsRow base 3 1 v n xs := by
  refine ⟨h.1, ?_⟩
  rcases h.2 with h2 | ⟨g, cap, cur, h1, h2, h3, h4⟩
  · exact .inl h2
  · exact .inr ⟨g, cap, cur, h1, h2, (hK g (by rw [h1]; rfl)).trans h3, h4⟩
theorem cell_int {w : World} {a : Int} : ∀ j u, ([.int .i64 a] : List Value)[j]? = some u → (w.alloc (.cells #[.int .i64 a] 3)).cell? ((⟨w.heap.size, 0, none⟩ : Addr).add j) = some u := by
  intro j u hj
  match j, hj with
  | 0, hj => simp at hj; subst hj; simp [Addr.add]
/-- A row of numbers in memory. -/
structure NRow (oa : Option Addr) (l : List Nat) (w : World) : Prop where
  cell : ∀ k (hk : k < l.length), ∃ g, oa = some ⟨g, 0, none⟩ ∧ g < w.heap.size ∧ w.cell? ⟨g, k, none⟩ = some (.int .i64 (l[k] : Int))
theorem NRow.below {oa : Option Addr} {l : List Nat} {w w' : World} (h : NRow oa l w) (hb : Below w.heap.size w w') : NRow oa l w' :=
  ⟨fun k hk => by
    obtain ⟨g, e, hlt, h1⟩ := h.cell k hk
    exact ⟨g, e, Nat.lt_of_lt_of_le hlt hb.size, (hb.cell (p := ⟨g, _, none⟩) hlt).trans h1⟩⟩
theorem nrow_of_own {base n : Nat} {v : Value} {l : List Nat} {w : World} (h : w.ownsRow base 3 1 v n (nvals l)) (hn : n = l.length) : ∃ oa cap, v = .slice oa l.length cap ∧ NRow oa l w := by
  subst hn
  rcases h.2 with ⟨h1, h2⟩ | ⟨g, cap, cur, h1, h2, h3, -⟩
  · have : l = [] := List.eq_nil_of_length_eq_zero h2
    subst this
    exact ⟨none, 0, h1, ⟨fun k hk => by simp at hk⟩⟩
  · subst h1
    refine ⟨some ⟨g, 0, none⟩, cap, rfl, ⟨fun k hk => ⟨g, rfl, (Array.getElem?_eq_some_iff.1 h3).1, ?_⟩⟩⟩
    have := World.ownsRow.cellAt h k (by omega)
    rw [this]
    simp [nvals, hk]
/-- Numbers, one behind the other. -/
def flat : List Nat → List UInt8
  | [] => []
  | n :: l => enc n ++ flat l
theorem flat_append (a b : List Nat) : flat (a ++ b) = flat a ++ flat b := by
  induction a with
  | nil => rfl
  | cons n a ih => simp [flat, ih]
theorem flat_le (l : List Nat) (h : ∀ n ∈ l, n ≤ most) : (flat l).length ≤ l.length * 6 := by
  induction l with
  | nil => simp [flat]
  | cons n l ih =>
    have h1 := enc_le (h n (by simp))
    have h2 := ih (fun m hm => h m (by simp [hm]))
    simp only [flat, List.length_append, List.length_cons]
    omega
theorem ints_at {w : World} {oa : Option Addr} {cap : Nat} {l : List Int} (h : IntsHold w (.slice oa l.length cap) l) {k : Nat} (hk : k < l.length) : ∃ b off, oa = some ⟨b, off, none⟩ ∧ b < w.heap.size ∧ w.cell? ⟨b, off + k, none⟩ = some (.int .i64 l[k]) := by
  obtain ⟨oa', cap', he, h1⟩ := h
  simp only [Value.slice.injEq] at he
  obtain ⟨rfl, -, rfl⟩ := he
  exact h1 k hk
def idsB (l : List Idn) : List UInt8 := if 64 < l.length then [] else if rise l = true then encIds l else []
def idB (x : Idn) : List UInt8 := if x.may = true then encId x else []
theorem idsB_cases (l : List Idn) : (idsE l = 0 ∧ l.length ≤ 64 ∧ rise l = true ∧ idsB l = encIds l) ∨ ((idsE l == 0) = false ∧ idsB l = []) := by
  unfold idsE idsB
  by_cases h : 64 < l.length
  · rw [if_pos h, if_pos h]; exact .inr ⟨rfl, rfl⟩
  · rw [if_neg h, if_neg h]
    cases hr : rise l
    · exact .inr ⟨rfl, rfl⟩
    · exact .inl ⟨rfl, by omega, rfl, rfl⟩
theorem Row.through {oa : Option Addr} {l : List Idn} {w w1 w2 : World} {R : Nat} (h : Row oa l w) (hb : Below w.heap.size w w1) (hK : Keep R w1 w2) (hR : w.heap.size ≤ R) : Row oa l w2 :=
  ⟨h.len, fun k hk => by
    obtain ⟨b, off, e, hlt, h1, h2⟩ := h.cell k hk
    have hlt1 : b < w1.heap.size := Nat.lt_of_lt_of_le hlt hb.size
    exact ⟨b, off, e, Nat.lt_of_lt_of_le hlt1 hK.size, (hK.cell (p := ⟨b, _, none⟩) hlt1 (by simp; omega)).trans ((hb.cell (p := ⟨b, _, none⟩) hlt).trans h1), (hK.cell (p := ⟨b, _, none⟩) hlt1 (by simp; omega)).trans ((hb.cell (p := ⟨b, _, none⟩) hlt).trans h2)⟩⟩
theorem idsS_eq (t : List UInt8) (l : List Idn) : idsS t l = t ++ idsB l := by
  unfold idsS idsB
  split
  · simp
  · split <;> simp
theorem idS_eq (u : List UInt8) (x : Idn) : idS u x = u ++ idB x := by
  unfold idS idB
  split <;> simp
theorem idsS_le (t : List UInt8) (l : List Idn) (h : t.length ≤ 600) : (idsS t l).length ≤ 2000 := by
  unfold idsS
  by_cases h1 : 64 < l.length
  · rw [if_pos h1]; omega
  · rw [if_neg h1]
    cases hr : rise l
    · simp; omega
    · have := encIds_bounds (by omega) hr
      rw [if_pos rfl, List.length_append]; omega
theorem idS_le (u : List UInt8) (x : Idn) (h : u.length ≤ 2000) : (idS u x).length ≤ 3000 := by
  unfold idS
  cases hr : x.may
  · simp; omega
  · have := encId_le hr
    rw [if_pos rfl, List.length_append]; omega
theorem num9_in (l : List UInt8) (n : Int) (w : World) (h0 : 0 ≤ n) (h : n ≤ 1099511627776) (hs : l.length ≤ 50000) :
    Calls Try.prog 9 #[str l, .int .i64 n] w fun e w' => e = .returned (.tuple #[str (l ++ enc n.toNat), .int .i64 0]) ∧ Below w.heap.size w w' := num9_int l n w h0 h hs
/-- The first loop. -/
def Kept (w1 : World) (len : Nat) (t v i : Value) (wr : World) : Prop :=
  ∃ (k : Nat) (kept : List Nat), k ≤ len ∧ i = .int .i64 k ∧ t = str (flat kept) ∧ kept.length ≤ k ∧ (∀ n ∈ kept, n ≤ most) ∧ wr.ownsRow w1.heap.size 3 1 v kept.length (nvals kept) ∧ Below w1.heap.size w1 wr
set_option maxRecDepth 100000 in
set_option maxHeartbeats 16000000 in
theorem back_walk (oa0 : Option Addr) (cap0 : Nat) (ns : List Int) (oa1 : Option Addr) (cap1 : Nat) (l : List Idn) (x : Idn) (s : ByteArray) (w : World)
    (hns : IntsHold w (.slice oa0 ns.length cap0) ns) (hl : Idn.Holds w (.slice oa1 l.length cap1) l) :
    Calls Try.prog 7 #[.slice oa0 ns.length cap0, .slice oa1 l.length cap1, .agg #[.int .i64 x.a, .int .i64 x.i], .string s] w fun r w' => r = .returned (.bool true) ∧ Below w.heap.size w w' := by
  obtain ⟨d, hd⟩ : ∃ d, d = s.data.toList := ⟨_, rfl⟩
  have hst : s = ⟨d.toArray⟩ := by rw [hd, Array.toArray_toList]
  subst hst
  clear hd
  rcases (show 100 < ns.length ∨ (ns.length ≤ 100 ∧ 200 < l.length) ∨ (ns.length ≤ 100 ∧ l.length ≤ 200 ∧ 1000 < d.length) ∨ (ns.length ≤ 100 ∧ l.length ≤ 200 ∧ d.length ≤ 1000) by omega) with g | ⟨g, g1⟩ | ⟨g, g1, g2⟩ | ⟨g, g1, g2⟩
  rotate_right 1
  · have hR : Row oa1 l w := hl.row (by omega)
    obtain ⟨i3, z3, hi3, hz3, hs3, hb3, hzs3⟩ := info3
    go_enter Try.func7, Try.ntmps7
    go_wp2_with fail
    refine (awake_any _).mono ?_
    rintro r w1 ⟨rfl, hb1⟩
    have y0 : w1.cell? ⟨w.heap.size, 0, none⟩ = some (.int .i64 x.a) := (hb1.cell (p := ⟨w.heap.size, 0, none⟩) (by simp)).trans (by simp)
    have y1 : w1.cell? ⟨w.heap.size, 1, none⟩ = some (.int .i64 x.i) := (hb1.cell (p := ⟨w.heap.size, 1, none⟩) (by simp)).trans (by simp)
    have hz : w.heap.size < w1.heap.size := by have := hb1.size; simp at this; omega
    have HY := Lib.hid (And.intro y0 y1)
    have HB1 := Lib.hid (((Below.refl _ w).alloc (Nat.le_refl _) (.cells #[.int .i64 x.a, .int .i64 x.i] 23)).trans (hb1.mono (by simp)))
    clear hb1 y0 y1
    go_wp2_with fail
    go_loopw [9, 10, 11] (fun t v i wr => Kept w1 ns.length t v i wr) (fun _ _ i _ => ns.length - (intOf i).toNat)
    case atStart => exact ⟨0, [], by omega, rfl, rfl, by simp, by simp, by simpa [nvals] using World.ownsRow_nil _ _ _ _, Below.refl _ _⟩
    case round =>
      rename_i u9 u10 u11
      obtain ⟨k, kept, hk, rfl, rfl, hkl, hmost, hown, hb⟩ := hrel
      have hfl := flat_le kept hmost
      have HM := Lib.hid hmost
      clear hmost
      by_cases hlt : k < ns.length
      · obtain ⟨b, off, rfl, hbl, q⟩ := ints_at hns hlt
        generalize ns[k] = z at q
        have hbw1 := HB1.out.size
        have q := (hb.cell (p := ⟨b, off + k, none⟩) (by simp; omega)).trans ((HB1.out.cell (p := ⟨b, off + k, none⟩) hbl).trans q)
        have hbr : b < wr.heap.size := by have := hb.size; omega
        generalize hft : flat kept = t at hfl
        have HFT := Lib.hid hft
        clear hft
        by_cases hz0 : 0 ≤ z ∧ z ≤ 1099511627776
        · obtain ⟨zn, rfl⟩ : ∃ zn : Nat, z = zn := ⟨z.toNat, by omega⟩
          have hzi : (zn : Int) ≤ 1099511627776 := hz0.2
          have hzm : zn ≤ most := by unfold most; omega
          clear hz0
          go_wp2_with fail
          refine (num9 t zn _ hzm (by omega)).mono ?_
          rintro r w2 ⟨rfl, hb2⟩
          have q2 := (hb2.cell (p := ⟨b, off + k, none⟩) hbr).trans q
          have hown2 : w2.ownsRow w1.heap.size 3 1 u10 kept.length (nvals kept) := own_same1 hown (fun j hv => hb2.block j (World.ownsRow.lt hown j hv).2)
          have HB2 := Lib.hid (hb.trans (hb2.mono hb.size))
          have hb2s := HB2.out.size
          have hbr2 : b < w2.heap.size := by omega
          have HQ : Hid (∀ w' : World, (w2.alloc (.cells #[.int .i64 (zn : Int)] 3)).grownBy w' u10.ownBlock → w'.cell? ⟨b, off + k, none⟩ = some (.int .i64 (zn : Int))) := Lib.hid (fun w' hg => by
            have e := hg.block b (by simp; omega) (fun e => by have := (World.ownsRow.lt hown2 b e.symm).1; omega)
            exact (World.cell?_of_block (w := w2.alloc (.cells #[.int .i64 (zn : Int)] 3)) (a := ⟨b, off + k, none⟩) e).trans ((((Below.refl _ w2).alloc (Nat.le_refl _) (.cells #[.int .i64 (zn : Int)] 3)).cell (p := ⟨b, off + k, none⟩) hbr2).trans q2))
          have HO2 := Lib.hid hown2
          have hbase : w1.heap.size ≤ (w2.alloc (.cells #[.int .i64 (zn : Int)] 3)).heap.size := by simp; omega
          have HBS := Lib.hid hbase
          clear hown hown2 hb hb2 q hbase
          go_wp2_with (first | (at_builtin; refine wpList_append_own _ rfl _ _ 46 rfl w1.heap.size 3 i3 z3 1 8 Try.underlying46 hi3 hz3 hs3 hb3 hzs3 (by decide) u10 kept.length (nvals kept) rfl (HO2.out.alloc _) ⟨w2.heap.size, 0, none⟩ 1 1 [.int .i64 (zn : Int)] rfl rfl cell_int (by simp [Value.oneCell']) (by unfold maxLen; omega) (by omega) HBS.out ?_; intro v4 w4 hown4 hgrow4 hnil4; have q4 := HQ.out _ hgrow4) | fail)
          refine ⟨⟨k + 1, kept ++ [zn], by omega, by go_num, by rw [flat_append, HFT.out]; simp [flat], by rw [List.length_append, List.length_singleton]; omega, ?_, ?_, ?_⟩, ?_⟩
          · intro n hn
            rcases List.mem_append.1 hn with h | h
            · exact HM.out n h
            · rw [List.mem_singleton.1 h]; exact hzm
          · rw [List.length_append, List.length_singleton, nvals_snoc]; exact hown4
          · exact Below.grown (HB2.out.alloc HB2.out.size (.cells #[.int .i64 (zn : Int)] 3)) hgrow4 (HB2.out.alloc HB2.out.size (.cells #[.int .i64 (zn : Int)] 3)).size (fun j hv => (World.ownsRow.lt HO2.out j hv).1)
          · simp only [intOf]; omega
        · by_cases hz1 : z < 0
          · clear hz0
            go_wp2_with fail
            refine (num_no ⟨t.toArray⟩ z _ (.inl hz1)).mono ?_
            rintro r w2 ⟨rfl, rfl⟩
            go_wp2_with fail
            go_roundw
            case rel => exact ⟨k + 1, kept, by omega, by go_num, by rw [HFT.out], by omega, HM.out, hown, hb⟩
            case measure => simp only [intOf]; omega
          · have hz2 : 1099511627776 < z := by omega
            have hz3' : 0 ≤ z := by omega
            clear hz0 hz1
            go_wp2_with fail
            refine (num_no ⟨t.toArray⟩ z _ (.inr hz2)).mono ?_
            rintro r w2 ⟨rfl, rfl⟩
            go_wp2_with fail
            go_roundw
            case rel => exact ⟨k + 1, kept, by omega, by go_num, by rw [HFT.out], by omega, HM.out, hown, hb⟩
            case measure => simp only [intOf]; omega
      · obtain rfl : k = ns.length := by omega
        obtain ⟨ok, capk, rfl, hN⟩ := nrow_of_own hown rfl
        have hB2 := HB1.out.trans (hb.mono HB1.out.size)
        have y0 := (hb.cell (p := ⟨w.heap.size, 0, none⟩) hz).trans HY.out.1
        have y1 := (hb.cell (p := ⟨w.heap.size, 1, none⟩) hz).trans HY.out.2
        have hzr : w.heap.size < wr.heap.size := Nat.lt_of_lt_of_le hz hb.size
        have hfl2 : (flat kept).length ≤ 600 := by omega
        clear hown hb hfl
        obtain ⟨t, ht⟩ : ∃ t, t = flat kept := ⟨_, rfl⟩
        rw [← ht] at hfl2 ⊢
        have HT := Lib.hid ht
        clear ht
        go_wp2_with fail
        refine (ids13_all t oa1 cap1 l _ (hR.below hB2) (by omega)).mono ?_
        rintro r w2 ⟨rfl, hb2⟩
        have y0 := (hb2.cell (p := ⟨w.heap.size, 0, none⟩) hzr).trans y0
        have y1 := (hb2.cell (p := ⟨w.heap.size, 1, none⟩) hzr).trans y1
        have hz2 := Nat.lt_of_lt_of_le hzr hb2.size
        have hN2 := hN.below hb2
        have HB2 := Lib.hid (then_below hB2 hb2)
        clear hN hb2 hB2 hzr
        have hul : (idsS t l).length ≤ 2000 := idsS_le t l hfl2
        obtain ⟨u, hu⟩ : ∃ u, u = idsS t l := ⟨_, rfl⟩
        rw [← hu] at hul ⊢
        have HU := Lib.hid hu
        clear hu
        go_wp2_with fail
        refine (id11_all u x _ (by omega)).mono ?_
        rintro r w3 ⟨rfl, hb3⟩
        have y0 := (hb3.cell (p := ⟨w.heap.size, 0, none⟩) hz2).trans y0
        have y1 := (hb3.cell (p := ⟨w.heap.size, 1, none⟩) hz2).trans y1
        have hz3 := Nat.lt_of_lt_of_le hz2 hb3.size
        have hN3 := hN2.below hb3
        have HB3 := Lib.hid (then_below HB2.out hb3)
        clear hN2 hb3 HB2 hz2
        have hvl : (idS u x).length ≤ 3000 := idS_le u x hul
        obtain ⟨v, hv⟩ : ∃ v, v = idS u x := ⟨_, rfl⟩
        rw [← hv] at hvl ⊢
        have HV := Lib.hid hv
        clear hv
        have hcat := cat_str v d
        have HX : Hid (v ++ d = flat kept ++ (idsB l ++ (idB x ++ d))) := Lib.hid (by rw [HV.out, idS_eq, HU.out, idsS_eq, HT.out]; simp)
        go_wp2_with fail
        refine (open_any (v ++ d) _).mono ?_
        rintro r w4 ⟨rfl, h4, hb4⟩
        clear hcat
        rw [HX.out] at h4
        have HB4 := Lib.hid (then_below HB3.out hb4)
        have y0 := (hb4.cell (p := ⟨w.heap.size, 0, none⟩) hz3).trans y0
        have y1 := (hb4.cell (p := ⟨w.heap.size, 1, none⟩) hz3).trans y1
        have hs4 := hb4.size
        have HN : Hid (∀ j (hj : j < kept.length), ∃ g, ok = some ⟨g, 0, none⟩ ∧ g < w3.heap.size ∧ w4.cell? ⟨g, j, none⟩ = some (.int .i64 (kept[j] : Int))) := Lib.hid (fun j hj => by
          obtain ⟨g, e, hlt, h1⟩ := hN3.cell j hj
          exact ⟨g, e, hlt, (hb4.cell (p := ⟨g, j, none⟩) hlt).trans h1⟩)
        have HR4 := Lib.hid (hR.below HB4.out)
        have hkl2 : kept.length ≤ 100 := by omega
        have HHZ := Lib.hid (And.intro hz3 hs4)
        have HY4 := Lib.hid (And.intro y0 y1)
        have hbl : (idsB l ++ (idB x ++ d)).length ≤ 4000 := by
          have := congrArg List.length HX.out
          simp only [List.length_append] at this ⊢
          omega
        have htl0 : (flat kept).length ≤ 700 := by rw [← HT.out]; omega
        clear hb4 hN3 HB3 HX HV HU hvl hul hfl2 y0 y1 hz3 hs4
        generalize w3.heap.size = R at h4 HN HHZ ⊢
        go_wp2_with fail
        go_loopw [19, 20, 21] (fun i _ _ wr => ∃ j : Nat, j ≤ kept.length ∧ i = .int .i64 j ∧ Rd R (flat (kept.drop j) ++ (idsB l ++ (idB x ++ d))) 0 wr ∧ Keep R w4 wr) (fun i _ _ _ => kept.length - (intOf i).toNat)
        case atStart => exact ⟨0, by omega, rfl, h4, Keep.refl _ _⟩
        case round =>
          clear h4
          obtain ⟨j, hj, rfl, h5, hK5⟩ := hrel
          by_cases hjl : j < kept.length
          · obtain ⟨g', rfl, hgl, hc⟩ := HN.out j hjl
            have hne : g' ≠ R := by omega
            have hgl4 : g' < w4.heap.size := by have := HHZ.out.2; omega
            have hc5 := (hK5.cell (p := ⟨g', j, none⟩) hgl4 hne).trans hc
            have hnm := HM.out _ (List.getElem_mem hjl)
            rw [List.drop_eq_getElem_cons hjl] at h5
            simp only [flat, List.append_assoc] at h5
            generalize kept[j] = n at hc hc5 hnm h5
            have hrn := rn_enc hnm (flat (kept.drop (j + 1)) ++ (idsB l ++ (idB x ++ d)))
            have hlen : (enc n ++ (flat (kept.drop (j + 1)) ++ (idsB l ++ (idB x ++ d)))).length ≤ 100000 := by
              have h1 := enc_le hnm
              have h2 := flat_le (kept.drop (j + 1)) (fun m hm => HM.out m (List.mem_of_mem_drop hm))
              rw [List.length_drop] at h2
              rw [List.length_append, List.length_append]
              omega
            have H5 := Lib.hid (And.intro hlen hrn)
            have hgl5 := Nat.lt_of_lt_of_le hgl4 hK5.size
            clear hlen hrn hc hnm
            go_wp2_with fail
            refine (num17_right R _ _ n _ h5 H5.out.1 H5.out.2).mono ?_
            rintro r w6 ⟨rfl, h6, hK6⟩
            have hc6 := (hK6.cell (p := ⟨g', j, none⟩) hgl5 hne).trans hc5
            have HK6 := Lib.hid (hK5.trans hK6)
            clear hc5 hK5 hK6 h5
            go_wp2_with fail
            go_roundw
            case rel => exact ⟨j + 1, by omega, by go_num, h6, HK6.out⟩
            case measure => simp only [intOf]; omega
          · obtain rfl : j = kept.length := by omega
            rw [List.drop_length] at h5
            have h5 : Rd R (idsB l ++ (idB x ++ d)) 0 wr := h5
            go_upto_if 131 with fail
            go_cut [22, 23] (fun _ _ wx => Rd R (idB x ++ d) 0 wx ∧ Keep R w4 wx)
            case first =>
              rcases idsB_cases l with ⟨he, h64, hrise, hs⟩ | ⟨he, hs⟩
              · have heb : (idsE l == 0) = true := by rw [he]; rfl
                rw [hs] at h5 hbl
                have hrl := rl_enc hrise h64 (idB x ++ d)
                have HRL := Lib.hid hrl
                have hbl2 : (encIds l ++ (idB x ++ d)).length ≤ 100000 := by omega
                clear he hs hrise hrl
                go_wp2_with fail
                refine (ids18_right l _ h5 hbl2 HRL.out).mono ?_
                rintro r w6 ⟨oa6, cap6, rfl, hRow, h6, hK6⟩
                have hR6 := hR.through HB4.out (hK5.trans hK6) (Nat.le_of_lt HHZ.out.1)
                have HK6 := Lib.hid (hK5.trans hK6)
                clear hK5 hK6 h5
                go_wp2_with fail
                refine (same_any oa6 oa1 cap6 cap1 l l _ hRow hR6).mono ?_
                rintro r w7 ⟨rfl, hb7⟩
                have H7 := Lib.hid (And.intro (h6.kept hb7) (HK6.out.trans (Keep.of_below hb7)))
                clear hb7 hRow hR6 h6
                rw [show decide (l = l) = true by simp]
                go_wp2_with fail
                go_meet
                case rel => exact H7.out
              · rw [hs, List.nil_append] at h5
                go_wp2_with fail
                go_meet
                case rel => exact ⟨h5, hK5⟩
            case rest =>
              obtain ⟨h7, hK7⟩ := hcut
              clear h5 hK5
              have hdl : (idB x ++ d).length ≤ 100000 := by rw [List.length_append] at hbl; omega
              go_upto_if 146 with fail
              go_cut [24, 25] (fun _ _ wx => Rd R d 0 wx ∧ Keep R w4 wx)
              case first =>
                cases hm : x.may
                · have hs : idB x = [] := by simp [idB, hm]
                  have he : (idE x == 0) = false := by simp [idE, hm]
                  rw [hs, List.nil_append] at h7
                  clear hs hm
                  go_wp2_with fail
                  go_meet
                  case rel => exact ⟨h7, hK7⟩
                · have hs : idB x = encId x := by simp [idB, hm]
                  have heb : (idE x == 0) = true := by simp [idE, hm]
                  rw [hs] at h7 hdl
                  have HRI := Lib.hid (ri_enc hm d)
                  clear hs hm
                  go_wp2_with fail
                  refine (id20_right x d h7 hdl HRI.out).mono ?_
                  rintro r w8 ⟨rfl, h8, hK8⟩
                  have HK8 := Lib.hid (hK7.trans hK8)
                  have hz8 : w.heap.size < w8.heap.size := by have := HHZ.out; have := HK8.out.size; omega
                  have y0 := (HK8.out.cell (p := ⟨w.heap.size, 0, none⟩) (by have := HHZ.out; simp; omega) (by have := HHZ.out; simp; omega)).trans HY4.out.1
                  have y1 := (HK8.out.cell (p := ⟨w.heap.size, 1, none⟩) (by have := HHZ.out; simp; omega) (by have := HHZ.out; simp; omega)).trans HY4.out.2
                  clear hK7 hK8 h7
                  go_wp2_with fail
                  go_meet
                  case rel => exact ⟨h8.alloc _, HK8.out.alloc _⟩
              case rest =>
                obtain ⟨h8, hK8⟩ := hcut
                clear h7 hK7
                have HK8 := Lib.hid hK8
                clear hK8
                by_cases hd0 : d = []
                · have hee : endE d = 0 := if_pos hd0
                  have HE := Lib.hid hee
                  subst hd0
                  clear hee
                  go_wp2_with fail
                  refine (left_any R [] 0 _ h8).mono ?_
                  rintro r w9 ⟨rfl, rfl⟩
                  go_wp2_with fail
                  refine (end21 R [] _ h8).mono ?_
                  rintro r w10 ⟨rfl, hK10⟩
                  rw [HE.out]
                  have HK10 := Lib.hid (HK8.out.trans hK10)
                  clear hK10
                  go_wp2_with fail
                  go_ret
                  exact ⟨rfl, HB4.out.trans (HK10.out.below (Nat.le_of_lt HHZ.out.1) HB4.out.size)⟩
                · have hee : endE d = 4 := if_neg hd0
                  have hde : d.isEmpty = false := by simpa using hd0
                  have HE := Lib.hid hee
                  clear hee hd0
                  go_wp2_with fail
                  refine (left_any R d 0 _ h8).mono ?_
                  rintro r w9 ⟨rfl, rfl⟩
                  go_wp2_with fail
                  refine (end21 R d _ h8).mono ?_
                  rintro r w10 ⟨rfl, hK10⟩
                  rw [HE.out]
                  have HK10 := Lib.hid (HK8.out.trans hK10)
                  clear hK10
                  go_wp2_with fail
                  go_ret
                  exact ⟨rfl, HB4.out.trans (HK10.out.below (Nat.le_of_lt HHZ.out.1) HB4.out.size)⟩
  all_goals
    go_enter Try.func7, Try.ntmps7
    go_wp2_with fail
    refine (awake_any _).mono ?_
    rintro r w1 ⟨rfl, hb1⟩
    go_wp2_with fail
    go_ret
    exact ⟨rfl, ((Below.refl _ w).alloc (Nat.le_refl _) _).trans (hb1.mono (by simp))⟩
end Go.Proofs.Ytimlenapeghknaa
