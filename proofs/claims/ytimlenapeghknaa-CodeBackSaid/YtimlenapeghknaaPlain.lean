/-
  The bytes of a number, of an ID and of a list, and how bytes are read: plain lists, without the program.
-/
namespace Go.Proofs.Ytimlenapeghknaa
set_option linter.unusedVariables false
set_option linter.unusedSimpArgs false

/-- The bytes of a number. -/
def enc (n : Nat) : List UInt8 := if n < 128 then [UInt8.ofNat n] else UInt8.ofNat (n % 128 + 128) :: enc (n / 128)
termination_by n
decreasing_by omega
theorem enc_small {n : Nat} (h : n < 128) : enc n = [UInt8.ofNat n] := by rw [enc]; simp [h]
theorem enc_big {n : Nat} (h : ¬ n < 128) : enc n = UInt8.ofNat (n % 128 + 128) :: enc (n / 128) := by rw [enc]; simp [h]
theorem enc_pos (n : Nat) : 1 ≤ (enc n).length := by
  by_cases h : n < 128
  · rw [enc_small h]; simp
  · rw [enc_big h]; simp
theorem enc_mono (n : Nat) : ∀ m, n ≤ m → (enc n).length ≤ (enc m).length := by
  induction n using Nat.strongRecOn with
  | _ n ih =>
    intro m hm
    by_cases h : n < 128
    · rw [enc_small h]; exact enc_pos m
    · rw [enc_big h, enc_big (n := m) (by omega)]
      have := ih (n / 128) (by omega) (m / 128) (by omega)
      simpa using this
theorem low_toNat {n : Nat} (h : n < 128) : (UInt8.ofNat n).toNat = n := by
  simp [UInt8.toNat_ofNat']; omega
theorem high_toNat (n : Nat) : (UInt8.ofNat (n % 128 + 128)).toNat = n % 128 + 128 := by
  simp [UInt8.toNat_ofNat']; omega
/-- The errors: too large, of no form, too short. -/
abbrev eLarge : Int := 40
abbrev most : Nat := 1099511627776
/-- What a number is read as: the number, the error, what is left. -/
def rd (short form : Int) (i m : Nat) : List UInt8 → Nat × Int × List UInt8
  | [] => (0, short, [])
  | b :: l =>
    if 5 < i then (0, form, [])
    else if most < m + b.toNat % 128 * 128 ^ i then (0, form, [])
    else if 128 ≤ b.toNat then rd short form (i + 1) (m + b.toNat % 128 * 128 ^ i) l
    else if b.toNat = 0 ∧ 0 < i then (0, form, [])
    else (m + b.toNat % 128 * 128 ^ i, 0, l)
section
variable {short form : Int}
theorem pow_le_five {i n m : Nat} (h : m + n * 128 ^ i ≤ most) (h0 : i = 0 ∨ 0 < n) : i ≤ 5 := by
  rcases h0 with rfl | h0
  · omega
  · rcases Nat.lt_or_ge i 6 with h6 | h6
    · omega
    · exfalso
      have h1 : 128 ^ 6 ≤ 128 ^ i := Nat.pow_le_pow_right (by omega) h6
      have h2 : 1 * 128 ^ i ≤ n * 128 ^ i := Nat.mul_le_mul_right _ h0
      have h3 : (128 : Nat) ^ 6 = 4398046511104 := by decide
      unfold most at h
      omega
theorem split_pow (m n i : Nat) : m + n % 128 * 128 ^ i + n / 128 * 128 ^ (i + 1) = m + n * 128 ^ i := by
  have h : n = n / 128 * 128 + n % 128 := by omega
  have e : n * 128 ^ i = n / 128 * 128 * 128 ^ i + n % 128 * 128 ^ i := by
    rw [← Nat.add_mul, ← h]
  rw [e, Nat.pow_succ]
  have : n / 128 * (128 ^ i * 128) = n / 128 * 128 * 128 ^ i := by
    rw [Nat.mul_comm (128 ^ i) 128, Nat.mul_assoc]
  omega
/-- What was written is read. -/
theorem rd_enc (n : Nat) : ∀ (i m : Nat) (r : List UInt8), m + n * 128 ^ i ≤ most → (i = 0 ∨ 0 < n) → rd short form i m (enc n ++ r) = (m + n * 128 ^ i, 0, r) := by
  induction n using Nat.strongRecOn with
  | _ n ih =>
    intro i m r h h0
    have h5 := pow_le_five h h0
    by_cases hs : n < 128
    · rw [enc_small hs]
      simp only [List.singleton_append, rd, low_toNat hs]
      have hm : n % 128 = n := by omega
      rw [if_neg (by omega), if_neg (by rw [hm]; omega), if_neg (by omega), if_neg (by omega), hm]
    · rw [enc_big hs]
      simp only [List.cons_append, rd, high_toNat]
      have hm : (n % 128 + 128) % 128 = n % 128 := by omega
      have e := split_pow m n i
      have hle : m + n % 128 * 128 ^ i ≤ m + n * 128 ^ i := by omega
      rw [hm, if_neg (by omega), if_neg (by omega), if_pos (by omega), ih (n / 128) (by omega) _ _ _ (by omega) (by omega), e]
/-- Of what was written, cut short, nothing is read. -/
theorem rd_short (n : Nat) : ∀ (i m k : Nat), m + n * 128 ^ i ≤ most → (i = 0 ∨ 0 < n) → k < (enc n).length → rd short form i m ((enc n).take k) = (0, short, []) := by
  induction n using Nat.strongRecOn with
  | _ n ih =>
    intro i m k h h0 hk
    have h5 := pow_le_five h h0
    cases k with
    | zero => simp [rd]
    | succ k =>
      by_cases hs : n < 128
      · rw [enc_small hs] at hk; simp at hk
      · rw [enc_big hs] at hk ⊢
        simp only [List.length_cons, List.take_succ_cons, rd, high_toNat] at hk ⊢
        have hm : (n % 128 + 128) % 128 = n % 128 := by omega
        have e := split_pow m n i
        rw [hm, if_neg (by omega), if_neg (by omega), if_pos (by omega), ih (n / 128) (by omega) _ _ _ (by omega) (by omega) (by omega)]
theorem ofNat_toNat (b : UInt8) (h : b.toNat < 128) : UInt8.ofNat b.toNat = b := by simp
/-- What is read was written so. -/
theorem rd_inv (l : List UInt8) : ∀ (i m v : Nat) (r : List UInt8), short ≠ 0 → form ≠ 0 → rd short form i m l = (v, 0, r) → ∃ n, l = enc n ++ r ∧ v = m + n * 128 ^ i ∧ (i = 0 ∨ 0 < n) ∧ v ≤ most := by
  induction l with
  | nil => intro i m v r hs hf h; simp [rd] at h; exact absurd h.2.1 hs
  | cons b l ih =>
    intro i m v r hs hf h
    simp only [rd] at h
    by_cases h1 : 5 < i
    · rw [if_pos h1] at h; simp at h; exact absurd h.2.1 hf
    rw [if_neg h1] at h
    by_cases h2 : most < m + b.toNat % 128 * 128 ^ i
    · rw [if_pos h2] at h; simp at h; exact absurd h.2.1 hf
    rw [if_neg h2] at h
    have hb := b.toNat_lt
    by_cases h3 : 128 ≤ b.toNat
    · rw [if_pos h3] at h
      obtain ⟨n, hl, hv, hn, hle⟩ := ih _ _ _ _ hs hf h
      have hn : 0 < n := by omega
      refine ⟨n * 128 + b.toNat % 128, ?_, ?_, .inr (by omega), hle⟩
      · rw [enc_big (by omega), show (n * 128 + b.toNat % 128) / 128 = n by omega, show (n * 128 + b.toNat % 128) % 128 + 128 = b.toNat by omega, List.cons_append, ← hl]
        simp
      · have e := split_pow m (n * 128 + b.toNat % 128) i
        rw [show (n * 128 + b.toNat % 128) / 128 = n by omega, show (n * 128 + b.toNat % 128) % 128 = b.toNat % 128 by omega] at e
        omega
    · rw [if_neg h3] at h
      by_cases h4 : b.toNat = 0 ∧ 0 < i
      · rw [if_pos h4] at h; simp at h; exact absurd h.2.1 hf
      · rw [if_neg h4] at h
        simp only [Prod.mk.injEq, true_and] at h
        obtain ⟨h, rfl⟩ := h
        have hm : b.toNat % 128 = b.toNat := by omega
        refine ⟨b.toNat, ?_, by rw [← h, hm], by omega, by omega⟩
        rw [enc_small (by omega)]; simp
/-- What is read wrong is nothing, and nothing is left. -/
theorem rd_wrong (l : List UInt8) : ∀ (i m v : Nat) (e : Int) (r : List UInt8), rd short form i m l = (v, e, r) → e = 0 ∨ (v = 0 ∧ r = [] ∧ (e = short ∨ e = form)) := by
  induction l with
  | nil => intro i m v e r h; simp only [rd, Prod.mk.injEq] at h; obtain ⟨rfl, rfl, rfl⟩ := h; simp
  | cons b l ih =>
    intro i m v e r h
    simp only [rd] at h
    split at h
    · simp only [Prod.mk.injEq] at h; obtain ⟨rfl, rfl, rfl⟩ := h; simp
    split at h
    · simp only [Prod.mk.injEq] at h; obtain ⟨rfl, rfl, rfl⟩ := h; simp
    split at h
    · exact ih _ _ _ _ _ h
    split at h
    · simp only [Prod.mk.injEq] at h; obtain ⟨rfl, rfl, rfl⟩ := h; simp
    · simp only [Prod.mk.injEq] at h; exact .inl h.2.1.symm
end
/-- None begins by another one's. -/
theorem enc_prefix (a : Nat) : ∀ (b : Nat) (r s : List UInt8), enc a ++ r = enc b ++ s → a = b ∧ r = s := by
  induction a using Nat.strongRecOn with
  | _ a ih =>
    intro b r s h
    by_cases ha : a < 128 <;> by_cases hb : b < 128
    · rw [enc_small ha, enc_small hb] at h
      simp only [List.singleton_append, List.cons.injEq] at h
      have := congrArg UInt8.toNat h.1
      rw [low_toNat ha, low_toNat hb] at this
      exact ⟨this, h.2⟩
    · rw [enc_small ha, enc_big hb] at h
      simp only [List.singleton_append, List.cons_append, List.cons.injEq] at h
      have := congrArg UInt8.toNat h.1
      rw [low_toNat ha, high_toNat] at this
      omega
    · rw [enc_big ha, enc_small hb] at h
      simp only [List.singleton_append, List.cons_append, List.cons.injEq] at h
      have := congrArg UInt8.toNat h.1
      rw [low_toNat hb, high_toNat] at this
      omega
    · rw [enc_big ha, enc_big hb] at h
      simp only [List.cons_append, List.cons.injEq] at h
      have h1 := congrArg UInt8.toNat h.1
      rw [high_toNat, high_toNat] at h1
      obtain ⟨h2, h3⟩ := ih (a / 128) (by omega) (b / 128) r s h.2
      exact ⟨by omega, h3⟩
theorem enc_inj {a b : Nat} (h : enc a = enc b) : a = b := (enc_prefix a b [] [] (by simpa using h)).1
/-- A number's bytes begin by another one's only if it is the same. -/
theorem enc_begins {a b : Nat} (h : (enc b).take (enc a).length = enc a) : a = b := by
  have := enc_prefix a b ((enc b).drop (enc a).length) [] (by rw [List.append_nil]; conv => rhs; rw [← List.take_append_drop (enc a).length (enc b), h])
  exact this.1
end Go.Proofs.Ytimlenapeghknaa
