/-
  The plain law of the sum: one bit's bstep is linear and one to one, so a text's sum is linear in the text, and two texts that differ within four bytes have two sums.
-/
namespace Go.Proofs.Ytdiigplcpalepaa.Crc

def poly : BitVec 32 := 0xEDB88320#32
/-- One bit falls out. -/
def bstep (x : BitVec 32) : BitVec 32 := if x.getLsbD 0 then (x >>> 1) ^^^ poly else x >>> 1
def bsteps : Nat → BitVec 32 → BitVec 32
  | 0, x => x
  | n + 1, x => bsteps n (bstep x)
def b32 (b : UInt8) : BitVec 32 := b.toBitVec.zeroExtend 32
def upd (x : BitVec 32) (b : UInt8) : BitVec 32 := bsteps 8 (x ^^^ b32 b)
def over (x : BitVec 32) (l : List UInt8) : BitVec 32 := l.foldl upd x
def add (x : BitVec 32) (l : List UInt8) : BitVec 32 := ~~~(over (~~~x) l)
def sum (l : List UInt8) : BitVec 32 := add 0 l

theorem bsteps_succ (n : Nat) (x : BitVec 32) : bsteps (n + 1) x = bstep (bsteps n x) := by
  induction n generalizing x with
  | zero => rfl
  | succ n ih => rw [bsteps, ih (bstep x)]; rfl

theorem bstep_xor (x y : BitVec 32) : bstep (x ^^^ y) = bstep x ^^^ bstep y := by
  unfold bstep
  rw [BitVec.getLsbD_xor, BitVec.ushiftRight_xor_distrib]
  have e : poly ^^^ poly = 0 := BitVec.xor_self
  cases hx : x.getLsbD 0 <;> cases hy : y.getLsbD 0 <;> simp only [Bool.false_xor, Bool.true_xor, Bool.not_false, Bool.xor_self, Bool.false_eq_true, if_true, if_false]
  · ac_rfl
  · ac_rfl
  · rw [show x >>> 1 ^^^ poly ^^^ (y >>> 1 ^^^ poly) = x >>> 1 ^^^ y >>> 1 ^^^ (poly ^^^ poly) by ac_rfl, e]; simp
theorem bsteps_xor (n : Nat) (x y : BitVec 32) : bsteps n (x ^^^ y) = bsteps n x ^^^ bsteps n y := by
  induction n generalizing x y with
  | zero => rfl
  | succ n ih => simp only [bsteps, bstep_xor, ih]
theorem bstep_zero : bstep 0 = 0 := by decide
theorem bsteps_zero (n : Nat) : bsteps n 0 = 0 := by
  induction n with
  | zero => rfl
  | succ n ih => rw [bsteps, bstep_zero, ih]
theorem bstep_inj0 (x : BitVec 32) (h : bstep x = 0) : x = 0 := by
  unfold bstep at h
  split at h
  · have h1 : (x >>> 1 ^^^ poly).getLsbD 31 = true := by
      rw [BitVec.getLsbD_xor, BitVec.getLsbD_ushiftRight]
      rw [BitVec.getLsbD_of_ge x (1 + 31) (by decide)]
      decide
    rw [h] at h1; simp at h1
  · rename_i h0
    apply BitVec.eq_of_getLsbD_eq
    intro i hi
    cases i with
    | zero => simpa using h0
    | succ i =>
      have := congrArg (fun z : BitVec 32 => z.getLsbD i) h
      simp only [BitVec.getLsbD_ushiftRight] at this
      rw [Nat.add_comm] at this
      simpa using this
theorem bsteps_inj0 (n : Nat) (x : BitVec 32) (h : bsteps n x = 0) : x = 0 := by
  induction n generalizing x with
  | zero => exact h
  | succ n ih => exact bstep_inj0 _ (ih _ h)
theorem xor_eq_zero {x y : BitVec 32} (h : x ^^^ y = 0) : x = y := by
  have : x ^^^ y ^^^ y = 0 ^^^ y := by rw [h]
  rw [BitVec.xor_assoc, BitVec.xor_self] at this
  simpa using this
theorem bsteps_inj (n : Nat) (x y : BitVec 32) (h : bsteps n x = bsteps n y) : x = y := by
  apply xor_eq_zero; apply bsteps_inj0 n; rw [bsteps_xor, h, BitVec.xor_self]; rfl
theorem bstep_even (x : BitVec 32) (h : x.getLsbD 0 = false) : bstep x = x >>> 1 := by
  unfold bstep; rw [h]; rfl
/-- Where the lowest n bits are none, n bits' bsteps push the rest down. -/
theorem bsteps_low (n : Nat) (x : BitVec 32) (h : ∀ i, i < n → x.getLsbD i = false) : bsteps n x = x >>> n := by
  induction n generalizing x with
  | zero => simp [bsteps]
  | succ n ih =>
    rw [bsteps, bstep_even x (h 0 (by omega)), ih]
    · rw [← BitVec.shiftRight_add, Nat.add_comm]
    · intro i hi
      rw [BitVec.getLsbD_ushiftRight, Nat.add_comm]; exact h _ (by omega)

/-- How the table serves: a byte's eight bsteps. -/
theorem upd_table (x : BitVec 32) (b : UInt8) :
    upd x b = bsteps 8 (((x.setWidth 8 ^^^ b.toBitVec) : BitVec 8).setWidth 32) ^^^ (x >>> 8) := by
  have e : x ^^^ b32 b = ((x.setWidth 8 ^^^ b.toBitVec) : BitVec 8).setWidth 32 ^^^ (x >>> 8) <<< 8 := by
    apply BitVec.eq_of_getLsbD_eq
    intro i hi
    simp only [b32, BitVec.getLsbD_xor, BitVec.getLsbD_setWidth, BitVec.getLsbD_shiftLeft, BitVec.getLsbD_ushiftRight]
    by_cases h : i < 8
    · simp [h, hi]
    · have h2 : b.toBitVec.getLsbD i = false := BitVec.getLsbD_of_ge _ _ (by omega)
      have h3 : 8 + (i - 8) = i := by omega
      simp [h, hi, h2, h3]
  unfold upd
  rw [e, bsteps_xor, bsteps_low 8 ((x >>> 8) <<< 8)]
  · congr 1
    apply BitVec.eq_of_getLsbD_eq
    intro i hi
    simp only [BitVec.getLsbD_shiftLeft, BitVec.getLsbD_ushiftRight]
    by_cases h : 8 + i < 32
    · simp [h]
    · rw [BitVec.getLsbD_of_ge x (8 + i) (by omega)]
      simp [h]
  · intro i hi
    simp [BitVec.getLsbD_shiftLeft, hi]

theorem over_append (x : BitVec 32) (a b : List UInt8) : over x (a ++ b) = over (over x a) b := by
  simp [over, List.foldl_append]
theorem upd_xor (x y : BitVec 32) (a b : UInt8) : upd (x ^^^ y) (a ^^^ b) = upd x a ^^^ upd y b := by
  unfold upd
  rw [← bsteps_xor]
  congr 1
  have : b32 (a ^^^ b) = b32 a ^^^ b32 b := by
    apply BitVec.eq_of_getLsbD_eq
    intro i hi
    simp [b32, hi]
  rw [this]
  ac_rfl
theorem over_xor (x y : BitVec 32) : ∀ (a b : List UInt8), a.length = b.length → over (x ^^^ y) (List.zipWith (· ^^^ ·) a b) = over x a ^^^ over y b := by
  intro a
  induction a generalizing x y with
  | nil => intro b hb; cases b with
    | nil => rfl
    | cons _ _ => simp at hb
  | cons a l ih => intro b hb; cases b with
    | nil => simp at hb
    | cons b m =>
      simp only [List.zipWith_cons_cons, over, List.foldl_cons]
      rw [upd_xor]
      exact ih _ _ m (by simpa using hb)
theorem over_inj (x y : BitVec 32) (l : List UInt8) (h : over x l = over y l) : x = y := by
  induction l generalizing x y with
  | nil => exact h
  | cons b l ih =>
    have := ih _ _ h
    have := bsteps_inj _ _ _ this
    have : x ^^^ b32 b ^^^ b32 b = y ^^^ b32 b ^^^ b32 b := by rw [this]
    simpa [BitVec.xor_assoc] using this


/-- Four bytes as one word. -/
def word : List UInt8 → BitVec 32
  | [] => 0
  | b :: l => b32 b ^^^ (word l <<< 8)
theorem b32_hi (b : UInt8) (i : Nat) (h : 8 ≤ i) : (b32 b).getLsbD i = false := by
  unfold b32
  rw [BitVec.getLsbD_setWidth, BitVec.getLsbD_of_ge b.toBitVec i h]; simp
theorem word_hi (l : List UInt8) (i : Nat) (h : 8 * l.length ≤ i) : (word l).getLsbD i = false := by
  induction l generalizing i with
  | nil => simp [word]
  | cons b l ih =>
    simp only [List.length_cons] at h
    rw [word, BitVec.getLsbD_xor, b32_hi b i (by omega), BitVec.getLsbD_shiftLeft, ih (i - 8) (by omega)]
    simp
theorem shl_shr (w : BitVec 32) (h : ∀ i, 24 ≤ i → w.getLsbD i = false) : (w <<< 8) >>> 8 = w := by
  apply BitVec.eq_of_getLsbD_eq
  intro i hi
  rw [BitVec.getLsbD_ushiftRight, BitVec.getLsbD_shiftLeft]
  by_cases h2 : 24 ≤ i
  · rw [h i h2]; simp; omega
  · have h3 : 8 + i < 32 := by omega
    simp [h3]
theorem bsteps_add (m n : Nat) (x : BitVec 32) : bsteps (m + n) x = bsteps n (bsteps m x) := by
  induction m generalizing x with
  | zero => rw [Nat.zero_add]; rfl
  | succ m ih => rw [Nat.succ_add, bsteps, ih]; rfl
theorem over_word (x : BitVec 32) (l : List UInt8) (h : l.length ≤ 4) : over x l = bsteps (8 * l.length) (x ^^^ word l) := by
  induction l generalizing x with
  | nil => simp [over, word, bsteps]
  | cons b l ih =>
    simp only [List.length_cons] at h
    have e : bsteps 8 (x ^^^ b32 b) ^^^ word l = bsteps 8 (x ^^^ word (b :: l)) := by
      rw [word, ← BitVec.xor_assoc, bsteps_xor 8 (x ^^^ b32 b), bsteps_low 8 (word l <<< 8), shl_shr]
      · intro i hi; exact word_hi l i (by omega)
      · intro i hi; simp [BitVec.getLsbD_shiftLeft, hi]
    have : over x (b :: l) = over (upd x b) l := rfl
    rw [this, ih _ (by omega), upd, e, List.length_cons, Nat.mul_add, Nat.add_comm, bsteps_add]
theorem word_inj : ∀ (l m : List UInt8), l.length = m.length → l.length ≤ 4 → word l = word m → l = m := by
  intro l
  induction l with
  | nil => intro m hm _ _; cases m with
    | nil => rfl
    | cons _ _ => simp at hm
  | cons b l ih => intro m hm h4 h; cases m with
    | nil => simp at hm
    | cons c m =>
      simp only [List.length_cons] at hm h4
      have low : ∀ i, i < 8 → b.toBitVec.getLsbD i = c.toBitVec.getLsbD i := by
        intro i hi
        have := congrArg (fun w : BitVec 32 => w.getLsbD i) h
        simp only [word, BitVec.getLsbD_xor, BitVec.getLsbD_shiftLeft, b32, BitVec.getLsbD_setWidth] at this
        have h32 : i < 32 := by omega
        simpa [hi, h32] using this
      have hb : b = c := by
        have : b.toBitVec = c.toBitVec := BitVec.eq_of_getLsbD_eq low
        exact UInt8.toBitVec_inj.1 this
      subst hb
      have h2 : word l <<< 8 = word m <<< 8 := by
        have : b32 b ^^^ word (b :: l) = b32 b ^^^ word (b :: m) := by rw [h]
        simp only [word, ← BitVec.xor_assoc, BitVec.xor_self] at this
        simpa using this
      have h3 : word l = word m := by
        rw [← shl_shr (word l) (fun i hi => word_hi l i (by omega)), ← shl_shr (word m) (fun i hi => word_hi m i (by omega)), h2]
      rw [ih m (by omega) (by omega) h3]

/-- THE STAGE'S THEOREM in plain words: two texts that are the same outside of at most four bytes one behind the other and have one sum are one text. -/
theorem window (x : BitVec 32) (p a b q : List UInt8) (hl : a.length = b.length) (h4 : a.length ≤ 4) (h : over x (p ++ a ++ q) = over x (p ++ b ++ q)) : a = b := by
  simp only [over_append] at h
  have h1 := over_inj _ _ _ h
  rw [over_word _ a h4, over_word _ b (by omega), ← hl] at h1
  have h2 := bsteps_inj _ _ _ h1
  apply word_inj a b hl h4
  have : over x p ^^^ (over x p ^^^ word a) = over x p ^^^ (over x p ^^^ word b) := by rw [h2]
  simpa [← BitVec.xor_assoc, BitVec.xor_self] using this
theorem window_sum (p a b q : List UInt8) (hl : a.length = b.length) (h4 : a.length ≤ 4) (h : sum (p ++ a ++ q) = sum (p ++ b ++ q)) : a = b := by
  apply window (~~~0) p a b q hl h4
  have : ~~~(sum (p ++ a ++ q)) = ~~~(sum (p ++ b ++ q)) := by rw [h]
  simpa [sum, add] using this
theorem add_sum (a b : List UInt8) : add (sum a) b = sum (a ++ b) := by
  simp [sum, add, over_append]
theorem sum_nil : sum [] = 0 := by simp [sum, add, over]
theorem together (a b c : List UInt8) (h1 : a.length = b.length) (h2 : b.length = c.length) :
    sum a ^^^ sum b ^^^ sum c = sum (List.zipWith (· ^^^ ·) (List.zipWith (· ^^^ ·) a b) c) := by
  have e : over (~~~0) (List.zipWith (· ^^^ ·) (List.zipWith (· ^^^ ·) a b) c) = over (~~~0) a ^^^ over (~~~0) b ^^^ over (~~~0) c := by
    rw [← over_xor _ _ a b h1, ← over_xor _ _ _ c (by simp; omega)]
    congr 1
  unfold sum add
  rw [e]
  apply BitVec.eq_of_getLsbD_eq
  intro i hi
  simp [hi]
end Go.Proofs.Ytdiigplcpalepaa.Crc
