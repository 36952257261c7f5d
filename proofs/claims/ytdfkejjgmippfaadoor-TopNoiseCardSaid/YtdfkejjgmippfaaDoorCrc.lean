/- plain definitions of the checksum over bit vectors, and its laws -/
namespace Go.Proofs.YtdfkejjgmippfaaDoor.Crc
def half (c : BitVec 32) : BitVec 32 := if c.getLsbD 0 then (c >>> 1) ^^^ 3988292384#32 else c >>> 1
def halfs : Nat → BitVec 32 → BitVec 32
  | 0, c => c
  | n + 1, c => half (halfs n c)
def tab (i : Nat) : BitVec 32 := halfs 8 (BitVec.ofNat 32 i)
def idx (c : BitVec 32) (b : UInt8) : Nat := (c.truncate 8 ^^^ b.toBitVec).toNat
theorem idx_lt (c : BitVec 32) (b : UInt8) : idx c b < 256 := (c.truncate 8 ^^^ b.toBitVec).isLt
def step (c : BitVec 32) (b : UInt8) : BitVec 32 := (c >>> 8) ^^^ tab (idx c b)
def sumL (l : List UInt8) : BitVec 32 := ~~~ (l.foldl step (~~~ 0#32))
theorem half_zero : half 0#32 = 0#32 := by decide
theorem half_eq (c : BitVec 32) : half c = (c >>> 1) ^^^ (if c.getLsbD 0 then 3988292384#32 else 0#32) := by
  unfold half
  split <;> simp
theorem half_xor (a b : BitVec 32) : half (a ^^^ b) = half a ^^^ half b := by
  rw [half_eq, half_eq, half_eq, BitVec.ushiftRight_xor_distrib, BitVec.getLsbD_xor]
  generalize a >>> 1 = x
  generalize b >>> 1 = y
  generalize 3988292384#32 = p
  cases a.getLsbD 0 <;> cases b.getLsbD 0 <;> simp
  · rw [BitVec.xor_assoc]
  · rw [BitVec.xor_assoc, BitVec.xor_assoc, BitVec.xor_comm y p]
  · rw [BitVec.xor_assoc, BitVec.xor_comm p, BitVec.xor_assoc, BitVec.xor_self, BitVec.xor_zero]
theorem halfs_xor (n : Nat) (a b : BitVec 32) : halfs n (a ^^^ b) = halfs n a ^^^ halfs n b := by
  induction n with
  | zero => rfl
  | succ n ih => rw [halfs, halfs, halfs, ih, half_xor]
theorem halfs_zero (n : Nat) : halfs n 0#32 = 0#32 := by
  induction n with
  | zero => rfl
  | succ n ih => rw [halfs, ih, half_zero]
theorem halfs_add (m n : Nat) (c : BitVec 32) : halfs (m + n) c = halfs m (halfs n c) := by
  induction m with
  | zero => rw [Nat.zero_add]; rfl
  | succ m ih => rw [Nat.succ_add, halfs, halfs, ih]
theorem half_eq_zero {c : BitVec 32} (h : half c = 0#32) : c = 0#32 := by
  rw [half_eq] at h
  have h31 : (c >>> 1 ^^^ (if c.getLsbD 0 then 3988292384#32 else 0#32)).getLsbD 31 = false := by rw [h]; simp
  have hb : c.getLsbD 0 = false := by
    rw [BitVec.getLsbD_xor, BitVec.getLsbD_ushiftRight] at h31
    cases hc : c.getLsbD 0
    · rfl
    · rw [hc] at h31; simp at h31
  rw [hb] at h
  simp only [Bool.false_eq_true, if_false, BitVec.xor_zero] at h
  apply BitVec.eq_of_getLsbD_eq
  intro i hi
  rcases i with _ | i
  · rw [hb]; simp
  · have : (c >>> 1).getLsbD i = (0#32).getLsbD i := by rw [h]
    rw [BitVec.getLsbD_ushiftRight] at this
    rw [Nat.add_comm i 1, this]; simp
theorem halfs_eq_zero {n : Nat} {c : BitVec 32} (h : halfs n c = 0#32) : c = 0#32 := by
  induction n with
  | zero => exact h
  | succ n ih => exact ih (half_eq_zero h)
/-- Where the low bits are zero, a step is a shift. -/
theorem half_of_low {c : BitVec 32} (h : c.getLsbD 0 = false) : half c = c >>> 1 := by
  rw [half_eq, h]; simp
theorem halfs_of_low (n : Nat) : ∀ c : BitVec 32, (∀ i, i < n → c.getLsbD i = false) → halfs n c = c >>> n := by
  induction n with
  | zero => intro c _; simp [halfs]
  | succ n ih =>
    intro c h
    rw [halfs, ih c (fun i hi => h i (by omega)), half_of_low, ← BitVec.shiftRight_add]
    rw [BitVec.getLsbD_ushiftRight]
    exact h _ (by omega)
theorem ofNat_idx (c : BitVec 32) (b : UInt8) : BitVec.ofNat 32 (idx c b) = (c.truncate 8 ^^^ b.toBitVec).setWidth 32 := by
  apply BitVec.eq_of_toNat_eq
  unfold idx
  simp only [BitVec.toNat_ofNat, BitVec.toNat_setWidth]
/-- A step of the table is eight halvings of the sum with the byte. -/
theorem step_halfs (c : BitVec 32) (b : UInt8) : step c b = halfs 8 (c ^^^ b.toBitVec.setWidth 32) := by
  unfold step tab
  rw [ofNat_idx]
  have hsplit : c ^^^ b.toBitVec.setWidth 32 = (c >>> 8) <<< 8 ^^^ (c.truncate 8 ^^^ b.toBitVec).setWidth 32 := by
    apply BitVec.eq_of_getLsbD_eq
    intro i hi
    simp only [BitVec.getLsbD_xor, BitVec.getLsbD_shiftLeft, BitVec.getLsbD_ushiftRight, BitVec.getLsbD_setWidth, BitVec.truncate_eq_setWidth]
    by_cases h8 : i < 8
    · simp [h8, hi]
    · have : b.toBitVec.getLsbD i = false := BitVec.getLsbD_of_ge _ _ (by omega)
      have e : 8 + (i - 8) = i := by omega
      simp [h8, hi, this, e]
  rw [hsplit, halfs_xor]
  congr 1
  have hlow := halfs_of_low 8 ((c >>> 8) <<< 8) (fun i hi => by
    rw [BitVec.getLsbD_shiftLeft]; simp [hi])
  rw [hlow]
  apply BitVec.eq_of_getLsbD_eq
  intro i hi
  simp only [BitVec.getLsbD_ushiftRight, BitVec.getLsbD_shiftLeft]
  by_cases h : 8 + i < 32
  · simp [h]
  · have : c.getLsbD (8 + i) = false := BitVec.getLsbD_of_ge _ _ (by omega)
    simp [h, this]
def run (c : BitVec 32) (l : List UInt8) : BitVec 32 := l.foldl step c
theorem run_nil (c : BitVec 32) : run c [] = c := rfl
theorem run_cons (c : BitVec 32) (b : UInt8) (l : List UInt8) : run c (b :: l) = run (step c b) l := rfl
theorem run_append (c : BitVec 32) (l m : List UInt8) : run c (l ++ m) = run (run c l) m := List.foldl_append ..
theorem sumL_eq (l : List UInt8) : sumL l = ~~~ (run (~~~ 0#32) l) := rfl
theorem run_split (l : List UInt8) : ∀ c d : BitVec 32, run (c ^^^ d) l = halfs (8 * l.length) c ^^^ run d l := by
  induction l with
  | nil => intro c d; rfl
  | cons b l ih =>
    intro c d
    have e : step (c ^^^ d) b = halfs 8 c ^^^ step d b := by
      rw [step_halfs, step_halfs, BitVec.xor_assoc, halfs_xor]
    rw [run_cons, run_cons, e, ih]
    congr 1
    rw [← halfs_add, List.length_cons]
    congr 1
theorem run_of_zero (c : BitVec 32) (l : List UInt8) : run c l = halfs (8 * l.length) c ^^^ run 0#32 l := by
  have h := run_split l c 0#32
  rwa [BitVec.xor_zero] at h
theorem not_eq_xor (c : BitVec 32) : ~~~ c = BitVec.allOnes 32 ^^^ c := by rw [BitVec.allOnes_xor]
/-- Three strings of one length. -/
theorem run_three : ∀ (x s t u : List UInt8) (c d e : BitVec 32), s.length = x.length → t.length = x.length → u.length = x.length →
    (∀ i b, x[i]? = some b → b = s.getD i 0 ^^^ t.getD i 0 ^^^ u.getD i 0) → run (c ^^^ d ^^^ e) x = run c s ^^^ run d t ^^^ run e u := by
  intro x
  induction x with
  | nil =>
    intro s t u c d e hs ht hu _
    rw [List.eq_nil_of_length_eq_zero hs, List.eq_nil_of_length_eq_zero ht, List.eq_nil_of_length_eq_zero hu]; rfl
  | cons b x ih =>
    intro s t u c d e hs ht hu h
    obtain ⟨p, s, rfl⟩ : ∃ p q, s = p :: q := by cases s with | nil => simp at hs | cons p q => exact ⟨p, q, rfl⟩
    obtain ⟨q, t, rfl⟩ : ∃ p q, t = p :: q := by cases t with | nil => simp at ht | cons p q => exact ⟨p, q, rfl⟩
    obtain ⟨r, u, rfl⟩ : ∃ p q, u = p :: q := by cases u with | nil => simp at hu | cons p q => exact ⟨p, q, rfl⟩
    have hb : b = p ^^^ q ^^^ r := h 0 b rfl
    have e1 : step (c ^^^ d ^^^ e) b = step c p ^^^ step d q ^^^ step e r := by
      rw [step_halfs, step_halfs, step_halfs, step_halfs, ← halfs_xor, ← halfs_xor, hb]
      congr 1
      apply BitVec.eq_of_getLsbD_eq
      intro i hi
      simp only [BitVec.getLsbD_xor, BitVec.getLsbD_setWidth, UInt8.toBitVec_xor, hi, decide_true, Bool.true_and]
      cases c.getLsbD i <;> cases d.getLsbD i <;> cases e.getLsbD i <;> cases p.toBitVec.getLsbD i <;> cases q.toBitVec.getLsbD i <;> cases r.toBitVec.getLsbD i <;> rfl
    rw [run_cons, run_cons, run_cons, run_cons, e1]
    exact ih s t u _ _ _ (by simpa using hs) (by simpa using ht) (by simpa using hu) (fun i b' hi => h (i + 1) b' hi)
theorem sumL_three {x s t u : List UInt8} (hs : s.length = x.length) (ht : t.length = x.length) (hu : u.length = x.length)
    (h : ∀ i b, x[i]? = some b → b = s.getD i 0 ^^^ t.getD i 0 ^^^ u.getD i 0) : sumL s ^^^ sumL t ^^^ sumL u = sumL x := by
  have h3 := run_three x s t u (~~~ 0#32) (~~~ 0#32) (~~~ 0#32) hs ht hu h
  rw [show (~~~ 0#32 ^^^ ~~~ 0#32 ^^^ ~~~ 0#32 : BitVec 32) = ~~~ 0#32 by decide] at h3
  rw [sumL_eq, sumL_eq, sumL_eq, sumL_eq, h3]
  generalize run (~~~ 0#32) s = a
  generalize run (~~~ 0#32) t = b
  generalize run (~~~ 0#32) u = c
  apply BitVec.eq_of_getLsbD_eq
  intro i hi
  simp only [BitVec.getLsbD_xor, BitVec.getLsbD_not, hi, decide_true, Bool.true_and]
  cases a.getLsbD i <;> cases b.getLsbD i <;> cases c.getLsbD i <;> rfl
theorem works : sumL [49, 50, 51, 52, 53, 54, 55, 56, 57] = 3421780262#32 := by decide +kernel
/-- The checksum of a concatenation. -/
theorem sumL_append (s t : List UInt8) : sumL (s ++ t) = halfs (8 * t.length) (sumL s) ^^^ sumL t := by
  rw [sumL_eq, sumL_eq, sumL_eq, run_append, run_of_zero (run (~~~ 0#32) s), run_of_zero (~~~ 0#32) t, not_eq_xor (run (~~~ 0#32) s), halfs_xor, show (~~~ 0#32 : BitVec 32) = BitVec.allOnes 32 by decide]
  rw [not_eq_xor, not_eq_xor]
  generalize halfs (8 * t.length) (run (BitVec.allOnes 32) s) = a
  generalize halfs (8 * t.length) (BitVec.allOnes 32) = b
  generalize run 0#32 t = c
  apply BitVec.eq_of_getLsbD_eq
  intro i hi
  simp only [BitVec.getLsbD_xor, BitVec.getLsbD_allOnes, hi, decide_true]
  cases a.getLsbD i <;> cases b.getLsbD i <;> cases c.getLsbD i <;> rfl
/-- The product of two remainders, bit m - 1 of a first. -/
def mulFrom (a : BitVec 32) : Nat → BitVec 32 → BitVec 32 → BitVec 32
  | 0, _, out => out
  | m + 1, b, out => mulFrom a m (half b) (if a.getLsbD m then out ^^^ b else out)
theorem halfs_comm (n : Nat) (b : BitVec 32) : half (halfs n b) = halfs n (half b) := by
  have h1 := halfs_add 1 n b
  have h2 := halfs_add n 1 b
  rw [Nat.add_comm] at h1
  rw [h1] at h2
  exact h2
theorem mulFrom_halfs (a : BitVec 32) (n : Nat) : ∀ (m : Nat) (b out : BitVec 32), mulFrom a m (halfs n b) (halfs n out) = halfs n (mulFrom a m b out) := by
  intro m
  induction m with
  | zero => intro b out; rfl
  | succ m ih =>
    intro b out
    simp only [mulFrom]
    rw [halfs_comm, ← ih]
    congr 1
    split
    · rw [halfs_xor]
    · rfl
def bit (i : Nat) : BitVec 32 := BitVec.twoPow 32 i
theorem half_bit (i : Nat) (h : i + 1 < 32) : half (bit (i + 1)) = bit i := by
  unfold bit
  rw [half_of_low]
  · apply BitVec.eq_of_getLsbD_eq
    intro j hj
    rw [BitVec.getLsbD_ushiftRight, BitVec.getLsbD_twoPow, BitVec.getLsbD_twoPow]
    simp only [h, show i < 32 by omega, decide_true, Bool.true_and]
    by_cases e : i = j
    · rw [decide_eq_true (by omega), decide_eq_true e]
    · rw [decide_eq_false (by omega), decide_eq_false e]
  · rw [BitVec.getLsbD_twoPow]; simp
theorem mulFrom_bit (a : BitVec 32) : ∀ (m : Nat) (out : BitVec 32), m ≤ 32 → ∀ j, j < 32 → (mulFrom a m (bit (m - 1)) out).getLsbD j = (out.getLsbD j ^^ (decide (j < m) && a.getLsbD j)) := by
  intro m
  induction m with
  | zero => intro out _ j _; simp [mulFrom]
  | succ m ih =>
    intro out hm j hj
    simp only [mulFrom]
    have key : (mulFrom a m (half (bit (m + 1 - 1))) (if a.getLsbD m then out ^^^ bit (m + 1 - 1) else out)).getLsbD j = ((if a.getLsbD m then out ^^^ bit m else out).getLsbD j ^^ (decide (j < m) && a.getLsbD j)) := by
      rcases m with _ | m
      · simp [mulFrom]
      · rw [Nat.add_sub_cancel, half_bit m (by omega)]
        exact ih _ (by omega) j hj
    rw [key]
    by_cases h1 : j = m
    · subst h1
      rw [decide_eq_false (by omega), decide_eq_true (by omega)]
      cases ha : a.getLsbD j
      · simp only [Bool.false_eq_true, if_false]; simp
      · simp only [if_true, BitVec.getLsbD_xor, bit, BitVec.getLsbD_twoPow, hj, decide_true, Bool.true_and]; simp
    · have e : (if a.getLsbD m then out ^^^ bit m else out).getLsbD j = out.getLsbD j := by
        cases a.getLsbD m
        · rfl
        · simp only [if_true, BitVec.getLsbD_xor, bit, BitVec.getLsbD_twoPow]
          rw [decide_eq_false (show ¬ m = j from fun e => h1 e.symm)]; simp
      rw [e]
      by_cases h2 : j < m
      · rw [decide_eq_true h2, decide_eq_true (by omega)]
      · rw [decide_eq_false h2, decide_eq_false (by omega)]
/-- The product with x^n is n halvings. -/
theorem mulFrom_power (a : BitVec 32) (n : Nat) : mulFrom a 32 (halfs n (bit 31)) 0#32 = halfs n a := by
  have h := mulFrom_halfs a n 32 (bit 31) 0#32
  rw [halfs_zero] at h
  rw [h]
  congr 1
  apply BitVec.eq_of_getLsbD_eq
  intro j hj
  have := mulFrom_bit a 32 0#32 (by omega) j hj
  rw [this, decide_eq_true hj]
  simp only [BitVec.getLsbD_zero, Bool.true_and, Bool.false_xor]
theorem power_first : (8388608#32 : BitVec 32) = halfs 8 (bit 31) := by decide
end Go.Proofs.YtdfkejjgmippfaaDoor.Crc
