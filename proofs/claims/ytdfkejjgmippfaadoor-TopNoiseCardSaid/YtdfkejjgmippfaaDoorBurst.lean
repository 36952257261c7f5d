import Derived.Test.YtdfkejjgmippfaaDoorCrc
import Derived.Test.YtdfkejjgmippfaaDoorPlain
/- Errors within 32 bits in a row, and the checksum. -/
namespace Go.Proofs.YtdfkejjgmippfaaDoor.Crc
def trail (v : BitVec 32) : List UInt8 := [UInt8.ofNat (v.toNat / 16777216), UInt8.ofNat (v.toNat / 65536), UInt8.ofNat (v.toNat / 256), UInt8.ofNat v.toNat]
def sealL (l : List UInt8) : List UInt8 := l ++ trail (sumL l)
theorem trail_length (v : BitVec 32) : (trail v).length = 4 := rfl
theorem trail_inj {v u : BitVec 32} (h : trail v = trail u) : v = u := by
  simp only [trail, List.cons.injEq, and_true] at h
  obtain ⟨h1, h2, h3, h4⟩ := h
  have := congrArg UInt8.toNat h1
  have := congrArg UInt8.toNat h2
  have := congrArg UInt8.toNat h3
  have := congrArg UInt8.toNat h4
  simp only [UInt8.toNat_ofNat'] at *
  have := v.isLt
  have := u.isLt
  apply BitVec.eq_of_toNat_eq
  omega
theorem halfs_bit (r : Nat) : ∀ i, i + r < 32 → halfs r (BitVec.twoPow 32 (i + r)) = BitVec.twoPow 32 i := by
  induction r with
  | zero => intro i h; rfl
  | succ r ih =>
    intro i h
    rw [show i + (r + 1) = (i + 1) + r by omega, halfs, ih (i + 1) (by omega)]
    exact half_bit i (by omega)
theorem halfs_low (n r : Nat) (h : r < 32) (hn : r ≤ n) : halfs n (BitVec.twoPow 32 r) = halfs (n - r) (BitVec.twoPow 32 0) := by
  rw [show n = (n - r) + r by omega, halfs_add]
  have e := halfs_bit r 0 (by omega)
  rw [Nat.zero_add] at e
  rw [e, Nat.add_sub_cancel]
def flipAt (x : List UInt8) (p : Nat) : List UInt8 := x.set (p / 8) (x.getD (p / 8) 0 ^^^ UInt8.ofBitVec (BitVec.twoPow 8 (p % 8)))
theorem flipAt_length (x : List UInt8) (p : Nat) : (flipAt x p).length = x.length := by simp [flipAt]
theorem run_flip (c : BitVec 32) (x : List UInt8) (p : Nat) (h : p < 8 * x.length) : run c (flipAt x p) = run c x ^^^ halfs (8 * x.length - p) (BitVec.twoPow 32 0) := by
  have hq : p / 8 < x.length := by omega
  have hx : x = x.take (p / 8) ++ x[p / 8] :: x.drop (p / 8 + 1) := by
    rw [List.getElem_cons_drop, List.take_append_drop]
  have hf : flipAt x p = x.take (p / 8) ++ (x[p / 8] ^^^ UInt8.ofBitVec (BitVec.twoPow 8 (p % 8))) :: x.drop (p / 8 + 1) := by
    unfold flipAt
    rw [List.set_eq_take_append_cons_drop, if_pos hq]
    simp [List.getD_eq_getElem?_getD, hq]
  rw [hf]
  conv => rhs; lhs; rw [hx]
  rw [run_append, run_append, run_cons, run_cons]
  generalize run c (List.take (p / 8) x) = d
  generalize x[p / 8] = b
  have e : step d (b ^^^ UInt8.ofBitVec (BitVec.twoPow 8 (p % 8))) = halfs 8 (BitVec.twoPow 32 (p % 8)) ^^^ step d b := by
    rw [step_halfs, step_halfs]
    have e1 : (b ^^^ UInt8.ofBitVec (BitVec.twoPow 8 (p % 8))).toBitVec.setWidth 32 = BitVec.twoPow 32 (p % 8) ^^^ b.toBitVec.setWidth 32 := by
      have : p % 8 < 8 := Nat.mod_lt _ (by omega)
      apply BitVec.eq_of_getLsbD_eq
      intro i hi
      simp only [UInt8.toBitVec_xor, BitVec.getLsbD_setWidth, BitVec.getLsbD_xor, BitVec.getLsbD_twoPow]
      by_cases h8 : i < 8
      · simp [h8, hi]
        rw [Bool.xor_comm]
        congr 1
        simp [show p % 8 < 8 by omega, show p % 8 < 32 by omega]
      · simp [hi]
        have : b.toBitVec.getLsbD i = false := BitVec.getLsbD_of_ge _ _ (by omega)
        rw [this]
        have : p % 8 ≠ i := by omega
        simp [this]
    rw [e1, ← BitVec.xor_assoc, BitVec.xor_comm d, BitVec.xor_assoc, halfs_xor]
  rw [e, run_split, ← halfs_add, BitVec.xor_comm]
  congr 1
  rw [List.length_drop, halfs_low _ _ (by omega) (by omega)]
  congr 1
  omega
/-- What the loop keeps: in the data (d = true), or in the last four bytes. -/
def Burst (l : List UInt8) (d : Bool) (a i : Nat) (x : List UInt8) (ch : Bool) : Prop :=
  a ≤ i ∧ x.length = l.length + 4 ∧ if d = true then ∃ (y : List UInt8) (V : BitVec 32), x = y ++ trail (sumL l) ∧ y.length = l.length ∧ (∀ j, i ≤ a + j → V.getLsbD j = false) ∧
      run (~~~ 0#32) y = run (~~~ 0#32) l ^^^ halfs (8 * l.length - a) V ∧ ch = decide (V ≠ 0#32)
  else ∃ t : List UInt8, x = l ++ t ∧ t.length = 4 ∧ 8 * l.length ≤ a ∧ (ch = false → t = trail (sumL l)) ∧
      (ch = true → ∃ p, 8 * l.length ≤ p ∧ p < i ∧ (x.getD (p / 8) 0).toBitVec.getLsbD (p % 8) ≠ ((sealL l).getD (p / 8) 0).toBitVec.getLsbD (p % 8))
theorem burst_start (l : List UInt8) (d : Bool) (a : Nat) (h : d = false → 8 * l.length ≤ a) : Burst l d a a (sealL l) false := by
  refine ⟨Nat.le_refl _, by simp [sealL, trail_length], ?_⟩
  cases d with
  | true =>
    rw [if_pos rfl]
    exact ⟨l, 0#32, rfl, rfl, by simp, by rw [halfs_zero, BitVec.xor_zero], by simp⟩
  | false =>
    rw [if_neg (by decide)]
    exact ⟨trail (sumL l), rfl, rfl, h rfl, fun _ => rfl, (fun h => by cases h)⟩
theorem burst_skip {l : List UInt8} {d : Bool} {a i : Nat} {x : List UInt8} {ch : Bool} (h : Burst l d a i x ch) : Burst l d a (i + 1) x ch := by
  obtain ⟨h0, h1, h2⟩ := h
  refine ⟨by omega, h1, ?_⟩
  cases d with
  | true =>
    rw [if_pos rfl] at h2 ⊢
    obtain ⟨y, V, e1, e2, e3, e4, e5⟩ := h2
    exact ⟨y, V, e1, e2, fun j hj => e3 j (by omega), e4, e5⟩
  | false =>
    rw [if_neg (by decide)] at h2 ⊢
    obtain ⟨t, e1, e2, e3, e4, e5⟩ := h2
    exact ⟨t, e1, e2, e3, e4, fun hc => by obtain ⟨p, p1, p2, p3⟩ := e5 hc; exact ⟨p, p1, by omega, p3⟩⟩
theorem flipAt_bit (x : List UInt8) (i p : Nat) (hi : i < 8 * x.length) : ((flipAt x i).getD (p / 8) 0).toBitVec.getLsbD (p % 8) = ((x.getD (p / 8) 0).toBitVec.getLsbD (p % 8) ^^ decide (p = i)) := by
  unfold flipAt
  have hm : p % 8 < 8 := Nat.mod_lt _ (by omega)
  by_cases hq : i / 8 = p / 8
  · rw [hq]
    have : (x.set (p / 8) (x.getD (p / 8) 0 ^^^ UInt8.ofBitVec (BitVec.twoPow 8 (i % 8)))).getD (p / 8) 0 = x.getD (p / 8) 0 ^^^ UInt8.ofBitVec (BitVec.twoPow 8 (i % 8)) := by
      simp [List.getD_eq_getElem?_getD, show p / 8 < x.length by omega]
    rw [this, UInt8.toBitVec_xor, BitVec.getLsbD_xor]
    congr 1
    rw [show (UInt8.ofBitVec (BitVec.twoPow 8 (i % 8))).toBitVec = BitVec.twoPow 8 (i % 8) from rfl, BitVec.getLsbD_twoPow]
    simp only [show i % 8 < 8 from Nat.mod_lt _ (by omega), decide_true, Bool.true_and]
    rw [decide_eq_decide]
    omega
  · have : (x.set (i / 8) (x.getD (i / 8) 0 ^^^ UInt8.ofBitVec (BitVec.twoPow 8 (i % 8)))).getD (p / 8) 0 = x.getD (p / 8) 0 := by
      simp [List.getD_eq_getElem?_getD, hq]
    rw [this]
    have : p ≠ i := by intro h; subst h; exact hq rfl
    simp [this]
theorem flipAt_left (y t : List UInt8) (i : Nat) (hi : i < 8 * y.length) : flipAt (y ++ t) i = flipAt y i ++ t := by
  unfold flipAt
  have : i / 8 < y.length := by omega
  rw [List.set_append_left _ _ this]
  congr 2
  simp [List.getD_eq_getElem?_getD, List.getElem?_append_left this]
theorem flipAt_right (y t : List UInt8) (i : Nat) (hi : 8 * y.length ≤ i) : ∃ t2 : List UInt8, flipAt (y ++ t) i = y ++ t2 ∧ t2.length = t.length := by
  unfold flipAt
  have : y.length ≤ i / 8 := by omega
  rw [List.set_append_right _ _ this]
  exact ⟨_, rfl, by simp⟩
theorem burst_flip {l : List UInt8} {d : Bool} {a i : Nat} {x : List UInt8} {ch : Bool} (h : Burst l d a i x ch) (hi : i < a + 32) (hd : d = true → i < 8 * l.length) (hn : d = false → i < 8 * (l.length + 4)) : Burst l d a (i + 1) (flipAt x i) true := by
  obtain ⟨h0, h1, h2⟩ := h
  refine ⟨by omega, by rw [flipAt_length]; exact h1, ?_⟩
  cases d with
  | true =>
    have hl := hd rfl
    rw [if_pos rfl] at h2 ⊢
    obtain ⟨y, V, e1, e2, e3, e4, e5⟩ := h2
    refine ⟨flipAt y i, V ^^^ BitVec.twoPow 32 (i - a), ?_, by rw [flipAt_length]; exact e2, ?_, ?_, ?_⟩
    · rw [e1, flipAt_left _ _ _ (by omega)]
    · intro j hj
      rw [BitVec.getLsbD_xor, e3 j (by omega), BitVec.getLsbD_twoPow]
      simp
      omega
    · rw [run_flip _ _ _ (by omega), e4, e2, halfs_xor, BitVec.xor_assoc]
      have e : halfs (8 * l.length - i) (BitVec.twoPow 32 0) = halfs (8 * l.length - a) (BitVec.twoPow 32 (i - a)) := by
        rw [halfs_low (8 * l.length - a) (i - a) (by omega) (by omega), show 8 * l.length - a - (i - a) = 8 * l.length - i by omega]
      rw [e]
    · symm
      rw [decide_eq_true_iff]
      intro hz
      have := congrArg (fun v : BitVec 32 => v.getLsbD (i - a)) hz
      simp only [BitVec.getLsbD_xor, BitVec.getLsbD_twoPow, e3 (i - a) (by omega)] at this
      simp at this
      omega
  | false =>
    have hl := hn rfl
    rw [if_neg (by decide)] at h2 ⊢
    obtain ⟨t, e1, e2, e3, e4, e5⟩ := h2
    obtain ⟨t2, f1, f2⟩ := flipAt_right l t i (by omega)
    refine ⟨t2, by rw [e1]; exact f1, by omega, e3, (fun h => by cases h), fun _ => ?_⟩
    cases ch with
    | true =>
      obtain ⟨p, p1, p2, p3⟩ := e5 rfl
      refine ⟨p, p1, by omega, ?_⟩
      rw [flipAt_bit _ _ _ (by omega), decide_eq_false (by omega), Bool.xor_false]
      exact p3
    | false =>
      refine ⟨i, by omega, by omega, ?_⟩
      rw [flipAt_bit _ _ _ (by omega), e1, e4 rfl, decide_eq_true rfl, ← show sealL l = l ++ trail (sumL l) from rfl]
      simp
theorem burst_end {l : List UInt8} {d : Bool} {a i : Nat} {x : List UInt8} {ch : Bool} (h : Burst l d a i x ch) : (sealL (x.take l.length) = x) ↔ ch = false := by
  obtain ⟨h0, h1, h2⟩ := h
  cases d with
  | true =>
    rw [if_pos rfl] at h2
    obtain ⟨y, V, e1, e2, e3, e4, e5⟩ := h2
    have ht : x.take l.length = y := by rw [e1, ← e2, List.take_left]
    rw [ht, e1, sealL, e5]
    constructor
    · intro h
      have h := trail_inj (List.append_cancel_left h)
      rw [sumL_eq, sumL_eq, e4] at h
      have h : run (~~~ 0#32) l ^^^ halfs (8 * l.length - a) V = run (~~~ 0#32) l := BitVec.not_inj.1 h
      rw [decide_eq_false_iff_not, Decidable.not_not]
      apply halfs_eq_zero (n := 8 * l.length - a)
      have h := congrArg (fun v => run (~~~ 0#32) l ^^^ v) h
      simp only [← BitVec.xor_assoc, BitVec.xor_self, BitVec.zero_xor] at h
      exact h
    · intro h
      rw [decide_eq_false_iff_not, Decidable.not_not] at h
      rw [sumL_eq, sumL_eq, e4, h, halfs_zero, BitVec.xor_zero]
  | false =>
    rw [if_neg (by decide)] at h2
    obtain ⟨t, e1, e2, e3, e4, e5⟩ := h2
    have ht : x.take l.length = l := by rw [e1, List.take_left]
    rw [ht]
    constructor
    · intro h
      cases ch with
      | false => rfl
      | true =>
        obtain ⟨p, p1, p2, p3⟩ := e5 rfl
        rw [h] at p3
        exact absurd rfl p3
    · intro h
      rw [e1, e4 h, sealL]
end Go.Proofs.YtdfkejjgmippfaaDoor.Crc
