/- Proved: for every string s, cut to 500 bytes: Bytes inverts Of, and Of has eight bits for each byte. No condition beyond the row's own. -/
import Derived.Test.YtnpmficbhggeaaaM3
import Derived.Test.YtnpmficbhggeaaaPureBitsCommon
namespace Go.Proofs.Ytnpmficbhggeaaa.Pure
open Go.RowKit Go.Proofs.Ytnpmficbhggeaaa.M Go.Proofs.YtnpmficbhggeaaaW.PrintWords Go.Proofs.YtnpmficbhggeaaaW.PrintMore Go.Proofs.YtnpmficbhggeaaaW.PrintLast

def Bits (l : List UInt8) : Prop := ∀ j, j < l.length → l.getD j 0 = 48 ∨ l.getD j 0 = 49
theorem good_l0 (l : List UInt8) (hl : l.length ≤ 1000000) (hb : Bits l) : ∀ (d i : Nat), i + d = l.length → Ev (fun k => bits_good.l0 k (B l) (l.length : Int) (i : Int)) true := by
  intro d
  induction d with
  | zero =>
    intro i hi
    refine ⟨1, fun k hk => ?_⟩
    obtain ⟨k, rfl⟩ : ∃ m, k = m + 1 := ⟨k - 1, by omega⟩
    simp only [bits_good.l0]
    rw [if_neg (by omega)]
  | succ d ih =>
    intro i hi
    have hil : i < l.length := by omega
    refine Ev.step (f := fun k => bits_good.l0 k (B l) (l.length : Int) ((i + 1 : Nat) : Int)) (fun k => ?_) (ih (i + 1) (by omega))
    simp only [bits_good.l0, size_B]
    rw [if_pos (by omega), if_pos (by omega), if_pos (by omega), bt_getD l i hil, wrap64_id (by omega) (by omega)]
    rcases hb i hil with h | h
    · rw [if_pos (by rw [h]; rfl)]; rfl
    · rw [if_neg (by rw [h]; decide), if_pos (by rw [h]; rfl)]; rfl
theorem good_f (l : List UInt8) (hl : l.length ≤ 1000000) (hb : Bits l) : Ev (fun k => bits_good.f k (B l)) true := by
  have h := good_l0 l hl hb l.length 0 (by omega)
  unfold bits_good.f
  simp only [size_B]
  exact h
/-- Bit i of ofL l. -/
theorem ofL_get : ∀ (l : List UInt8) (i : Nat), i < 8 * l.length → (ofL l).getD i 0 = bit8 (l.getD (i / 8) 0) (i % 8) := by
  intro l
  induction l with
  | nil => intro i hi; simp at hi
  | cons b l ih =>
    intro i hi
    have e : ofL (b :: l) = bits8 b ++ ofL l := rfl
    rw [e]
    by_cases h : i < 8
    · have h1 : i / 8 = 0 := by omega
      have h2 : i % 8 = i := by omega
      rw [h1, h2, List.getD_eq_getElem?_getD, List.getElem?_append_left (by rw [bits8_len]; exact h)]
      rcases (show i = 0 ∨ i = 1 ∨ i = 2 ∨ i = 3 ∨ i = 4 ∨ i = 5 ∨ i = 6 ∨ i = 7 by omega) with rfl | rfl | rfl | rfl | rfl | rfl | rfl | rfl <;> rfl
    · rw [List.getD_eq_getElem?_getD, List.getElem?_append_right (by rw [bits8_len]; omega), bits8_len]
      have h3 := ih (i - 8) (by simp only [List.length_cons] at hi; omega)
      rw [List.getD_eq_getElem?_getD] at h3
      rw [h3]
      have h4 : i / 8 = (i - 8) / 8 + 1 := by omega
      have h5 : (i - 8) % 8 = i % 8 := by omega
      rw [h4, h5, List.getD_cons_succ]
theorem bit8_nat (b : UInt8) (j : Nat) (hj : j < 8) : (bit8 b j).toNat = 48 + b.toNat / 2 ^ (7 - j) % 2 := by
  have h := bitB_int (b >>> (7 - UInt8.ofNat j))
  have h1 : (bit8 b j).toNat = (bitB (b >>> (7 - UInt8.ofNat j))).toNat := rfl
  have e : (7 - UInt8.ofNat j).toNat = 7 - j := by
    rcases (show j = 0 ∨ j = 1 ∨ j = 2 ∨ j = 3 ∨ j = 4 ∨ j = 5 ∨ j = 6 ∨ j = 7 by omega) with rfl | rfl | rfl | rfl | rfl | rfl | rfl | rfl <;> rfl
  have h2 : (b >>> (7 - UInt8.ofNat j)).toNat = b.toNat / 2 ^ (7 - j) := by
    rw [UInt8.toNat_shiftRight, e, Nat.mod_eq_of_lt (by omega), Nat.shiftRight_eq_div_pow]
  have h3 := and_u8 (b >>> (7 - UInt8.ofNat j)) 1
  rw [show (((1 : UInt8).toNat : Nat) : Int) = 1 from rfl] at h3
  rw [h3] at h
  have h4 : ((b >>> (7 - UInt8.ofNat j)) &&& 1).toNat = b.toNat / 2 ^ (7 - j) % 2 := by
    rw [UInt8.toNat_and, show (1 : UInt8).toNat = 1 from rfl, Nat.and_one_is_mod, h2]
  omega
theorem ofL_bits (l : List UInt8) : Bits (ofL l) := by
  intro j hj
  rw [ofL_len] at hj
  rw [ofL_get l j hj]
  exact bitB_or _
/-- What byte j is after i bits. -/
def part (l : List UInt8) (i j : Nat) : Nat := (l.getD j 0).toNat / 2 ^ (8 - min 8 (i - 8 * j))
def partRow (l : List UInt8) (i : Nat) : List Int := (List.range l.length).map fun j => ((part l i j : Nat) : Int)
theorem part_zero (l : List UInt8) (j : Nat) : part l 0 j = 0 := by
  unfold part
  rw [show 8 - min 8 (0 - 8 * j) = 8 by omega]
  exact Nat.div_eq_of_lt (by have := (l.getD j 0).toNat_lt; omega)
theorem part_full (l : List UInt8) (j : Nat) (hj : j < l.length) : part l (8 * l.length) j = (l.getD j 0).toNat := by
  unfold part
  rw [show 8 - min 8 (8 * l.length - 8 * j) = 0 by omega]
  simp
theorem partRow_set (l : List UInt8) (i : Nat) (_hi : i < 8 * l.length) : (partRow l i).set (i / 8) ((part l (i + 1) (i / 8) : Nat) : Int) = partRow l (i + 1) := by
  apply List.ext_getElem
  · simp [partRow]
  · intro j h1 h2
    rw [List.getElem_set]
    by_cases h : i / 8 = j
    · subst h; simp [partRow]
    · rw [if_neg h]
      simp only [partRow, List.getElem_map, List.getElem_range]
      congr 1
      unfold part
      congr 2
      omega
theorem part_step (l : List UInt8) (i : Nat) : part l (i + 1) (i / 8) = 2 * part l i (i / 8) + (l.getD (i / 8) 0).toNat / 2 ^ (7 - i % 8) % 2 := by
  unfold part
  have e1 : 8 - min 8 (i - 8 * (i / 8)) = (7 - i % 8) + 1 := by omega
  have e2 : 8 - min 8 (i + 1 - 8 * (i / 8)) = 7 - i % 8 := by omega
  rw [e1, e2, Nat.pow_succ, ← Nat.div_div_eq_div_mul]
  omega
theorem part_lt (l : List UInt8) (i : Nat) : part l i (i / 8) < 128 := by
  unfold part
  have e1 : 8 - min 8 (i - 8 * (i / 8)) = (7 - i % 8) + 1 := by omega
  rw [e1]
  have := (l.getD (i / 8) 0).toNat_lt
  have h2 : 2 ≤ 2 ^ ((7 - i % 8) + 1) := by
    rw [Nat.pow_succ]
    have : 0 < 2 ^ (7 - i % 8) := Nat.two_pow_pos _
    omega
  rw [Nat.div_lt_iff_lt_mul (by omega)]
  omega
theorem or_val (x y : Nat) (hx : x < 128) (hy : y < 2) : Go.bits .or .u8 (((x : Int) * 2) % 256) (y : Int) = ((2 * x + y : Nat) : Int) := by
  have h := bits_join .u8 8 (by decide) wraps_u8 1 (((x : Int) * 2) % 256) (y : Int) (by omega) (by omega) (by omega) (by omega) (by omega) (by omega)
  rw [h]
  omega
theorem bytes_l0 (l : List UInt8) (hl : l.length ≤ 1000) : ∀ (d i : Nat), i + d = 8 * l.length → Ev (fun k => bits_Bytes.l0 k (B (ofL l)) (partRow l i) ((8 * l.length : Nat) : Int) (i : Int)) (B l, 0) := by
  intro d
  induction d with
  | zero =>
    intro i hi
    obtain rfl : i = 8 * l.length := by omega
    refine ⟨1, fun k hk => ?_⟩
    obtain ⟨k, rfl⟩ : ∃ m, k = m + 1 := ⟨k - 1, by omega⟩
    simp only [bits_Bytes.l0]
    rw [if_neg (by omega)]
    have e : partRow l (8 * l.length) = l.map fun b => (b.toNat : Int) := by
      apply List.ext_getElem
      · simp [partRow]
      · intro j h1 h2
        have hj : j < l.length := by simpa using h2
        simp only [partRow, List.getElem_map, List.getElem_range]
        rw [part_full l j hj]
        simp [List.getD_eq_getElem?_getD, hj]
    rw [e, strOf_B]
  | succ d ih =>
    intro i hi
    have hi8 : i / 8 < l.length := by omega
    refine Ev.step (f := fun k => bits_Bytes.l0 k (B (ofL l)) (partRow l (i + 1)) ((8 * l.length : Nat) : Int) ((i + 1 : Nat) : Int)) (fun k => ?_) (ih (i + 1) (by omega))
    have hlen : (partRow l i).length = l.length := by simp [partRow]
    have e1 : wrap64 ((i : Int).tdiv 8) = ((i / 8 : Nat) : Int) := by
      rw [Int.tdiv_eq_ediv_of_nonneg (by omega), wrap64_id (by omega) (by omega)]; omega
    have e2 : rd (partRow l i) ((i / 8 : Nat) : Int) = ((part l i (i / 8) : Nat) : Int) := by
      unfold rd
      rw [Int.toNat_natCast]
      simp [partRow, List.getD_eq_getElem?_getD, hi8]
    have e3 : (bt (B (ofL l)) (i : Int) - 48) % 256 = (((l.getD (i / 8) 0).toNat / 2 ^ (7 - i % 8) % 2 : Nat) : Int) := by
      rw [bt_getD (ofL l) i (by rw [ofL_len]; omega), ofL_get l i (by omega), bit8_nat _ _ (by omega)]
      omega
    simp only [bits_Bytes.l0, size_B, ofL_len, hlen, e1, e2, e3]
    rw [if_pos (by omega), if_pos (by omega), if_pos (by omega), if_pos (by omega), if_pos (by omega), or_val _ _ (part_lt l i) (by omega), ← part_step, Int.toNat_natCast, partRow_set l i (by omega), wrap64_id (by omega) (by omega)]
    rfl
theorem bytes_f (l : List UInt8) (hl : l.length ≤ 1000) : Ev (fun k => bits_Bytes.f k (B (ofL l))) (B l, 0) := by
  unfold bits_Bytes.f
  refine Ev.bind (good_f (ofL l) (by rw [ofL_len]; omega) (ofL_bits l)) ?_
  have e1 : ((8 * l.length : Nat) : Int) % 8 = 0 := by omega
  have e2 : wrap64 (((8 * l.length : Nat) : Int) / 8) = (l.length : Int) := by rw [wrap64_id (by omega) (by omega)]; omega
  have e3 : (0 : Int) ≤ (l.length : Int) := by omega
  simp only [if_true, size_B, ofL_len, e1, e2, e3, Int.toNat_natCast]
  have h := bytes_l0 l hl (8 * l.length) 0 (by omega)
  have e5 : partRow l 0 = List.replicate l.length 0 := by
    apply List.ext_getElem
    · simp [partRow]
    · intro j h1 h2
      simp [partRow, part_zero]
  rw [e5] at h
  simp only [show l.length ≤ 281474976710656 by omega, if_true]
  exact h
theorem BitsRoundTrip : patchbaykeep1_BitsRoundTrip.Pure := by
  intro a0 w0
  obtain ⟨s, rfl⟩ := B_surj a0
  apply Ev.rounds
  unfold patchbaykeep1_BitsRoundTrip.f
  have hc := cut_f s 500
  rw [show ((500 : Nat) : Int) = 500 from rfl] at hc
  simp only [hc, Option.bind_some]
  have hl : (s.take 500).length ≤ 500 := by simp; omega
  generalize s.take 500 = l at hl
  refine Ev.bind works_f ?_
  simp only [if_true]
  refine Ev.bind (of_f l (by omega)) ?_
  refine Ev.bind (bytes_f l (by omega)) ?_
  simp only [if_true]
  refine Ev.bind (of_f l (by omega)) ⟨0, fun k _ => ?_⟩
  rw [size_B, size_B, ofL_len, wrap64_id (by omega) (by omega), Option.some.injEq, beq_iff_eq]
  omega
end Go.Proofs.Ytnpmficbhggeaaa.Pure
