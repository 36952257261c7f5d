import Derived.Test.YtnpmficbhggeaaaM2
import Derived.Test.YtnpmficbhggeaaaPlain
/- Plain laws of the functions on bit strings. -/
namespace Go.Proofs.Ytnpmficbhggeaaa.Pure
open Go.RowKit Go.Proofs.Ytnpmficbhggeaaa.M Go.Proofs.YtnpmficbhggeaaaW.PrintWords Go.Proofs.YtnpmficbhggeaaaW.PrintMore Go.Proofs.YtnpmficbhggeaaaW.PrintLast

def ones (l : List UInt8) : Nat := l.count 49
theorem weight_l0 (l : List UInt8) (hl : l.length ≤ 1000000) : ∀ (d i : Nat) (n : Nat), i + d = l.length → n ≤ i → Ev (fun k => bits_Weight.l0 k (B l) (n : Int) (l.length : Int) (i : Int)) ((n + ones (l.drop i) : Nat) : Int) := by
  intro d
  induction d with
  | zero =>
    intro i n hd hn
    refine ⟨1, fun k hk => ?_⟩
    obtain ⟨k, rfl⟩ : ∃ m, k = m + 1 := ⟨k - 1, by omega⟩
    simp only [bits_Weight.l0]
    rw [if_neg (by omega), List.drop_of_length_le (by omega)]
    simp [ones]
  | succ d ih =>
    intro i n hd hn
    have hi : i < l.length := by omega
    refine Ev.step (f := fun k => if l.getD i 0 = 49 then bits_Weight.l0 k (B l) ((n + 1 : Nat) : Int) (l.length : Int) ((i + 1 : Nat) : Int) else bits_Weight.l0 k (B l) (n : Int) (l.length : Int) ((i + 1 : Nat) : Int)) (fun k => ?_) ?_
    · simp only [bits_Weight.l0, size_B]
      rw [if_pos (by omega), if_pos (by omega), if_pos (by omega), bt_getD l i hi, wrap64_id (by omega) (by omega), wrap64_id (by omega) (by omega)]
      by_cases h : l.getD i 0 = 49
      · rw [if_pos (by rw [h]; rfl), if_pos h]; rfl
      · rw [if_neg (fun h' => h (UInt8.toNat_inj.1 (by have : (49 : UInt8).toNat = 49 := rfl; omega))), if_neg h]; rfl
    · have hdrop : l.drop i = l.getD i 0 :: l.drop (i + 1) := by
        rw [List.drop_eq_getElem_cons hi]; simp [List.getD_eq_getElem?_getD, hi]
      by_cases h : l.getD i 0 = 49
      · simp only [h, if_true]
        have := ih (i + 1) (n + 1) (by omega) (by omega)
        rw [hdrop, h]
        simp only [ones, List.count_cons_self] at this ⊢
        rwa [show n + ((l.drop (i + 1)).count 49 + 1) = n + 1 + (l.drop (i + 1)).count 49 by omega]
      · simp only [h, if_false]
        have := ih (i + 1) n (by omega) (by omega)
        rw [hdrop]
        simp only [ones] at this ⊢
        rwa [List.count_cons_of_ne (fun e => h e)]
theorem weight_f (l : List UInt8) (hl : l.length ≤ 1000000) : Ev (fun k => bits_Weight.f k (B l)) ((ones l : Nat) : Int) := by
  have h := weight_l0 l hl l.length 0 0 (by omega) (by omega)
  simp only [Nat.zero_add, List.drop_zero] at h
  unfold bits_Weight.f
  simp only [size_B]
  exact h
/-- A byte's eight bits, the first one the most significant. -/
def bit8 (b : UInt8) (j : Nat) : UInt8 := 48 + ((b >>> (7 - UInt8.ofNat j)) &&& 1)
def bits8 (b : UInt8) : List UInt8 := [bit8 b 0, bit8 b 1, bit8 b 2, bit8 b 3, bit8 b 4, bit8 b 5, bit8 b 6, bit8 b 7]
def ofL (l : List UInt8) : List UInt8 := l.flatMap bits8
theorem bits8_len (b : UInt8) : (bits8 b).length = 8 := rfl
theorem ofL_len (l : List UInt8) : (ofL l).length = 8 * l.length := by
  induction l with
  | nil => rfl
  | cons b l ih => simp only [ofL, List.flatMap_cons, List.length_append, bits8_len, List.length_cons]; simp only [ofL] at ih; omega
theorem bit_val (b : UInt8) (j : Nat) (hj : j < 8) : (48 + Go.bits .and .u8 (shr .u8 (b.toNat : Int) ((7 - j : Nat) : Int)) 1) % 256 = ((bit8 b j).toNat : Int) := by
  have h1 : shr .u8 (b.toNat : Int) ((7 - j : Nat) : Int) = (((b >>> (7 - UInt8.ofNat j)).toNat : Nat) : Int) := by
    unfold shr
    rw [Int.toNat_natCast, Nat.min_eq_left (by simp [IntKind.bits]; omega), UInt8.toNat_shiftRight]
    have e : (7 - UInt8.ofNat j).toNat = 7 - j := by
      rcases (show j = 0 ∨ j = 1 ∨ j = 2 ∨ j = 3 ∨ j = 4 ∨ j = 5 ∨ j = 6 ∨ j = 7 by omega) with rfl | rfl | rfl | rfl | rfl | rfl | rfl | rfl <;> rfl
    rw [e, Nat.mod_eq_of_lt (by omega), Nat.shiftRight_eq_div_pow]
    simp
  rw [h1]
  have := bitB_int (b >>> (7 - UInt8.ofNat j))
  rw [this]
  have h2 := (bitB (b >>> (7 - UInt8.ofNat j))).toNat_lt
  unfold bit8
  unfold bitB at h2 ⊢
  omega
def intsOf (l : List UInt8) : List Int := l.map fun b => (b.toNat : Int)
theorem of_l1 (l : List UInt8) (hl : l.length ≤ 1000000) (i : Nat) (hi : i < l.length) (r : ByteArray) (acc : List UInt8)
    (hnext : Ev (fun k => bits_Of.l0 k (B l) (intsOf (acc ++ bits8 (l.getD i 0))) (l.length : Int) ((i + 1 : Nat) : Int)) r) (ha : acc.length ≤ 8000000) :
    ∀ (d j : Nat), j + d = 8 → Ev (fun k => bits_Of.l1 k (B l) (intsOf (acc ++ (bits8 (l.getD i 0)).take j)) (i : Int) (((7 - (j : Int)))) (l.length : Int) (i : Int)) r := by
  intro d
  induction d with
  | zero =>
    intro j hj
    obtain rfl : j = 8 := by omega
    refine Ev.step (f := fun k => bits_Of.l0 k (B l) (intsOf (acc ++ bits8 (l.getD i 0))) (l.length : Int) ((i + 1 : Nat) : Int)) (fun k => ?_) hnext
    simp only [bits_Of.l1]
    rw [if_neg (by omega), wrap64_id (by omega) (by omega), List.take_of_length_le (by rw [bits8_len]; omega)]
    rfl
  | succ d ih =>
    intro j hj
    refine Ev.step (f := fun k => bits_Of.l1 k (B l) (intsOf (acc ++ (bits8 (l.getD i 0)).take (j + 1))) (i : Int) ((7 - ((j + 1 : Nat) : Int))) (l.length : Int) (i : Int)) (fun k => ?_) (ih (j + 1) (by omega))
    have hlen : (intsOf (acc ++ (bits8 (l.getD i 0)).take j)).length < 140737488355328 := by
      simp only [intsOf, List.length_map, List.length_append, List.length_take, bits8_len]; omega
    simp only [bits_Of.l1, size_B]
    rw [if_pos (by omega), if_pos (by omega), if_pos (by omega), if_pos (by omega), if_pos hlen, bt_getD l i hi, show (7 - (j : Int)) = ((7 - j : Nat) : Int) by omega, bit_val _ j (by omega), wrap64_id (by omega) (by omega)]
    have e2 : ((7 - j : Nat) : Int) - 1 = 7 - ((j + 1 : Nat) : Int) := by omega
    rw [e2]
    congr 1
    simp only [intsOf]
    rw [← List.map_singleton (f := fun b : UInt8 => (b.toNat : Int)), ← List.map_append, List.append_assoc]
    congr 2
    rw [List.take_succ_eq_append_getElem (by rw [bits8_len]; omega)]
    congr 2
    rcases (show j = 0 ∨ j = 1 ∨ j = 2 ∨ j = 3 ∨ j = 4 ∨ j = 5 ∨ j = 6 ∨ j = 7 by omega) with rfl | rfl | rfl | rfl | rfl | rfl | rfl | rfl <;> rfl
theorem of_l0 (l : List UInt8) (hl : l.length ≤ 1000000) : ∀ (d i : Nat), i + d = l.length → Ev (fun k => bits_Of.l0 k (B l) (intsOf (ofL (l.take i))) (l.length : Int) (i : Int)) (B (ofL l)) := by
  intro d
  induction d with
  | zero =>
    intro i hi
    obtain rfl : i = l.length := by omega
    refine ⟨1, fun k hk => ?_⟩
    obtain ⟨k, rfl⟩ : ∃ m, k = m + 1 := ⟨k - 1, by omega⟩
    simp only [bits_Of.l0]
    rw [if_neg (by omega), List.take_length]
    simp only [intsOf, strOf_B]
  | succ d ih =>
    intro i hi
    have hil : i < l.length := by omega
    have hnext := ih (i + 1) (by omega)
    have e : ofL (l.take (i + 1)) = ofL (l.take i) ++ bits8 (l.getD i 0) := by
      rw [List.take_succ_eq_append_getElem hil, ofL, ofL, List.flatMap_append]
      congr 1
      have : l.getD i 0 = l[i] := by simp [List.getD_eq_getElem?_getD, hil]
      rw [this]
      simp only [List.flatMap_cons, List.flatMap_nil, List.append_nil]
    rw [e] at hnext
    have h1 := of_l1 l hl i hil (B (ofL l)) (ofL (l.take i)) hnext (by rw [ofL_len]; simp; omega) 8 0 (by omega)
    refine Ev.step (f := fun k => bits_Of.l1 k (B l) (intsOf (ofL (l.take i))) (i : Int) 7 (l.length : Int) (i : Int)) (fun k => ?_) ?_
    · simp only [bits_Of.l0]
      rw [if_pos (by omega)]
    · simpa using h1
theorem of_f (l : List UInt8) (hl : l.length ≤ 1000000) : Ev (fun k => bits_Of.f k (B l)) (B (ofL l)) := by
  have h := of_l0 l hl l.length 0 (by omega)
  unfold bits_Of.f
  simp only [size_B]
  have e : wrap64 (8 * (l.length : Int)) = 8 * (l.length : Int) := wrap64_id (by omega) (by omega)
  simp only [e]
  have e1 : (0 : Int) ≤ 8 * (l.length : Int) := by omega
  have e2 : (8 * (l.length : Int)).toNat ≤ 281474976710656 := by omega
  simp only [e1, e2, if_true]
  exact h
theorem works_f : Ev (fun k => patchbaykeep1_bitsWork.f k) true := by
  unfold patchbaykeep1_bitsWork.f
  refine Ev.bind (a := B (ofL [65])) (of_f [65] (by decide)) ?_
  have e : (B (ofL [65])).toList = [48, 49, 48, 48, 48, 48, 48, 49] := by rw [B_toList]; decide
  simp only [e, if_true]
  exact Ev.bind (weight_f [48, 49, 49, 48] (by decide)) ⟨0, fun k _ => by rfl⟩
theorem cut_f (l : List UInt8) (n : Nat) : patchbaykeep1_cut.f (B l) (n : Int) = some (B (l.take n)) := by
  unfold patchbaykeep1_cut.f
  have hm : mn ((B l).size : Int) (n : Int) = ((min l.length n : Nat) : Int) := by rw [size_B]; exact mn_nat _ n
  rw [hm, size_B, if_pos (by omega), if_pos (by omega), Int.toNat_natCast, B_take, take_min]
theorem bitString_f (l : List UInt8) (n : Nat) (hl : l.length ≤ 9223372036854775807) : patchbaykeep1_bitString.f (B l) (n : Int) = some (B ((l.take n).map bitB)) := by
  unfold patchbaykeep1_bitString.f
  rw [cut_f]
  simp only [Option.bind_some]
  rw [if_pos (by rw [size_B]; simp; omega), B_data]
end Go.Proofs.Ytnpmficbhggeaaa.Pure
