import Derived.Test.YtaopcdlkodpioaaM1
import Derived.Test.YtaopcdlkodpioaaM2
import Derived.Test.YtaopcdlkodpioaaPlain
import Derived.Lib.IndexMore
/- Plain laws of the line code. -/
namespace Go.Proofs.Ytaopcdlkodpioaa.Pure
open Go.RowKit Go.Proofs.Ytaopcdlkodpioaa.M Go.Proofs.YtaopcdlkodpioaaW.PrintWords Go.Proofs.YtaopcdlkodpioaaW.PrintMore Go.Proofs.YtaopcdlkodpioaaW.PrintLast

def isBit (b : UInt8) : Prop := b = 48 ∨ b = 49
def Bits (l : List UInt8) : Prop := ∀ b ∈ l, isBit b
theorem bits_map (l : List UInt8) : Bits (l.map bitB) := by
  intro b hb
  obtain ⟨c, _, rfl⟩ := List.mem_map.1 hb
  exact bitB_or c
theorem bits_count (l : List UInt8) (h : Bits l) : l.count 48 + l.count 49 = l.length := by
  induction l with
  | nil => rfl
  | cons b l ih =>
    have h1 := ih (fun c hc => h c (List.mem_cons_of_mem _ hc))
    simp only [List.count_cons, beq_iff_eq, List.length_cons]
    rcases h b (List.mem_cons_self ..) with rfl | rfl
    · rw [if_pos rfl, if_neg (by decide)]; omega
    · rw [if_neg (by decide), if_pos rfl]; omega
def intsOf (l : List UInt8) : List Int := l.map fun b => (b.toNat : Int)
theorem count_f (l : List UInt8) (c : UInt8) : strings_Count.f (B l) (⟨#[c]⟩ : ByteArray) = some ((l.count c : Nat) : Int) := by
  unfold strings_Count.f
  simp only [B_data]
  rfl
theorem good_f (l : List UInt8) (hl : l.length ≤ 1000000) (hb : Bits l) : clock_good.f (B l) = some true := by
  unfold clock_good.f
  have hc := bits_count l hb
  rw [count_f, count_f]
  simp only [Option.bind_some, size_B]
  rw [wrap64_id (by omega) (by omega), Option.some.injEq, beq_iff_eq]
  omega
def encL (l : List UInt8) : List UInt8 := l.flatMap fun b => [b ^^^ 1, b]
theorem encL_len (l : List UInt8) : (encL l).length = 2 * l.length := by
  induction l with
  | nil => rfl
  | cons b l ih =>
    simp only [encL, List.flatMap_cons, List.length_append, List.length_cons, List.length_nil]
    simp only [encL] at ih
    omega
theorem encL_append (a b : List UInt8) : encL (a ++ b) = encL a ++ encL b := by simp [encL]
theorem flip_bit {b : UInt8} (h : isBit b) : isBit (b ^^^ 1) := by
  rcases h with rfl | rfl
  · exact .inr (by decide)
  · exact .inl (by decide)
theorem flip_ne (b : UInt8) : b ^^^ 1 ≠ b := by
  intro h
  have := congrArg (fun x : UInt8 => x.toBitVec.getLsbD 0) h
  simp at this
theorem encL_bits (l : List UInt8) (h : Bits l) : Bits (encL l) := by
  intro c hc
  simp only [encL, List.mem_flatMap, List.mem_cons, List.not_mem_nil, or_false] at hc
  obtain ⟨b, hb, rfl | rfl⟩ := hc
  · exact flip_bit (h b hb)
  · exact h c hb
theorem drop_cons (l : List UInt8) (i : Nat) (h : i < l.length) : l.drop i = l.getD i 0 :: l.drop (i + 1) := by
  rw [List.drop_eq_getElem_cons h]; simp [List.getD_eq_getElem?_getD, h]
theorem enc_l0 (l : List UInt8) (hl : l.length ≤ 8192) : ∀ (d i : Nat), i + d = l.length → Ev (fun k => clock_Encode.l0 k (B l) (intsOf (encL (l.take i))) (l.length : Int) (i : Int)) (B (encL l), 0) := by
  intro d
  induction d with
  | zero =>
    intro i hi
    obtain rfl : i = l.length := by omega
    refine ⟨1, fun k hk => ?_⟩
    obtain ⟨k, rfl⟩ : ∃ m, k = m + 1 := ⟨k - 1, by omega⟩
    simp only [clock_Encode.l0]
    rw [if_neg (by omega), List.take_length]
    simp only [intsOf, strOf_B]
  | succ d ih =>
    intro i hi
    have hil : i < l.length := by omega
    have e : encL (l.take (i + 1)) = encL (l.take i) ++ [l.getD i 0 ^^^ 1, l.getD i 0] := by
      rw [List.take_succ_eq_append_getElem hil, encL_append]
      congr 1
      have : l.getD i 0 = l[i] := by simp [List.getD_eq_getElem?_getD, hil]
      rw [this]
      rfl
    refine Ev.step (f := fun k => clock_Encode.l0 k (B l) (intsOf (encL (l.take (i + 1)))) (l.length : Int) ((i + 1 : Nat) : Int)) (fun k => ?_) (ih (i + 1) (by omega))
    have hx := xor_u8 (l.getD i 0) 1
    rw [show (((1 : UInt8).toNat : Nat) : Int) = 1 from rfl] at hx
    simp only [clock_Encode.l0, size_B, Option.bind_some]
    rw [if_pos (by omega), if_pos (by omega), if_pos (by omega), bt_getD l i hil, hx, wrap64_id (by omega) (by omega)]
    have hlen : (intsOf (encL (l.take i))).length + [((l.getD i 0 ^^^ 1).toNat : Int), ((l.getD i 0).toNat : Int)].length < 140737488355328 := by
      simp only [intsOf, List.length_map, encL_len, List.length_take, List.length_cons, List.length_nil]
      omega
    rw [if_pos hlen, e]
    congr 1
    simp only [intsOf, List.map_append, List.map_cons, List.map_nil]
theorem enc_f (l : List UInt8) (hl : l.length ≤ 8192) (hb : Bits l) : Ev (fun k => clock_Encode.f k (B l)) (B (encL l), 0) := by
  unfold clock_Encode.f
  have h := enc_l0 l hl l.length 0 (by omega)
  have e : wrap64 (2 * (l.length : Int)) = 2 * (l.length : Int) := wrap64_id (by omega) (by omega)
  have e1 : (0 : Int) ≤ 2 * (l.length : Int) := by omega
  have e2 : (2 * (l.length : Int)).toNat ≤ 281474976710656 := by omega
  have e3 : ¬ ((l.length : Int) > 8192) := by omega
  simp only [good_f l (by omega) hb, Option.bind_some, size_B, e, e1, e2, e3, if_true, if_false]
  exact h
theorem works_f : Ev (fun k => patchbaykeep1_clockWorks.f k) true := by
  unfold patchbaykeep1_clockWorks.f
  have hb : Bits [48, 49] := by
    intro b hb
    simp only [List.mem_cons, List.not_mem_nil, or_false] at hb
    exact hb
  refine Ev.bind (a := (B (encL [48, 49]), 0)) (enc_f [48, 49] (by decide) hb) ⟨0, fun k _ => ?_⟩
  simp only [if_true, B_toList]
  decide
def decL : List UInt8 → Option (List UInt8)
  | [] => some []
  | [_] => some []
  | a :: b :: r => if a = b then none else (decL r).map (b :: ·)
theorem dec_l0 (x : List UInt8) (hx : x.length ≤ 16384) : ∀ (d i : Nat) (acc : List UInt8), i + 2 * d = x.length → acc.length ≤ i →
    Ev (fun k => clock_Decode.l0 k (B x) (intsOf acc) (i : Int)) (match decL (x.drop i) with | some t => (B (acc ++ t), 0) | none => (B [], 11)) := by
  intro d
  induction d with
  | zero =>
    intro i acc hi ha
    refine ⟨1, fun k hk => ?_⟩
    obtain ⟨k, rfl⟩ : ∃ m, k = m + 1 := ⟨k - 1, by omega⟩
    simp only [clock_Decode.l0, size_B]
    rw [if_neg (by omega), List.drop_of_length_le (by omega)]
    simp only [decL, intsOf, strOf_B, List.append_nil]
  | succ d ih =>
    intro i acc hi ha
    have h0 : i < x.length := by omega
    have h1 : i + 1 < x.length := by omega
    have hd : x.drop i = x.getD i 0 :: x.getD (i + 1) 0 :: x.drop (i + 2) := by rw [drop_cons x i h0, drop_cons x (i + 1) h1]
    have e1 : wrap64 ((i : Int) + 1) = ((i + 1 : Nat) : Int) := by rw [wrap64_id (by omega) (by omega)]; omega
    have e2 : wrap64 ((i : Int) + 2) = ((i + 2 : Nat) : Int) := by rw [wrap64_id (by omega) (by omega)]; omega
    by_cases he : x.getD i 0 = x.getD (i + 1) 0
    · refine ⟨1, fun k hk => ?_⟩
      obtain ⟨k, rfl⟩ : ∃ m, k = m + 1 := ⟨k - 1, by omega⟩
      simp only [clock_Decode.l0, size_B, e1]
      rw [if_pos (by omega), if_pos (by omega), if_pos (by omega), if_pos (by omega), bt_getD x i h0, bt_getD x (i + 1) h1, if_pos (by rw [he]), hd]
      simp only [decL, he, if_true]
      rfl
    · have h := ih (i + 2) (acc ++ [x.getD (i + 1) 0]) (by omega) (by simp; omega)
      refine Ev.step (f := fun k => clock_Decode.l0 k (B x) (intsOf (acc ++ [x.getD (i + 1) 0])) ((i + 2 : Nat) : Int)) (fun k => ?_) ?_
      · have hlen : (intsOf acc).length < 140737488355328 := by simp only [intsOf, List.length_map]; omega
        simp only [clock_Decode.l0, size_B, e1, e2]
        rw [if_pos (by omega), if_pos (by omega), if_pos (by omega), if_pos (by omega), bt_getD x i h0, bt_getD x (i + 1) h1, if_neg (fun h' => he (UInt8.toNat_inj.1 (by omega))), if_pos hlen]
        congr 1
        simp only [intsOf, List.map_append, List.map_cons, List.map_nil]
      · rw [hd]
        simp only [decL, he, if_false]
        cases hq : decL (x.drop (i + 2)) with
        | none => rw [hq] at h; exact h
        | some t =>
          rw [hq] at h
          simp only [Option.map_some]
          simp only [List.append_assoc, List.singleton_append] at h
          exact h
theorem dec_f (x : List UInt8) (hx : x.length ≤ 16384) (hb : Bits x) (he : x.length % 2 = 0) : Ev (fun k => clock_Decode.f k (B x)) (match decL x with | some t => (B t, 0) | none => (B [], 11)) := by
  unfold clock_Decode.f
  have h := dec_l0 x hx (x.length / 2) 0 [] (by omega) (by simp)
  simp only [List.drop_zero, List.nil_append] at h
  have e1 : wrap64 ((x.length : Int) / 2) = ((x.length / 2 : Nat) : Int) := by rw [wrap64_id (by omega) (by omega)]; omega
  have e2 : (x.length : Int) % 2 = 0 := by omega
  have e3 : (0 : Int) ≤ ((x.length / 2 : Nat) : Int) := by omega
  have e4 : x.length / 2 ≤ 281474976710656 := by omega
  have e5 : ¬ ((x.length : Int) > 16384) := by omega
  simp only [good_f x (by omega) hb, Option.bind_some, size_B, e1, e2, e3, e4, e5, if_true, if_false, Int.toNat_natCast]
  exact h
theorem dec_odd (x : List UInt8) (hx : x.length ≤ 16384) (hb : Bits x) (he : x.length % 2 ≠ 0) : ∀ k, clock_Decode.f k (B x) = some (B [], 9) := by
  intro k
  unfold clock_Decode.f
  have e2 : ¬ ((x.length : Int) % 2 = 0) := by omega
  have e5 : ¬ ((x.length : Int) > 16384) := by omega
  simp only [good_f x (by omega) hb, Option.bind_some, size_B, e2, e5, if_true, if_false]
  rfl
theorem dec_enc (l : List UInt8) : decL (encL l) = some l := by
  induction l with
  | nil => rfl
  | cons b l ih =>
    have e : encL (b :: l) = (b ^^^ 1) :: b :: encL l := rfl
    rw [e]
    simp only [decL, flip_ne, if_false, ih, Option.map_some]
theorem enc_dec : ∀ (n : Nat) (x t : List UInt8), x.length = 2 * n → Bits x → decL x = some t → encL t = x ∧ Bits t ∧ t.length = n := by
  intro n
  induction n with
  | zero =>
    intro x t hx _ h
    obtain rfl : x = [] := List.eq_nil_of_length_eq_zero (by omega)
    simp only [decL, Option.some.injEq] at h
    subst h
    exact ⟨rfl, (fun b hb => by cases hb), rfl⟩
  | succ n ih =>
    intro x t hx hb h
    obtain ⟨a, b, r, rfl⟩ : ∃ a b r, x = a :: b :: r := by
      match x, hx with
      | [], hx => simp at hx
      | [_], hx => simp at hx; omega
      | a :: b :: r, _ => exact ⟨a, b, r, rfl⟩
    simp only [decL] at h
    by_cases he : a = b
    · rw [if_pos he] at h; cases h
    · rw [if_neg he, Option.map_eq_some_iff] at h
      obtain ⟨u, hu, rfl⟩ := h
      have ha : isBit a := hb a (by simp)
      have hb' : isBit b := hb b (by simp)
      obtain ⟨h1, h2, h3⟩ := ih r u (by simp only [List.length_cons] at hx; omega) (fun c hc => hb c (by simp [hc])) hu
      refine ⟨?_, ?_, by simp [h3]⟩
      · have : encL (b :: u) = (b ^^^ 1) :: b :: encL u := rfl
        rw [this, h1]
        congr 1
        rcases ha with rfl | rfl <;> rcases hb' with rfl | rfl
        · exact absurd rfl he
        · decide
        · decide
        · exact absurd rfl he
      · intro c hc
        rcases List.mem_cons.1 hc with rfl | hc
        · exact hb'
        · exact h2 c hc
theorem cut_f (l : List UInt8) (n : Nat) : patchbaykeep1_cut.f (B l) (n : Int) = some (B (l.take n)) := by
  unfold patchbaykeep1_cut.f
  have hm : mn ((B l).size : Int) (n : Int) = ((min l.length n : Nat) : Int) := by rw [size_B]; exact mn_nat _ n
  rw [hm, size_B, if_pos (by omega), if_pos (by omega), Int.toNat_natCast, B_take, take_min]
theorem bitString_f (l : List UInt8) (n : Nat) (hl : l.length ≤ 9223372036854775807) : patchbaykeep1_bitString.f (B l) (n : Int) = some (B ((l.take n).map bitB)) := by
  unfold patchbaykeep1_bitString.f
  rw [cut_f]
  simp only [Option.bind_some]
  rw [if_pos (by rw [size_B]; simp; omega), B_data]
end Go.Proofs.Ytaopcdlkodpioaa.Pure
