/- Proved: for every string s and every int i, Flip of the bits of s (with one more 0, at most 300) at an index inside changes the weight by one, and Flip twice changes nothing. No condition beyond the row's own. -/
import Derived.Test.YtnpmficbhggeaaaM2
import Derived.Test.YtnpmficbhggeaaaPureBitsCommon
namespace Go.Proofs.Ytnpmficbhggeaaa.Pure
open Go.RowKit Go.Proofs.Ytnpmficbhggeaaa.M Go.Proofs.YtnpmficbhggeaaaW.PrintWords Go.Proofs.YtnpmficbhggeaaaW.PrintMore Go.Proofs.YtnpmficbhggeaaaW.PrintLast

theorem within_f (x : Int) (n : Nat) (h0 : 0 < n) (hn : n ≤ 1000000) : ∃ j : Nat, j < n ∧ patchbaykeep1_within.f x (n : Int) = some (j : Int) := by
  unfold patchbaykeep1_within.f
  have e : IntKind.u64.wrap (n : Int) = (n : Int) := u64_id (by omega) (by omega)
  rw [e, if_neg (by omega)]
  have h1 : 0 ≤ IntKind.u64.wrap x := by
    simp only [IntKind.wrap, IntKind.bits, IntKind.signed]
    simp
    omega
  have h2 : (IntKind.u64.wrap x).tmod (n : Int) = IntKind.u64.wrap x % (n : Int) := Int.tmod_eq_emod_of_nonneg h1
  have h3 : 0 ≤ IntKind.u64.wrap x % (n : Int) := Int.emod_nonneg _ (by omega)
  have h4 : IntKind.u64.wrap x % (n : Int) < (n : Int) := Int.emod_lt_of_pos _ (by omega)
  refine ⟨(IntKind.u64.wrap x % (n : Int)).toNat, by omega, ?_⟩
  rw [h2, wrap64_id (by omega) (by omega)]
  congr 1
  omega
theorem flip_f (l : List UInt8) (hl : l.length ≤ 1000000) (j : Nat) (hj : j < l.length) (hb : l.getD j 0 = 48 ∨ l.getD j 0 = 49) : bits_Flip.f (B l) (j : Int) = some (B (l.set j (l.getD j 0 ^^^ 1))) := by
  have key : ∀ b : UInt8, b = l.getD j 0 → B (l.take j) ++ strOfNums [Go.bits .xor .u8 (b.toNat : Int) 1] ++ B (l.drop (j + 1)) = B (l.set j (l.getD j 0 ^^^ 1)) := by
    intro b hbq
    have h1 := xor_u8 b 1
    rw [show (((1 : UInt8).toNat : Nat) : Int) = 1 from rfl] at h1
    rw [h1]
    have h2 := strOf_B [b ^^^ 1]
    simp only [List.map_cons, List.map_nil] at h2
    rw [h2, B_append, B_append, hbq, List.set_eq_take_append_cons_drop, if_pos hj]
    simp
  have hsz : ∀ b : UInt8, (strOfNums [Go.bits .xor .u8 (b.toNat : Int) 1]).size = 1 := fun b => by simp [strOfNums, ByteArray.size]
  unfold bits_Flip.f
  simp only [size_B]
  rw [if_neg (by omega), if_neg (by omega), if_pos (by omega), if_pos (by omega), bt_getD l j hj]
  have e : wrap64 ((j : Int) + 1) = ((j + 1 : Nat) : Int) := by rw [wrap64_id (by omega) (by omega)]; omega
  simp only [e, Int.toNat_natCast, B_take, hsz, Option.bind_some]
  have hdrop : (B l).extract (j + 1) l.length = B (l.drop (j + 1)) := by
    have := B_drop l (j + 1)
    rwa [size_B] at this
  simp only [hdrop]
  have hk := key (l.getD j 0) rfl
  rcases hb with hb | hb
  · rw [if_pos (by rw [hb]; rfl), if_pos (by omega), if_pos (by rw [size_B]; simp; omega), if_pos (by omega), if_pos (by omega), if_pos (by rw [ByteArray.size_append, size_B, size_B, hsz]; simp; omega), hk]
  · rw [if_neg (by rw [hb]; decide), if_pos (by rw [hb]; rfl), if_pos (by omega), if_pos (by rw [size_B]; simp; omega), if_pos (by omega), if_pos (by omega), if_pos (by rw [ByteArray.size_append, size_B, size_B, hsz]; simp; omega), hk]
theorem ones_set (l : List UInt8) (j : Nat) (hj : j < l.length) (b : UInt8) : ones (l.set j b) + (if l.getD j 0 = 49 then 1 else 0) = ones l + (if b = 49 then 1 else 0) := by
  have h1 : l = l.take j ++ l.getD j 0 :: l.drop (j + 1) := by
    have : l.getD j 0 = l[j] := by simp [List.getD_eq_getElem?_getD, hj]
    rw [this, ← List.drop_eq_getElem_cons hj, List.take_append_drop]
  have h2 : l.set j b = l.take j ++ b :: l.drop (j + 1) := by rw [List.set_eq_take_append_cons_drop, if_pos hj]
  rw [h2]
  conv => rhs; rw [h1]
  simp only [ones, List.count_append, List.count_cons, beq_iff_eq]
  have e : (l.take j ++ l.getD j 0 :: l.drop (j + 1)).getD j 0 = l.getD j 0 := by rw [← h1]
  omega
theorem BitsFlip : patchbaykeep1_BitsFlip.Pure := by
  intro a0 a1 w0 w1
  obtain ⟨s, rfl⟩ := B_surj a0
  rw [size_B] at w0
  apply Ev.rounds
  unfold patchbaykeep1_BitsFlip.f
  have e0 : (⟨#[48]⟩ : ByteArray) = B [48] := rfl
  have hc : (B s).size + 1 ≤ 9223372036854775807 := by rw [size_B]; omega
  simp only [hc, if_true, e0, B_append]
  have hb := bitString_f (s ++ [48]) 300 (by simp; omega)
  have h300 : ((300 : Nat) : Int) = 300 := rfl
  rw [h300] at hb
  simp only [hb, Option.bind_some]
  obtain ⟨l, hl⟩ : ∃ l, ((s ++ [48]).take 300).map bitB = l := ⟨_, rfl⟩
  have hl1 : 0 < l.length := by rw [← hl]; simp; omega
  have hl2 : l.length ≤ 300 := by rw [← hl]; simp; omega
  have hl3 : ∀ j, j < l.length → l.getD j 0 = 48 ∨ l.getD j 0 = 49 := by
    intro j hj
    rw [← hl] at hj ⊢
    simp only [List.length_map] at hj
    simp only [List.getD_eq_getElem?_getD, List.getElem?_map, List.getElem?_eq_getElem hj, Option.map_some, Option.getD_some]
    exact bitB_or _
  rw [hl]
  refine Ev.bind works_f ?_
  simp only [if_true, size_B]
  obtain ⟨j, hj, hw⟩ := within_f a1 l.length hl1 (by omega)
  simp only [hw, Option.bind_some, flip_f l (by omega) j hj (hl3 j hj)]
  obtain ⟨b, hbq⟩ : ∃ b, l.getD j 0 = b := ⟨_, rfl⟩
  rw [hbq]
  refine Ev.bind (weight_f (l.set j (b ^^^ 1)) (by simp; omega)) ?_
  refine Ev.bind (weight_f l (by omega)) ?_
  have hj' : j < (l.set j (b ^^^ 1)).length := by simpa using hj
  have hget : (l.set j (b ^^^ 1)).getD j 0 = b ^^^ 1 := by simp [List.getD_eq_getElem?_getD, hj]
  have hbit : b = 48 ∨ b = 49 := by rw [← hbq]; exact hl3 j hj
  have hor : (l.set j (b ^^^ 1)).getD j 0 = 48 ∨ (l.set j (b ^^^ 1)).getD j 0 = 49 := by
    rw [hget]; rcases hbit with rfl | rfl <;> decide
  have hback : (l.set j (b ^^^ 1)).set j ((l.set j (b ^^^ 1)).getD j 0 ^^^ 1) = l := by
    rw [hget, List.set_set]
    have : b ^^^ 1 ^^^ 1 = l[j] := by
      have h1 : l.getD j 0 = l[j] := by simp [List.getD_eq_getElem?_getD, hj]
      rw [← h1, hbq]
      rcases hbit with rfl | rfl <;> decide
    rw [this, List.set_getElem_self]
  have hflip := flip_f (l.set j (b ^^^ 1)) (by simp; omega) j hj' hor
  rw [hback] at hflip
  have hones := ones_set l j hj (b ^^^ 1)
  rw [hbq] at hones
  have hle : ones l ≤ l.length := List.count_le_length
  have hd : wrap64 (wrap64 ((ones (l.set j (b ^^^ 1)) : Int) - (ones l : Int)) * wrap64 ((ones (l.set j (b ^^^ 1)) : Int) - (ones l : Int))) = 1 := by
    rcases hbit with rfl | rfl
    · rw [if_neg (by decide), if_pos (by decide)] at hones
      have : (ones (l.set j (48 ^^^ 1)) : Int) - (ones l : Int) = 1 := by omega
      rw [this, wrap64_id (x := 1) (by omega) (by omega)]; exact wrap64_id (by omega) (by omega)
    · rw [if_pos (by decide), if_neg (by decide)] at hones
      have : (ones (l.set j (49 ^^^ 1)) : Int) - (ones l : Int) = -1 := by omega
      rw [this, wrap64_id (x := -1) (by omega) (by omega)]; exact wrap64_id (by omega) (by omega)
  rw [hd]
  simp only [if_true, hflip, Option.bind_some]
  exact ⟨0, fun k _ => by simp⟩
end Go.Proofs.Ytnpmficbhggeaaa.Pure
