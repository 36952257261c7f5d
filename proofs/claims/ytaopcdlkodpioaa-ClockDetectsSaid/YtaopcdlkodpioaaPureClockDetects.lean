/- Proved: for every string s and every int i: one wrong symbol among the symbols of the bits of s (with one more 0, at most 300) is always detected. No condition beyond the row's own. -/
import Derived.Test.YtaopcdlkodpioaaM3
import Derived.Test.YtaopcdlkodpioaaPureClockCommon
namespace Go.Proofs.Ytaopcdlkodpioaa.Pure
open Go.RowKit Go.Proofs.Ytaopcdlkodpioaa.M Go.Proofs.YtaopcdlkodpioaaW.PrintWords Go.Proofs.YtaopcdlkodpioaaW.PrintMore Go.Proofs.YtaopcdlkodpioaaW.PrintLast
theorem within_f (x : Int) (n : Nat) (h0 : 0 < n) (hn : n ≤ 1000000) : ∃ j : Nat, j < n ∧ patchbaykeep1_within.f x (n : Int) = some (j : Int) := by
  unfold patchbaykeep1_within.f
  have e : IntKind.u64.wrap (n : Int) = (n : Int) := u64_id (by omega) (by omega)
  rw [e, if_neg (by omega)]
  have h1 : 0 ≤ IntKind.u64.wrap x := by
    simp only [IntKind.wrap, IntKind.bits, IntKind.signed]
    simp
    omega
  have h2 : (IntKind.u64.wrap x).tmod (n : Int) = IntKind.u64.wrap x % (n : Int) := Int.tmod_eq_emod_of_nonneg h1
  have h3 : 0 ≤ IntKind.u64.wrap x % (n : Int) := Int.emod_nonneg _ (by omega)
  have h4 : IntKind.u64.wrap x % (n : Int) < (n : Int) := Int.emod_lt_of_pos _ (by omega)
  refine ⟨(IntKind.u64.wrap x % (n : Int)).toNat, by omega, ?_⟩
  rw [h2, wrap64_id (by omega) (by omega)]
  congr 1
  omega
theorem flip_f (l : List UInt8) (hl : l.length ≤ 1000000) (j : Nat) (hj : j < l.length) (hb : l.getD j 0 = 48 ∨ l.getD j 0 = 49) : bits_Flip.f (B l) (j : Int) = some (B (l.set j (l.getD j 0 ^^^ 1))) := by
  have key : ∀ b : UInt8, b = l.getD j 0 → B (l.take j) ++ strOfNums [Go.bits .xor .u8 (b.toNat : Int) 1] ++ B (l.drop (j + 1)) = B (l.set j (l.getD j 0 ^^^ 1)) := by
    intro b hbq
    have h1 := xor_u8 b 1
    rw [show (((1 : UInt8).toNat : Nat) : Int) = 1 from rfl] at h1
    rw [h1]
    have h2 := strOf_B [b ^^^ 1]
    simp only [List.map_cons, List.map_nil] at h2
    rw [h2, B_append, B_append, hbq, List.set_eq_take_append_cons_drop, if_pos hj]
    simp
  have hsz : ∀ b : UInt8, (strOfNums [Go.bits .xor .u8 (b.toNat : Int) 1]).size = 1 := fun b => by simp [strOfNums, ByteArray.size]
  unfold bits_Flip.f
  simp only [size_B]
  rw [if_neg (by omega), if_neg (by omega), if_pos (by omega), if_pos (by omega), bt_getD l j hj]
  have e : wrap64 ((j : Int) + 1) = ((j + 1 : Nat) : Int) := by rw [wrap64_id (by omega) (by omega)]; omega
  simp only [e, Int.toNat_natCast, B_take, hsz, Option.bind_some]
  have hdrop : (B l).extract (j + 1) l.length = B (l.drop (j + 1)) := by
    have := B_drop l (j + 1)
    rwa [size_B] at this
  simp only [hdrop]
  have hk := key (l.getD j 0) rfl
  rcases hb with hb | hb
  · rw [if_pos (by rw [hb]; rfl), if_pos (by omega), if_pos (by rw [size_B]; simp; omega), if_pos (by omega), if_pos (by omega), if_pos (by rw [ByteArray.size_append, size_B, size_B, hsz]; simp; omega), hk]
  · rw [if_neg (by rw [hb]; decide), if_pos (by rw [hb]; rfl), if_pos (by omega), if_pos (by rw [size_B]; simp; omega), if_pos (by omega), if_pos (by omega), if_pos (by rw [ByteArray.size_append, size_B, size_B, hsz]; simp; omega), hk]
theorem flip_flip {b : UInt8} (h : isBit b) : b ^^^ 1 ^^^ 1 = b := by
  rcases h with rfl | rfl <;> decide
theorem dec_wrong : ∀ (l : List UInt8) (j : Nat), Bits l → j < 2 * l.length → decL ((encL l).set j ((encL l).getD j 0 ^^^ 1)) = none := by
  intro l
  induction l with
  | nil => intro j _ hj; simp at hj
  | cons b l ih =>
    intro j hb hj
    have hbb : isBit b := hb b (List.mem_cons_self ..)
    have e : encL (b :: l) = (b ^^^ 1) :: b :: encL l := rfl
    rw [e]
    rcases j with _ | _ | j
    · simp only [List.set_cons_zero, List.getD_cons_zero, decL, flip_flip hbb, if_true]
    · simp only [List.set_cons_succ, List.set_cons_zero, List.getD_cons_succ, List.getD_cons_zero, decL, if_true]
    · simp only [List.set_cons_succ, List.getD_cons_succ, decL, flip_ne, if_false]
      rw [ih j (fun c hc => hb c (List.mem_cons_of_mem _ hc)) (by simp only [List.length_cons] at hj; omega)]
      rfl
theorem bits_set (l : List UInt8) (j : Nat) (b : UInt8) (h : Bits l) (hb : isBit b) : Bits (l.set j b) := by
  intro c hc
  rcases List.mem_or_eq_of_mem_set hc with h' | h'
  · exact h c h'
  · rw [h']; exact hb
theorem ClockDetects : patchbaykeep1_ClockDetects.Pure := by
  intro a0 a1 w0 w1
  obtain ⟨s, rfl⟩ := B_surj a0
  rw [size_B] at w0
  apply Ev.rounds
  unfold patchbaykeep1_ClockDetects.f
  have e0 : (⟨#[48]⟩ : ByteArray) = B [48] := rfl
  have hc : (B s).size + 1 ≤ 9223372036854775807 := by rw [size_B]; omega
  simp only [hc, if_true, e0, B_append]
  have hb := bitString_f (s ++ [48]) 300 (by simp; omega)
  rw [show ((300 : Nat) : Int) = 300 from rfl] at hb
  simp only [hb, Option.bind_some]
  have hA := bits_map ((s ++ [48]).take 300)
  have hl1 : 0 < (((s ++ [48]).take 300).map bitB).length := by simp; omega
  have hl2 : (((s ++ [48]).take 300).map bitB).length ≤ 300 := by simp; omega
  generalize ((s ++ [48]).take 300).map bitB = a at hA hl1 hl2
  refine Ev.bind works_f ?_
  simp only [if_true]
  refine Ev.bind (enc_f a (by omega) hA) ?_
  simp only [if_true, size_B, encL_len]
  have e1 : wrap64 (2 * (a.length : Int)) = ((2 * a.length : Nat) : Int) := by rw [wrap64_id (by omega) (by omega)]; omega
  simp only [e1, bne_self_eq_false]
  obtain ⟨j, hj, hw⟩ := within_f a1 (2 * a.length) (by omega) (by omega)
  have hjl : j < (encL a).length := by rw [encL_len]; exact hj
  have hx := encL_bits a hA
  have hxj : isBit ((encL a).getD j 0) := by
    have : (encL a).getD j 0 = (encL a)[j] := by simp [List.getD_eq_getElem?_getD, hjl]
    rw [this]
    exact hx _ (List.getElem_mem hjl)
  have hf := flip_f (encL a) (by rw [encL_len]; omega) j hjl hxj
  have hd := dec_f ((encL a).set j ((encL a).getD j 0 ^^^ 1)) (by rw [List.length_set, encL_len]; omega) (bits_set _ _ _ hx (flip_bit hxj)) (by rw [List.length_set, encL_len]; omega)
  rw [dec_wrong a j hA hj] at hd
  refine Ev.step (f := fun k => (clock_Decode.f k (B ((encL a).set j ((encL a).getD j 0 ^^^ 1)))).bind fun bt162 => (if bt162.2 = 11 then (some (bt162.1.toList == ([] : List UInt8))) else (some false))) (fun k => ?_) (Ev.bind hd ⟨0, fun k _ => ?_⟩)
  · simp only [patchbaykeep1_ClockDetects.j0, size_B, encL_len, hw, hf, Option.bind_some]
    rw [if_neg (by simp)]
  · simp only [if_true, B_toList]
    rfl
end Go.Proofs.Ytaopcdlkodpioaa.Pure
