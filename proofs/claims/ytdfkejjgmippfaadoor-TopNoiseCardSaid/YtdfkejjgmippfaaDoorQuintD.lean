import Derived.Test.YtdfkejjgmippfaaDoorQuint
/- The decoder of chapter 3, plainly. -/
namespace Go.Proofs.YtdfkejjgmippfaaDoor.Quint
open Go.Proofs.YtdfkejjgmippfaaDoor Go.RowKit
def bit (b : UInt8) : Prop := b = 48 ∨ b = 49
def val (l : List UInt8) : Nat := l.foldl (fun n c => 2 * n + (c.toNat - 48)) 0
def idx (n : Nat) : Option Nat := if wordsN.contains n then some (wordsN.idxOf n) else none
def idxI (n : Nat) : Int := match idx n with
  | some j => (j : Int)
  | none => -1
def dec10 (c : List UInt8) : Option UInt8 := (idx (val (c.take 5))).bind fun h => (idx (val (c.drop 5))).map fun d => UInt8.ofNat (16 * h + d)
def decG : Nat → List UInt8 → Option (List UInt8)
  | 0, _ => some []
  | k + 1, c => (dec10 (c.take 10)).bind fun b => (decG k (c.drop 10)).map (b :: ·)
def decL (c : List UInt8) : List UInt8 × Int := if c.length % 10 = 0 then (match decG (c.length / 10) c with
  | some l => (l, 0)
  | none => ([], 11)) else ([], 9)
def bitOf (b : Bool) : UInt8 := if b then 49 else 48
theorem five {c : List UInt8} (hl : c.length = 5) (hb : ∀ b ∈ c, bit b) : ∃ b1 b2 b3 b4 b5 : Bool, c = [bitOf b1, bitOf b2, bitOf b3, bitOf b4, bitOf b5] := by
  match c, hl with
  | [x1, x2, x3, x4, x5], _ =>
    have h : ∀ x : UInt8, bit x → ∃ b : Bool, x = bitOf b := fun x hx => by
      rcases hx with rfl | rfl
      · exact ⟨false, rfl⟩
      · exact ⟨true, rfl⟩
    obtain ⟨b1, rfl⟩ := h x1 (hb x1 (by simp))
    obtain ⟨b2, rfl⟩ := h x2 (hb x2 (by simp))
    obtain ⟨b3, rfl⟩ := h x3 (hb x3 (by simp))
    obtain ⟨b4, rfl⟩ := h x4 (hb x4 (by simp))
    obtain ⟨b5, rfl⟩ := h x5 (hb x5 (by simp))
    exact ⟨b1, b2, b3, b4, b5, rfl⟩
theorem five_idx : ∀ b1 b2 b3 b4 b5 : Bool, val [bitOf b1, bitOf b2, bitOf b3, bitOf b4, bitOf b5] < 32 ∧ ∀ j : Fin 17, idx (val [bitOf b1, bitOf b2, bitOf b3, bitOf b4, bitOf b5]) = some j.1 → (j.1 < 16 ∧ wordL j.1 = [bitOf b1, bitOf b2, bitOf b3, bitOf b4, bitOf b5]) := by decide +kernel
theorem idx_lt {n j : Nat} (h : idx n = some j) : j < 16 := by
  unfold idx at h
  split at h
  · rename_i hc
    have := List.idxOf_lt_length_iff.2 (List.contains_iff_mem.1 hc)
    have e : wordsN.length = 16 := rfl
    have := Option.some.inj h
    omega
  · cases h
theorem val_lt {c : List UInt8} (hl : c.length = 5) (hb : ∀ b ∈ c, bit b) : val c < 32 := by
  obtain ⟨b1, b2, b3, b4, b5, rfl⟩ := five hl hb
  exact (five_idx b1 b2 b3 b4 b5).1
theorem idx_word {c : List UInt8} (hl : c.length = 5) (hb : ∀ b ∈ c, bit b) {j : Nat} (h : idx (val c) = some j) : wordL j = c := by
  obtain ⟨b1, b2, b3, b4, b5, rfl⟩ := five hl hb
  exact ((five_idx b1 b2 b3 b4 b5).2 ⟨j, by have := idx_lt h; omega⟩ h).2
theorem word_idx : ∀ j : Fin 16, idx (val (wordL j.1)) = some j.1 := by decide +kernel
theorem word_bits : ∀ j : Fin 16, ∀ b ∈ wordL j.1, b = 48 ∨ b = 49 := by decide +kernel
theorem encB_bits (b : UInt8) : ∀ x ∈ encB b, bit x := by
  intro x hx
  have hb := b.toNat_lt
  rcases List.mem_append.1 hx with h | h
  · exact word_bits ⟨b.toNat / 16, by omega⟩ x h
  · exact word_bits ⟨b.toNat % 16, by omega⟩ x h
theorem encL_bits (l : List UInt8) : ∀ x ∈ encL l, bit x := by
  intro x hx
  obtain ⟨b, _, h⟩ := List.mem_flatMap.1 hx
  exact encB_bits b x h
theorem dec10_enc (b : UInt8) : dec10 (encB b) = some b := by
  have hb := b.toNat_lt
  unfold dec10 encB
  rw [List.take_left' (word_len _), List.drop_left' (word_len _), word_idx ⟨b.toNat / 16, by omega⟩, word_idx ⟨b.toNat % 16, by omega⟩]
  simp only [Option.bind_some, Option.map_some, Option.some.injEq]
  apply UInt8.toNat_inj.1
  rw [UInt8.toNat_ofNat']
  omega
theorem dec10_some {c : List UInt8} (hl : c.length = 10) (hb : ∀ b ∈ c, bit b) {b : UInt8} (h : dec10 c = some b) : encB b = c := by
  unfold dec10 at h
  obtain ⟨x, hx, h⟩ := Option.bind_eq_some_iff.1 h
  obtain ⟨y, hy, h⟩ := Option.map_eq_some_iff.1 h
  have hx1 := idx_lt hx
  have hy1 := idx_lt hy
  have wx := idx_word (by simp [hl]) (fun b hb' => hb b (List.mem_of_mem_take hb')) hx
  have wy := idx_word (by simp [hl]) (fun b hb' => hb b (List.mem_of_mem_drop hb')) hy
  have e : b.toNat = 16 * x + y := by
    rw [← h, UInt8.toNat_ofNat']
    omega
  unfold encB
  rw [e, show (16 * x + y) / 16 = x by omega, show (16 * x + y) % 16 = y by omega, wx, wy, List.take_append_drop]
theorem decG_enc (l : List UInt8) : decG l.length (encL l) = some l := by
  induction l with
  | nil => rfl
  | cons b l ih =>
    have e : encL (b :: l) = encB b ++ encL l := by simp [encL]
    rw [List.length_cons, decG, e, List.take_left' (encB_len b), List.drop_left' (encB_len b), dec10_enc, ih]
    rfl
theorem decG_some : ∀ (k : Nat) (c : List UInt8), c.length = 10 * k → (∀ b ∈ c, bit b) → ∀ l, decG k c = some l → encL l = c
  | 0, c, hl, _, l, h => by
    obtain rfl : c = [] := List.eq_nil_of_length_eq_zero (by omega)
    obtain rfl := Option.some.inj h
    rfl
  | k + 1, c, hl, hb, l, h => by
    obtain ⟨b, h1, h⟩ := Option.bind_eq_some_iff.1 h
    obtain ⟨m, h2, rfl⟩ := Option.map_eq_some_iff.1 h
    have e1 := dec10_some (by simp; omega) (fun b hb' => hb b (List.mem_of_mem_take hb')) h1
    have e2 := decG_some k (c.drop 10) (by simp; omega) (fun b hb' => hb b (List.mem_of_mem_drop hb')) m h2
    have e : encL (b :: m) = encB b ++ encL m := by simp [encL]
    rw [e, e1, e2, List.take_append_drop]
theorem decL_enc (l : List UInt8) : decL (encL l) = (l, 0) := by
  unfold decL
  rw [encL_len, if_pos (by omega), show 10 * l.length / 10 = l.length by omega, decG_enc]
theorem decL_ok {c : List UInt8} (hb : ∀ b ∈ c, bit b) (h : (decL c).2 = 0) : encL (decL c).1 = c := by
  unfold decL at h ⊢
  by_cases h10 : c.length % 10 = 0
  · rw [if_pos h10] at h ⊢
    cases hd : decG (c.length / 10) c with
    | none => rw [hd] at h; cases h
    | some l => exact decG_some _ c (by omega) hb l hd
  · rw [if_neg h10] at h
    cases h
theorem decL_bad {c : List UInt8} (h : (decL c).2 ≠ 0) : (decL c).1 = [] := by
  unfold decL at h ⊢
  by_cases h10 : c.length % 10 = 0
  · rw [if_pos h10] at h ⊢
    cases hd : decG (c.length / 10) c with
    | none => rfl
    | some l => rw [hd] at h; exact absurd rfl h
  · rw [if_neg h10]
theorem decG_len : ∀ (k : Nat) (c l : List UInt8), decG k c = some l → l.length = k
  | 0, c, l, h => by obtain rfl := Option.some.inj h; rfl
  | k + 1, c, l, h => by
    obtain ⟨b, h1, h⟩ := Option.bind_eq_some_iff.1 h
    obtain ⟨m, h2, rfl⟩ := Option.map_eq_some_iff.1 h
    rw [List.length_cons, decG_len k _ m h2]
/-- One step of the reading by halves. -/
theorem val_snoc (l : List UInt8) (b : UInt8) : val (l ++ [b]) = 2 * val l + (b.toNat - 48) := by simp [val]
end Go.Proofs.YtdfkejjgmippfaaDoor.Quint
namespace Go.Proofs.YtdfkejjgmippfaaDoor.Quint
open Go.Proofs.YtdfkejjgmippfaaDoor Go.RowKit
def upd (x : UInt8) (k : Nat) : UInt8 := UInt8.ofNat (x.toNat * 16) ||| UInt8.ofNat k
theorem upd_zero : ∀ k : Fin 16, upd 0 k.1 = UInt8.ofNat k.1 := by decide +kernel
theorem upd_two : ∀ h k : Fin 16, upd (UInt8.ofNat h.1) k.1 = UInt8.ofNat (16 * h.1 + k.1) := by decide +kernel
def DecInv (c : List UInt8) (N i : Nat) (row : List UInt8) : Prop :=
  ∃ d : List UInt8, decG N c = (decG (N - d.length) (c.drop (10 * d.length))).map (d ++ ·) ∧
    ((i = 10 * d.length ∧ d.length ≤ N ∧ row = d ++ List.replicate (N - d.length) 0) ∨
     (∃ h : Nat, i = 10 * d.length + 5 ∧ d.length < N ∧ h < 16 ∧ row = d ++ UInt8.ofNat h :: List.replicate (N - d.length - 1) 0 ∧ idx (val ((c.drop (10 * d.length)).take 5)) = some h))
theorem inv_start (c : List UInt8) (N : Nat) : DecInv c N 0 (List.replicate N 0) := by
  refine ⟨[], ?_, .inl ⟨rfl, by simp, by simp⟩⟩
  simp only [List.length_nil, Nat.sub_zero, Nat.mul_zero, List.drop_zero]
  cases decG N c <;> simp
theorem inv_len {c : List UInt8} {N i : Nat} {row : List UInt8} (h : DecInv c N i row) : row.length = N ∧ i ≤ 10 * N := by
  obtain ⟨d, _, ⟨h1, h2, rfl⟩ | ⟨x, h1, h2, _, rfl, _⟩⟩ := h
  · simp; omega
  · simp; omega
theorem inv_step {c : List UInt8} {N i k : Nat} {row : List UInt8} (h : DecInv c N i row) (hi : i < 10 * N) (hk : idx (val ((c.drop i).take 5)) = some k) :
    i + 5 ≤ 10 * N ∧ DecInv c N (i + 5) (row.set (i / 10) (upd (row.getD (i / 10) 0) k)) := by
  have hk16 := idx_lt hk
  obtain ⟨d, hd, ⟨rfl, h2, rfl⟩ | ⟨x, rfl, h2, hx, rfl, hx2⟩⟩ := h
  · refine ⟨by omega, d, hd, .inr ⟨k, rfl, by omega, hk16, ?_, hk⟩⟩
    have e : 10 * d.length / 10 = d.length := by omega
    rw [e]
    obtain ⟨m, hm⟩ : ∃ m, N - d.length = m + 1 := ⟨N - d.length - 1, by omega⟩
    rw [hm, List.replicate_succ]
    have e2 : (d ++ 0 :: List.replicate m 0).getD d.length 0 = 0 := by simp [List.getD_eq_getElem?_getD]
    rw [e2, upd_zero ⟨k, hk16⟩, List.set_append_right _ _ (Nat.le_refl _), Nat.sub_self, List.set_cons_zero, Nat.add_sub_cancel]
  · have e : (10 * d.length + 5) / 10 = d.length := by omega
    rw [e]
    have e2 : (d ++ UInt8.ofNat x :: List.replicate (N - d.length - 1) 0).getD d.length 0 = UInt8.ofNat x := by simp [List.getD_eq_getElem?_getD]
    rw [e2, upd_two ⟨x, hx⟩ ⟨k, hk16⟩, List.set_append_right _ _ (Nat.le_refl _), Nat.sub_self, List.set_cons_zero]
    refine ⟨by omega, d ++ [UInt8.ofNat (16 * x + k)], ?_, .inl ⟨by simp; omega, by simp; omega, ?_⟩⟩
    · obtain ⟨m, hm⟩ : ∃ m, N - d.length = m + 1 := ⟨N - d.length - 1, by omega⟩
      have e3 : dec10 ((c.drop (10 * d.length)).take 10) = some (UInt8.ofNat (16 * x + k)) := by
        unfold dec10
        have a1 : ((c.drop (10 * d.length)).take 10).take 5 = (c.drop (10 * d.length)).take 5 := by rw [List.take_take]; congr 1
        have a2 : ((c.drop (10 * d.length)).take 10).drop 5 = (c.drop (10 * d.length + 5)).take 5 := by rw [List.drop_take, List.drop_drop]
        rw [a1, a2, hx2, hk]
        rfl
      rw [hd, hm, decG, e3]
      simp only [Option.bind_some, List.length_append, List.length_cons, List.length_nil, List.drop_drop]
      rw [show N - (d.length + (0 + 1)) = m by omega, show 10 * d.length + 10 = 10 * (d.length + (0 + 1)) by omega]
      cases decG m (c.drop (10 * (d.length + (0 + 1)))) <;> simp
    · simp
      rw [show N - (d.length + 1) = N - d.length - 1 by omega]
theorem inv_none {c : List UInt8} {N i : Nat} {row : List UInt8} (h : DecInv c N i row) (hi : i < 10 * N) (hk : idx (val ((c.drop i).take 5)) = none) : decG N c = none := by
  obtain ⟨d, hd, ⟨rfl, h2, rfl⟩ | ⟨x, rfl, h2, hx, rfl, hx2⟩⟩ := h
  · obtain ⟨m, hm⟩ : ∃ m, N - d.length = m + 1 := ⟨N - d.length - 1, by omega⟩
    have a1 : ((c.drop (10 * d.length)).take 10).take 5 = (c.drop (10 * d.length)).take 5 := by rw [List.take_take]; congr 1
    rw [hd, hm, decG, dec10, a1, hk]
    rfl
  · obtain ⟨m, hm⟩ : ∃ m, N - d.length = m + 1 := ⟨N - d.length - 1, by omega⟩
    have a1 : ((c.drop (10 * d.length)).take 10).take 5 = (c.drop (10 * d.length)).take 5 := by rw [List.take_take]; congr 1
    have a2 : ((c.drop (10 * d.length)).take 10).drop 5 = (c.drop (10 * d.length + 5)).take 5 := by rw [List.drop_take, List.drop_drop]
    rw [hd, hm, decG, dec10, a1, a2, hx2, hk]
    rfl
theorem inv_end {c : List UInt8} {N i : Nat} {row : List UInt8} (h : DecInv c N i row) (hi : ¬ i < 10 * N) : decG N c = some row := by
  obtain ⟨d, hd, ⟨rfl, h2, rfl⟩ | ⟨x, rfl, h2, hx, rfl, hx2⟩⟩ := h
  · have e : N - d.length = 0 := by omega
    rw [hd, e, decG]
    simp
  · omega
end Go.Proofs.YtdfkejjgmippfaaDoor.Quint
namespace Go.Proofs.YtdfkejjgmippfaaDoor.Quint
open Go.Proofs.YtdfkejjgmippfaaDoor Go.RowKit
theorem val_bound (l : List UInt8) : ∀ n : Nat, (∀ b ∈ l, bit b) → l.foldl (fun n c => 2 * n + (c.toNat - 48)) n < (n + 1) * 2 ^ l.length := by
  induction l with
  | nil => intro n _; simp
  | cons b l ih =>
    intro n hb
    have hb1 : b.toNat - 48 ≤ 1 := by rcases hb b (by simp) with rfl | rfl <;> decide
    have h := ih (2 * n + (b.toNat - 48)) (fun x hx => hb x (List.mem_cons_of_mem _ hx))
    simp only [List.foldl_cons, List.length_cons, Nat.pow_succ]
    refine Nat.lt_of_lt_of_le h ?_
    rw [Nat.mul_comm (2 ^ l.length) 2, ← Nat.mul_assoc]
    exact Nat.mul_le_mul_right _ (by omega)
theorem val_take (l : List UInt8) (t : Nat) (h : t < l.length) : val (l.take (t + 1)) = 2 * val (l.take t) + ((l.getD t 0).toNat - 48) := by
  rw [List.take_succ_eq_append_getElem h, val_snoc]
  simp [List.getD_eq_getElem?_getD, h]
theorem val_small {l : List UInt8} (hl : l.length ≤ 5) (hb : ∀ b ∈ l, bit b) : val l < 32 := by
  have h := val_bound l 0 hb
  have h2 : 2 ^ l.length ≤ 2 ^ 5 := Nat.pow_le_pow_right (by omega) hl
  unfold val
  omega
end Go.Proofs.YtdfkejjgmippfaaDoor.Quint
