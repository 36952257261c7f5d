/- Proved: for all strings s, t: Xor of the bits of s (at most 300) and as many bits of t is its own inverse, and its weight is the number of places where the two differ. No condition beyond the row's own. -/
import Derived.Test.YtnpmficbhggeaaaPureBitsXorC
namespace Go.Proofs.Ytnpmficbhggeaaa.Pure
open Go.RowKit Go.Proofs.Ytnpmficbhggeaaa.M Go.Proofs.YtnpmficbhggeaaaW.PrintWords Go.Proofs.YtnpmficbhggeaaaW.PrintMore Go.Proofs.YtnpmficbhggeaaaW.PrintLast

theorem law_l0 (a b : List UInt8) (hl : a.length ≤ 1000) (he : b.length = a.length) (ha : Bits a) (hb : Bits b) : ∀ (d i n : Nat), i + d = a.length → n + ones ((xorL a b).drop i) = ones (xorL a b) → n ≤ i →
    Ev (fun k => patchbaykeep1_BitsXor.l0 k (B a) (B b) (B (xorL a b)) 0 (B a) 0 (n : Int) (i : Int)) true := by
  intro d
  induction d with
  | zero =>
    intro i n hi hn hni
    have hd : (xorL a b).drop i = [] := List.drop_of_length_le (by rw [xorL_len]; omega)
    rw [hd] at hn
    refine Ev.step (f := fun k => (bits_Weight.f k (B (xorL a b))).bind fun t => some (t == (n : Int))) (fun k => ?_) ?_
    · simp only [patchbaykeep1_BitsXor.l0, size_B]
      rw [if_neg (by omega)]
      simp only [if_true]
    · refine Ev.bind (weight_f (xorL a b) (by rw [xorL_len]; omega)) ⟨0, fun k _ => ?_⟩
      have : ones ([] : List UInt8) = 0 := rfl
      rw [Option.some.injEq, beq_iff_eq]
      omega
  | succ d ih =>
    intro i n hi hn hni
    have hil : i < a.length := by omega
    have hdc := drop_cons (xorL a b) i (by rw [xorL_len]; exact hil)
    rw [hdc, ones_cons, xorL_get a b i hil] at hn
    refine Ev.step (f := fun k => if a.getD i 0 = b.getD i 0 then patchbaykeep1_BitsXor.l0 k (B a) (B b) (B (xorL a b)) 0 (B a) 0 (n : Int) ((i + 1 : Nat) : Int) else patchbaykeep1_BitsXor.l0 k (B a) (B b) (B (xorL a b)) 0 (B a) 0 ((n + 1 : Nat) : Int) ((i + 1 : Nat) : Int)) (fun k => ?_) ?_
    · simp only [patchbaykeep1_BitsXor.l0, size_B]
      rw [if_pos (by omega), if_pos (by omega), if_pos (by omega), bt_getD a i hil, bt_getD b i (by omega), wrap64_id (by omega) (by omega), wrap64_id (by omega) (by omega)]
      by_cases h : a.getD i 0 = b.getD i 0
      · rw [if_pos (by rw [h]), if_pos h]; rfl
      · rw [if_neg (fun h' => h (UInt8.toNat_inj.1 (by omega))), if_neg h]; rfl
    · by_cases h : a.getD i 0 = b.getD i 0
      · simp only [h, if_true]
        refine ih (i + 1) n (by omega) ?_ (by omega)
        have : xr (a.getD i 0) (b.getD i 0) ≠ 49 := by
          rw [h]; rcases hb i (by omega) with h' | h' <;> rw [h'] <;> decide
        rw [if_neg this] at hn
        omega
      · simp only [h, if_false]
        refine ih (i + 1) (n + 1) (by omega) ?_ (by omega)
        have : xr (a.getD i 0) (b.getD i 0) = 49 := by
          rcases ha i hil with h1 | h1 <;> rcases hb i (by omega) with h2 | h2 <;> rw [h1, h2] at h ⊢
          · exact absurd rfl h
          · decide
          · decide
          · exact absurd rfl h
        rw [if_pos this] at hn
        omega
theorem BitsXor : patchbaykeep1_BitsXor.Pure := by
  intro a0 a1 w0 w1
  obtain ⟨s, rfl⟩ := B_surj a0
  obtain ⟨t, rfl⟩ := B_surj a1
  rw [size_B] at w0 w1
  apply Ev.rounds
  unfold patchbaykeep1_BitsXor.f
  have h300 : ((300 : Nat) : Int) = 300 := rfl
  have hb := bitString_f s 300 (by omega)
  rw [h300] at hb
  simp only [hb, Option.bind_some]
  have hA := bits_map (s.take 300)
  have hlen : ((s.take 300).map bitB).length ≤ 300 := by simp; omega
  generalize (s.take 300).map bitB = a at hA hlen
  obtain ⟨z, hz, hr⟩ := repeat_f a.length (by omega)
  simp only [size_B, hr, Option.bind_some]
  have hc : t.length + z.length ≤ 9223372036854775807 := by omega
  simp only [hc, if_true, B_append]
  have hb2 := bitString_f (t ++ z) a.length (by simp; omega)
  simp only [hb2, Option.bind_some]
  have hB := bits_map ((t ++ z).take a.length)
  have hlb : (((t ++ z).take a.length).map bitB).length = a.length := by simp; omega
  generalize ((t ++ z).take a.length).map bitB = b at hB hlb
  refine Ev.bind works_f ?_
  simp only [if_true]
  refine Ev.bind (xor_f a b (by omega) hlb hA hB) ?_
  have hx := xor_f (xorL a b) b (by rw [xorL_len]; omega) (by rw [xorL_len]; exact hlb) (xorL_bits a b) hB
  rw [xorL_back a b hA hB hlb] at hx
  refine Ev.bind hx ?_
  exact law_l0 a b (by omega) hlb hA hB a.length 0 0 (by omega) (by simp) (by omega)
end Go.Proofs.Ytnpmficbhggeaaa.Pure
