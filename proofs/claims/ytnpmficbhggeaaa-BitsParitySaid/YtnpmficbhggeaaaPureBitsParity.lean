/- Proved: for all strings s, t: the weights of the bits of s (at most 300), of as many bits of t, and of their Xor add up to an even number. No condition beyond the row's own. -/
import Derived.Test.YtnpmficbhggeaaaPureBitsXorC
namespace Go.Proofs.Ytnpmficbhggeaaa.Pure
open Go.RowKit Go.Proofs.Ytnpmficbhggeaaa.M Go.Proofs.YtnpmficbhggeaaaW.PrintWords Go.Proofs.YtnpmficbhggeaaaW.PrintMore Go.Proofs.YtnpmficbhggeaaaW.PrintLast

theorem parity (a b : List UInt8) (he : b.length = a.length) (ha : Bits a) (hb : Bits b) : ∀ (d i : Nat), i + d = a.length → (ones (a.drop i) + ones (b.drop i) + ones ((xorL a b).drop i)) % 2 = 0 := by
  intro d
  induction d with
  | zero =>
    intro i hi
    rw [List.drop_of_length_le (by omega), List.drop_of_length_le (by omega), List.drop_of_length_le (by rw [xorL_len]; omega)]
    rfl
  | succ d ih =>
    intro i hi
    have h := ih (i + 1) (by omega)
    rw [drop_cons a i (by omega), drop_cons b i (by omega), drop_cons (xorL a b) i (by rw [xorL_len]; omega), ones_cons, ones_cons, ones_cons, xorL_get a b i (by omega)]
    rcases ha i (by omega) with h1 | h1 <;> rcases hb i (by omega) with h2 | h2 <;> rw [h1, h2]
    · rw [show xr 48 48 = 48 by decide]; simp; omega
    · rw [show xr 48 49 = 49 by decide]; simp; omega
    · rw [show xr 49 48 = 49 by decide]; simp; omega
    · rw [show xr 49 49 = 48 by decide]; simp; omega
theorem BitsParity : patchbaykeep1_BitsParity.Pure := by
  intro a0 a1 w0 w1
  obtain ⟨s, rfl⟩ := B_surj a0
  obtain ⟨t, rfl⟩ := B_surj a1
  rw [size_B] at w0 w1
  apply Ev.rounds
  unfold patchbaykeep1_BitsParity.f
  have h300 : ((300 : Nat) : Int) = 300 := rfl
  have hb := bitString_f s 300 (by omega)
  rw [h300] at hb
  simp only [hb, Option.bind_some]
  have hA := bits_map (s.take 300)
  have hlen : ((s.take 300).map bitB).length ≤ 300 := by simp; omega
  generalize (s.take 300).map bitB = a at hA hlen
  obtain ⟨z, hz, hr⟩ := repeat_f a.length (by omega)
  simp only [size_B, hr, Option.bind_some]
  have hc : t.length + z.length ≤ 9223372036854775807 := by omega
  simp only [hc, if_true, B_append]
  have hb2 := bitString_f (t ++ z) a.length (by simp; omega)
  simp only [hb2, Option.bind_some]
  have hB := bits_map ((t ++ z).take a.length)
  have hlb : (((t ++ z).take a.length).map bitB).length = a.length := by simp; omega
  generalize ((t ++ z).take a.length).map bitB = b at hB hlb
  refine Ev.bind works_f ?_
  simp only [if_true]
  refine Ev.bind (xor_f a b (by omega) hlb hA hB) ?_
  simp only [if_true]
  refine Ev.bind (weight_f a (by omega)) ?_
  refine Ev.bind (weight_f b (by omega)) ?_
  refine Ev.bind (weight_f (xorL a b) (by rw [xorL_len]; omega)) ?_
  have hp := parity a b hlb hA hB a.length 0 (by omega)
  simp only [List.drop_zero] at hp
  have h1 : ones a ≤ a.length := List.count_le_length
  have h2 : ones b ≤ b.length := List.count_le_length
  have h3 : ones (xorL a b) ≤ (xorL a b).length := List.count_le_length
  rw [xorL_len] at h3
  have e1 : wrap64 ((ones a : Int) + (ones b : Int)) = ((ones a + ones b : Nat) : Int) := by rw [wrap64_id (by omega) (by omega)]; omega
  have e2 : wrap64 (((ones a + ones b : Nat) : Int) + (ones (xorL a b) : Int)) = ((ones a + ones b + ones (xorL a b) : Nat) : Int) := by rw [wrap64_id (by omega) (by omega)]; omega
  have e3 : (((ones a + ones b + ones (xorL a b) : Nat) : Int)).tmod 2 = 0 := by rw [Int.tmod_eq_emod_of_nonneg (by omega)]; omega
  simp only [e1, e2, e3, if_true, size_B, xorL_len]
  exact ⟨0, fun k _ => by simp⟩
end Go.Proofs.Ytnpmficbhggeaaa.Pure
