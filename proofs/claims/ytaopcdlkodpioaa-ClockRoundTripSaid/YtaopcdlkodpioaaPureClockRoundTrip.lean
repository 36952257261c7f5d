/- Proved: for all strings s, t: Decode inverts Encode on the bits of s, and the bits of t (at most 500 each) are refused, with an empty answer, or are the symbols of what they decode to. No condition beyond the row's own. -/
import Derived.Test.YtaopcdlkodpioaaM2
import Derived.Test.YtaopcdlkodpioaaPureClockCommon
namespace Go.Proofs.Ytaopcdlkodpioaa.Pure
open Go.RowKit Go.Proofs.Ytaopcdlkodpioaa.M Go.Proofs.YtaopcdlkodpioaaW.PrintWords Go.Proofs.YtaopcdlkodpioaaW.PrintMore Go.Proofs.YtaopcdlkodpioaaW.PrintLast
theorem tail_j0 (c : List UInt8) (hC : Bits c) (lc : c.length ≤ 500) : Ev (fun k => patchbaykeep1_ClockRoundTrip.j0 k (B c) false) true := by
  by_cases he : c.length % 2 = 0
  · have hd := dec_f c (by omega) hC he
    cases hq : decL c with
    | none =>
      rw [hq] at hd
      refine Ev.step (f := fun k => (clock_Decode.f k (B c)).bind fun bt146 => (if bt146.2 = 0 then ((clock_Encode.f k bt146.1).bind fun bt148 => (if bt148.2 = 0 then (some (bt148.1.toList == (B c).toList)) else (some false))) else (some (bt146.1.toList == ([] : List UInt8))))) (fun k => ?_) (Ev.bind hd ⟨0, fun k _ => ?_⟩)
      · simp only [patchbaykeep1_ClockRoundTrip.j0]
        rw [if_neg (by simp)]
      · simp only [show ¬ ((11 : Int) = 0) by decide, if_false, B_toList]
        rfl
    | some t =>
      rw [hq] at hd
      obtain ⟨h1, h2, h3⟩ := enc_dec (c.length / 2) c t (by omega) hC hq
      refine Ev.step (f := fun k => (clock_Decode.f k (B c)).bind fun bt146 => (if bt146.2 = 0 then ((clock_Encode.f k bt146.1).bind fun bt148 => (if bt148.2 = 0 then (some (bt148.1.toList == (B c).toList)) else (some false))) else (some (bt146.1.toList == ([] : List UInt8))))) (fun k => ?_) (Ev.bind hd ?_)
      · simp only [patchbaykeep1_ClockRoundTrip.j0]
        rw [if_neg (by simp)]
      · simp only [if_true]
        refine Ev.bind (enc_f t (by omega) h2) ⟨0, fun k _ => ?_⟩
        simp only [if_true, h1, beq_self_eq_true]
  · have hd := dec_odd c (by omega) hC he
    refine ⟨1, fun k hk => ?_⟩
    obtain ⟨k, rfl⟩ : ∃ m, k = m + 1 := ⟨k - 1, by omega⟩
    simp only [patchbaykeep1_ClockRoundTrip.j0]
    rw [if_neg (by simp), hd k]
    simp only [Option.bind_some, show ¬ ((9 : Int) = 0) by decide, if_false, B_toList]
    rfl
theorem ClockRoundTrip : patchbaykeep1_ClockRoundTrip.Pure := by
  intro a0 a1 w0 w1
  obtain ⟨s, rfl⟩ := B_surj a0
  obtain ⟨t, rfl⟩ := B_surj a1
  rw [size_B] at w0 w1
  apply Ev.rounds
  unfold patchbaykeep1_ClockRoundTrip.f
  have h1 := bitString_f s 500 (by omega)
  have h2 := bitString_f t 500 (by omega)
  rw [show ((500 : Nat) : Int) = 500 from rfl] at h1 h2
  simp only [h1, h2, Option.bind_some]
  have hA := bits_map (s.take 500)
  have hC := bits_map (t.take 500)
  have la : ((s.take 500).map bitB).length ≤ 500 := by simp; omega
  have lc : ((t.take 500).map bitB).length ≤ 500 := by simp; omega
  generalize (s.take 500).map bitB = a at hA la
  generalize (t.take 500).map bitB = c at hC lc
  refine Ev.bind works_f ?_
  simp only [if_true]
  refine Ev.bind (enc_f a (by omega) hA) ?_
  have hd := dec_f (encL a) (by rw [encL_len]; omega) (encL_bits a hA) (by rw [encL_len]; omega)
  rw [dec_enc] at hd
  refine Ev.bind hd ?_
  simp only [if_true, bne_self_eq_false]
  exact tail_j0 c hC lc
end Go.Proofs.Ytaopcdlkodpioaa.Pure
