/- Proved: for all strings s, t: the symbols of the bits of s and of t (at most 300 each) in a row are those of each of them, two a bit. No condition beyond the row's own. -/
import Derived.Test.YtaopcdlkodpioaaM1
import Derived.Test.YtaopcdlkodpioaaPureClockCommon
namespace Go.Proofs.Ytaopcdlkodpioaa.Pure
open Go.RowKit Go.Proofs.Ytaopcdlkodpioaa.M Go.Proofs.YtaopcdlkodpioaaW.PrintWords Go.Proofs.YtaopcdlkodpioaaW.PrintMore Go.Proofs.YtaopcdlkodpioaaW.PrintLast
theorem ClockJoins : patchbaykeep1_ClockJoins.Pure := by
  intro a0 a1 w0 w1
  obtain ⟨s, rfl⟩ := B_surj a0
  obtain ⟨t, rfl⟩ := B_surj a1
  rw [size_B] at w0 w1
  apply Ev.rounds
  unfold patchbaykeep1_ClockJoins.f
  have h1 := bitString_f s 300 (by omega)
  have h2 := bitString_f t 300 (by omega)
  rw [show ((300 : Nat) : Int) = 300 from rfl] at h1 h2
  simp only [h1, h2, Option.bind_some]
  have hA := bits_map (s.take 300)
  have hB := bits_map (t.take 300)
  have la : ((s.take 300).map bitB).length ≤ 300 := by simp; omega
  have lb : ((t.take 300).map bitB).length ≤ 300 := by simp; omega
  generalize (s.take 300).map bitB = a at hA la
  generalize (t.take 300).map bitB = b at hB lb
  refine Ev.bind works_f ?_
  simp only [if_true]
  refine Ev.bind (enc_f a (by omega) hA) ?_
  refine Ev.bind (enc_f b (by omega) hB) ?_
  have hc : (B a).size + (B b).size ≤ 9223372036854775807 := by rw [size_B, size_B]; omega
  simp only [hc, if_true, B_append]
  have hAB : Bits (a ++ b) := fun c hc => by
    rcases List.mem_append.1 hc with h | h
    · exact hA c h
    · exact hB c h
  refine Ev.bind (enc_f (a ++ b) (by simp; omega) hAB) ⟨0, fun k _ => ?_⟩
  have hc2 : 2 * a.length + 2 * b.length ≤ 9223372036854775807 := by omega
  simp only [if_true, hc2, B_toList, encL_append, size_B, List.length_append, encL_len]
  rw [wrap64_id (x := (a.length : Int) + (b.length : Int)) (by omega) (by omega), wrap64_id (by omega) (by omega), Option.some.injEq, beq_iff_eq]
  omega
end Go.Proofs.Ytaopcdlkodpioaa.Pure
