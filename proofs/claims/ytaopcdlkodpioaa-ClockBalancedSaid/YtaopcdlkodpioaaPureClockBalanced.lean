/- Proved: for every string s: the symbols of the bits of s (at most 500) contain equally many zeros and ones, and never three equal ones in a row. No condition beyond the row's own. -/
import Derived.Test.YtaopcdlkodpioaaM1
import Derived.Test.YtaopcdlkodpioaaPureClockCommon
namespace Go.Proofs.Ytaopcdlkodpioaa.Pure
open Go.RowKit Go.Proofs.Ytaopcdlkodpioaa.M Go.Proofs.YtaopcdlkodpioaaW.PrintWords Go.Proofs.YtaopcdlkodpioaaW.PrintMore Go.Proofs.YtaopcdlkodpioaaW.PrintLast
theorem enc_counts (l : List UInt8) (h : Bits l) : (encL l).count 48 = (encL l).count 49 := by
  induction l with
  | nil => rfl
  | cons b l ih =>
    have h1 := ih (fun c hc => h c (List.mem_cons_of_mem _ hc))
    have e : encL (b :: l) = (b ^^^ 1) :: b :: encL l := rfl
    rw [e]
    rcases h b (List.mem_cons_self ..) with rfl | rfl
    · rw [show (48 ^^^ 1 : UInt8) = 49 by decide]; simp [h1]
    · rw [show (49 ^^^ 1 : UInt8) = 48 by decide]; simp [h1]
theorem enc_pair : ∀ (l : List UInt8) (m : Nat), m < l.length → (encL l)[2 * m]? = some (l.getD m 0 ^^^ 1) ∧ (encL l)[2 * m + 1]? = some (l.getD m 0) := by
  intro l
  induction l with
  | nil => intro m hm; simp at hm
  | cons b l ih =>
    intro m hm
    have e : encL (b :: l) = (b ^^^ 1) :: b :: encL l := rfl
    rw [e]
    rcases m with _ | m
    · exact ⟨rfl, rfl⟩
    · have h := ih m (by simpa using hm)
      rw [show 2 * (m + 1) = 2 * m + 1 + 1 by omega, show 2 * m + 1 + 1 + 1 = (2 * m + 1) + 1 + 1 by omega]
      simp only [List.getElem?_cons_succ, List.getD_cons_succ]
      exact h
theorem no_three (l : List UInt8) (c : UInt8) : Lib.contains (encL l) [c, c, c] = false := by
  unfold Lib.contains
  rw [decide_eq_false_iff_not]
  intro h
  rcases Lib.index_spec (encL l) [c, c, c] with ⟨h1, _⟩ | ⟨i, _, _, ho, _⟩
  · omega
  · unfold Lib.occAt at ho
    rw [List.isPrefixOf_iff_prefix] at ho
    obtain ⟨r, hr⟩ := ho
    have g : ∀ j, j < 3 → (encL l)[i + j]? = some c := by
      intro j hj
      have : ((encL l).drop i)[j]? = some c := by
        rw [← hr]
        rcases (show j = 0 ∨ j = 1 ∨ j = 2 by omega) with rfl | rfl | rfl <;> rfl
      rwa [List.getElem?_drop] at this
    have hlt : i + 2 < (encL l).length := (List.getElem?_eq_some_iff.1 (g 2 (by omega))).1
    rw [encL_len] at hlt
    have key : ∀ m, i ≤ 2 * m → 2 * m + 1 ≤ i + 2 → False := by
      intro m hm1 hm2
      obtain ⟨p1, p2⟩ := enc_pair l m (by omega)
      have g1 := g (2 * m - i) (by omega)
      have g2 := g (2 * m + 1 - i) (by omega)
      rw [show i + (2 * m - i) = 2 * m by omega, p1, Option.some.injEq] at g1
      rw [show i + (2 * m + 1 - i) = 2 * m + 1 by omega, p2, Option.some.injEq] at g2
      exact flip_ne (l.getD m 0) (g1.trans g2.symm)
    rcases Nat.mod_two_eq_zero_or_one i with h | h
    · exact key (i / 2) (by omega) (by omega)
    · exact key (i / 2 + 1) (by omega) (by omega)
theorem contains_f (l : List UInt8) (c : UInt8) (hl : l.length ≤ 1000) : strings_Contains.f (B (encL l)) (⟨#[c, c, c]⟩ : ByteArray) = some false := by
  unfold strings_Contains.f
  rw [if_pos (by rw [size_B, encL_len]; omega), B_data]
  exact congrArg some (no_three l c)
theorem ClockBalanced : patchbaykeep1_ClockBalanced.Pure := by
  intro a0 w0
  obtain ⟨s, rfl⟩ := B_surj a0
  rw [size_B] at w0
  apply Ev.rounds
  unfold patchbaykeep1_ClockBalanced.f
  have h1 := bitString_f s 500 (by omega)
  rw [show ((500 : Nat) : Int) = 500 from rfl] at h1
  simp only [h1, Option.bind_some]
  have hA := bits_map (s.take 500)
  have la : ((s.take 500).map bitB).length ≤ 500 := by simp; omega
  generalize (s.take 500).map bitB = a at hA la
  refine Ev.bind (enc_f a (by omega) hA) ?_
  refine Ev.bind works_f ⟨0, fun k _ => ?_⟩
  simp only [if_true, count_f, Option.bind_some, enc_counts a hA, contains_f a 48 (by omega), contains_f a 49 (by omega)]
  rfl
end Go.Proofs.Ytaopcdlkodpioaa.Pure
