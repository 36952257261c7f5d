/- Proved: for every string s: the stuffed bits of s (at most 500) never contain six ones in a row, and are at most a fifth longer. No condition beyond the row's own. -/
import Derived.Test.YtjooddmlkikldaaM2
import Derived.Test.YtjooddmlkikldaaPureStuffCommon
namespace Go.Proofs.Ytjooddmlkikldaa.Pure
open Go.RowKit Go.Proofs.Ytjooddmlkikldaa.M Go.Proofs.YtjooddmlkikldaaW.PrintWords Go.Proofs.YtjooddmlkikldaaW.PrintMore Go.Proofs.YtjooddmlkikldaaW.PrintLast
/-- With n ones before it: no six ones in a row. -/
def noSix : Nat → List UInt8 → Prop
  | _, [] => True
  | n, b :: l => if b = 49 then n + 1 ≤ 5 ∧ noSix (n + 1) l else noSix 0 l
theorem stuff_noSix : ∀ (l : List UInt8) (n : Nat), Bits l → n ≤ 4 → noSix n (stuffL n l) := by
  intro l
  induction l with
  | nil => intro n _ _; exact trivial
  | cons b l ih =>
    intro n h hn
    have hl : Bits l := fun c hc => h c (List.mem_cons_of_mem _ hc)
    rcases h b (List.mem_cons_self ..) with rfl | rfl
    · have e : stuffL n (48 :: l) = 48 :: stuffL 0 l := by rw [stuffL, if_pos rfl]
      rw [e, noSix, if_neg (by decide)]
      exact ih 0 hl (by omega)
    · by_cases h5 : n + 1 = 5
      · have e : stuffL n (49 :: l) = 49 :: 48 :: stuffL 0 l := by rw [stuffL, if_neg (by decide), if_pos h5]
        rw [e, noSix, if_pos rfl, noSix, if_neg (by decide)]
        exact ⟨by omega, ih 0 hl (by omega)⟩
      · have e : stuffL n (49 :: l) = 49 :: stuffL (n + 1) l := by rw [stuffL, if_neg (by decide), if_neg h5]
        rw [e, noSix, if_pos rfl]
        exact ⟨by omega, ih (n + 1) hl (by omega)⟩
theorem noSix_drop : ∀ (x : List UInt8) (n j : Nat), noSix n x → ∃ m, noSix m (x.drop j) := by
  intro x
  induction x with
  | nil => intro n j _; exact ⟨0, by simp [noSix]⟩
  | cons b x ih =>
    intro n j h
    rcases j with _ | j
    · exact ⟨n, h⟩
    · simp only [noSix] at h
      rw [List.drop_succ_cons]
      split at h
      · exact ih _ j h.2
      · exact ih _ j h
theorem no_six (x : List UInt8) (h : noSix 0 x) : Lib.contains x [49, 49, 49, 49, 49, 49] = false := by
  unfold Lib.contains
  rw [decide_eq_false_iff_not]
  intro hc
  rcases Lib.index_spec x [49, 49, 49, 49, 49, 49] with ⟨h1, _⟩ | ⟨i, _, _, ho, _⟩
  · omega
  · unfold Lib.occAt at ho
    rw [List.isPrefixOf_iff_prefix] at ho
    obtain ⟨r, hr⟩ := ho
    obtain ⟨m, hm⟩ := noSix_drop x 0 i h
    rw [← hr] at hm
    simp only [List.cons_append, List.nil_append, noSix, if_true] at hm
    omega
theorem StuffNoFlag : patchbaykeep1_StuffNoFlag.Pure := by
  intro a0 w0
  obtain ⟨s, rfl⟩ := B_surj a0
  rw [size_B] at w0
  apply Ev.rounds
  unfold patchbaykeep1_StuffNoFlag.f
  have h1 := bitString_f s 500 (by omega)
  rw [show ((500 : Nat) : Int) = 500 from rfl] at h1
  simp only [h1, Option.bind_some]
  have hA := bits_map (s.take 500)
  have la : ((s.take 500).map bitB).length ≤ 500 := by simp; omega
  generalize (s.take 500).map bitB = a at hA la
  have hlen := stuffL_len a 0 (by omega)
  refine Ev.bind (stuff_f a (by omega) hA) ?_
  refine Ev.bind works_f ⟨0, fun k _ => ?_⟩
  have hc : strings_Contains.f (B (stuffL 0 a)) (⟨#[49, 49, 49, 49, 49, 49]⟩ : ByteArray) = some false := by
    unfold strings_Contains.f
    rw [if_pos (by rw [size_B]; omega), B_data]
    exact congrArg some (no_six _ (stuff_noSix a 0 hA (by omega)))
  simp only [if_true, hc, Option.bind_some, size_B]
  rw [wrap64_id (x := (a.length : Int) / 5) (by omega) (by omega), wrap64_id (by omega) (by omega)]
  simp
  omega
end Go.Proofs.Ytjooddmlkikldaa.Pure
