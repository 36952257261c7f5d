/- Proved: for all strings s, t, u the exclusive or of the checksums of their first n bytes (n the least length, at most 300) is the checksum of their exclusive or. No condition beyond the row's own. -/
import Derived.Test.YtbaogajiogaogaaM2
import Derived.Test.YtbaogajiogaogaaPlain
namespace Go.Proofs.Ytbaogajiogaogaa.Pure
open Go.RowKit Go.Proofs.Ytbaogajiogaogaa.M Go.Proofs.YtbaogajiogaogaaW.PrintWords Go.Proofs.YtbaogajiogaogaaW.PrintMore Go.Proofs.YtbaogajiogaogaaW.PrintLast

/-- The row after i rounds. -/
def affRow (s t u : List UInt8) (N i : Nat) : List Int := (List.range N).map fun j => if j < i then ((s.getD j 0 ^^^ t.getD j 0 ^^^ u.getD j 0).toNat : Int) else 0
theorem affRow_len (s t u : List UInt8) (N i : Nat) : (affRow s t u N i).length = N := by simp [affRow]
theorem affRow_zero (s t u : List UInt8) (N : Nat) : affRow s t u N 0 = List.replicate N 0 := by
  apply List.ext_getElem
  · simp [affRow]
  · intro j h1 h2; simp [affRow]
theorem affRow_set (s t u : List UInt8) (N i : Nat) (_hi : i < N) : (affRow s t u N i).set i ((s.getD i 0 ^^^ t.getD i 0 ^^^ u.getD i 0).toNat : Int) = affRow s t u N (i + 1) := by
  apply List.ext_getElem
  · simp [affRow]
  · intro j h1 h2
    rw [List.getElem_set]
    by_cases h : i = j
    · subst h; simp [affRow]
    · rw [if_neg h]
      simp only [affRow, List.getElem_map, List.getElem_range]
      by_cases h3 : j < i
      · rw [if_pos h3, if_pos (by omega)]
      · rw [if_neg h3, if_neg (by omega)]
theorem affRow_full (s t u : List UInt8) (N : Nat) : affRow s t u N N = ((List.range N).map fun j => s.getD j 0 ^^^ t.getD j 0 ^^^ u.getD j 0).map fun b => (b.toNat : Int) := by
  unfold affRow
  rw [List.map_map]
  apply List.map_congr_left
  intro j hj
  rw [if_pos (List.mem_range.1 hj)]
  rfl
theorem bt_getD (l : List UInt8) (i : Nat) (h : i < l.length) : bt (B l) (i : Int) = ((l.getD i 0).toNat : Int) := by
  rw [bt_B l i (by simpa using h)]
  simp [List.getD_eq_getElem?_getD, h]
theorem crc_sum_f (l : List UInt8) (h : l.length ≤ 9223372036854775807) : crc_Sum.f (B l) = some ((Crc.sumL l).toNat : Int) := by
  unfold crc_Sum.f
  rw [if_pos (by rw [size_B]; exact h), B_data]
theorem crc_works_f : patchbaykeep1_crcWorks.f = some true := by
  unfold patchbaykeep1_crcWorks.f
  have h := crc_sum_f [49, 50, 51, 52, 53, 54, 55, 56, 57] (by decide)
  rw [Crc.works] at h
  have e : (⟨#[49, 50, 51, 52, 53, 54, 55, 56, 57]⟩ : ByteArray) = B [49, 50, 51, 52, 53, 54, 55, 56, 57] := rfl
  rw [e, h]
  rfl
theorem aff_last (s t u : List UInt8) (N : Nat) (hs : N ≤ s.length) (ht : N ≤ t.length) (hu : N ≤ u.length) :
    Crc.sumL (s.take N) ^^^ Crc.sumL (t.take N) ^^^ Crc.sumL (u.take N) = Crc.sumL ((List.range N).map fun j => s.getD j 0 ^^^ t.getD j 0 ^^^ u.getD j 0) := by
  apply Crc.sumL_three
  · simp; omega
  · simp; omega
  · simp; omega
  · intro i b hb
    have hi : i < N := by
      have := (List.getElem?_eq_some_iff.1 hb).1
      simpa using this
    rw [List.getElem?_map, List.getElem?_range hi] at hb
    simp only [Option.map_some, Option.some.injEq] at hb
    rw [← hb]
    simp only [List.getD_eq_getElem?_getD, List.getElem?_take, hi, if_true]
theorem aff_loop (s t u : List UInt8) (N : Nat) (hs : N ≤ s.length) (ht : N ≤ t.length) (hu : N ≤ u.length) (h3 : N ≤ 300) (d : Nat) :
    ∀ (k i : Nat), i ≤ N → N - i = d → d < k → patchbaykeep1_CrcAffine.l0 k (B s) (B t) (B u) (N : Int) (affRow s t u N i) (N : Int) (i : Int) = some true := by
  induction d with
  | zero =>
    intro k i hi hd hk
    obtain ⟨k, rfl⟩ : ∃ m, k = m + 1 := ⟨k - 1, by omega⟩
    obtain rfl : i = N := by omega
    simp only [patchbaykeep1_CrcAffine.l0]
    rw [if_neg (by omega), crc_works_f]
    simp only [Option.bind_some, if_true, size_B, Int.toNat_natCast, B_take]
    rw [if_pos (by omega), if_pos (by omega), crc_sum_f _ (by simp; omega)]
    simp only [Option.bind_some]
    rw [if_pos (by omega), crc_sum_f _ (by simp; omega)]
    simp only [Option.bind_some]
    rw [if_pos (by omega), crc_sum_f _ (by simp; omega)]
    simp only [Option.bind_some]
    rw [affRow_full, strOf_B, crc_sum_f _ (by simp; omega)]
    simp only [Option.bind_some]
    rw [xor_u32, xor_u32, aff_last s t u i hs ht hu]
    simp
  | succ d ih =>
    intro k i hi hd hk
    obtain ⟨k, rfl⟩ : ∃ m, k = m + 1 := ⟨k - 1, by omega⟩
    simp only [patchbaykeep1_CrcAffine.l0, size_B, affRow_len]
    rw [if_pos (by omega), if_pos (by omega), if_pos (by omega), if_pos (by omega), if_pos (by omega), if_pos (by omega)]
    rw [bt_getD s i (by omega), bt_getD t i (by omega), bt_getD u i (by omega), xor_u8, xor_u8, Int.toNat_natCast, affRow_set s t u N i (by omega), wrap64_id (by omega) (by omega)]
    exact ih k (i + 1) (by omega) (by omega) (by omega)
theorem CrcAffine : patchbaykeep1_CrcAffine.Pure := by
  intro a0 a1 a2 w0 w1 w2
  obtain ⟨s, rfl⟩ := B_surj a0
  obtain ⟨t, rfl⟩ := B_surj a1
  obtain ⟨u, rfl⟩ := B_surj a2
  rw [size_B] at w0 w1 w2
  have hn : mn (mn (mn ((B s).size : Int) ((B t).size : Int)) ((B u).size : Int)) 300 = ((min (min (min s.length t.length) u.length) 300 : Nat) : Int) := by
    rw [size_B, size_B, size_B, mn_nat, mn_nat]
    exact mn_nat _ 300
  obtain ⟨N, hN⟩ : ∃ N, min (min (min s.length t.length) u.length) 300 = N := ⟨_, rfl⟩
  rw [hN] at hn
  refine ⟨N + 1, ?_⟩
  unfold patchbaykeep1_CrcAffine.f
  rw [hn, if_pos (by omega), if_pos (by omega)]
  simp only [Option.bind_some, Int.toNat_natCast, List.length_replicate]
  rw [← affRow_zero s t u N]
  exact aff_loop s t u N (by omega) (by omega) (by omega) (by omega) N (N + 1) 0 (by omega) (by omega) (by omega)
end Go.Proofs.Ytbaogajiogaogaa.Pure
