/- Proved: for all strings s, t, u (each cut to 300 bytes) the joined checksum of s and t is the checksum of the concatenation, and joining is associative. No condition beyond the row's own. -/
import Derived.Test.YtbaogajiogaogaaM3
import Derived.Test.YtbaogajiogaogaaPlain
namespace Go.Proofs.Ytbaogajiogaogaa.Pure
open Go.RowKit Go.Proofs.Ytbaogajiogaogaa.M Go.Proofs.YtbaogajiogaogaaW.PrintWords Go.Proofs.YtbaogajiogaogaaW.PrintMore Go.Proofs.YtbaogajiogaogaaW.PrintLast

theorem crc_sum_f (l : List UInt8) (h : l.length ≤ 9223372036854775807) : crc_Sum.f (B l) = some ((Crc.sumL l).toNat : Int) := by
  unfold crc_Sum.f
  rw [if_pos (by rw [size_B]; exact h), B_data]
theorem crc_works_f : patchbaykeep1_crcWorks.f = some true := by
  unfold patchbaykeep1_crcWorks.f
  have h := crc_sum_f [49, 50, 51, 52, 53, 54, 55, 56, 57] (by decide)
  rw [Crc.works] at h
  have e : (⟨#[49, 50, 51, 52, 53, 54, 55, 56, 57]⟩ : ByteArray) = B [49, 50, 51, 52, 53, 54, 55, 56, 57] := rfl
  rw [e, h]
  rfl
theorem half_f (c : BitVec 32) : crc_half.f (c.toNat : Int) = some ((Crc.half c).toNat : Int) := crcq_half_f c
theorem shr_bit (a : BitVec 32) (m : Nat) (hm : m < 32) : (Go.bits .and .u32 (shr .u32 (a.toNat : Int) (m : Int)) 1 = 1) ↔ a.getLsbD m = true := by
  have h1 : shr .u32 (a.toNat : Int) (m : Int) = (((a >>> m).toNat : Nat) : Int) := by
    unfold shr
    rw [Int.toNat_natCast, Nat.min_eq_left (by simp [IntKind.bits]; omega), BitVec.toNat_ushiftRight, Nat.shiftRight_eq_div_pow]
    simp
  have h2 := and_u32 (a >>> m) 1#32
  rw [h1]
  have h3 : (((1#32 : BitVec 32).toNat : Nat) : Int) = 1 := rfl
  rw [h3] at h2
  rw [h2]
  have h4 : ((a >>> m) &&& 1#32).toNat = if a.getLsbD m then 1 else 0 := by
    rw [BitVec.toNat_and, show (1#32 : BitVec 32).toNat = 1 from rfl, Nat.and_one_is_mod, BitVec.toNat_ushiftRight]
    have e : a.getLsbD m = decide ((a.toNat >>> m) % 2 = 1) := by
      rw [BitVec.getLsbD, Nat.testBit_eq_decide_div_mod_eq, Nat.shiftRight_eq_div_pow]
    rw [e]
    by_cases h : (a.toNat >>> m) % 2 = 1
    · rw [if_pos (decide_eq_true h)]; exact h
    · rw [if_neg (by rw [decide_eq_false h]; simp)]; omega
  rw [h4]
  cases a.getLsbD m <;> simp
theorem times_l0 (a : BitVec 32) : ∀ (m k : Nat) (b out : BitVec 32), m ≤ 32 → m < k → crc_times.l0 k (a.toNat : Int) (b.toNat : Int) (out.toNat : Int) ((m : Int) - 1) = some ((Crc.mulFrom a m b out).toNat : Int) := by
  intro m
  induction m with
  | zero =>
    intro k b out _ hk
    obtain ⟨k, rfl⟩ : ∃ j, k = j + 1 := ⟨k - 1, by omega⟩
    simp only [crc_times.l0]
    rw [if_neg (by omega)]
    rfl
  | succ m ih =>
    intro k b out hm hk
    obtain ⟨k, rfl⟩ : ∃ j, k = j + 1 := ⟨k - 1, by omega⟩
    have e : ((m + 1 : Nat) : Int) - 1 = (m : Int) := by omega
    rw [e]
    simp only [crc_times.l0]
    rw [if_pos (by omega), if_pos (by omega), half_f, wrap64_id (by omega) (by omega)]
    simp only [Option.bind_some]
    simp only [Crc.mulFrom]
    by_cases hb : a.getLsbD m
    · rw [if_pos ((shr_bit a m (by omega)).2 hb), if_pos hb, xor_u32]
      exact ih k _ _ (by omega) (by omega)
    · rw [if_neg (fun h => hb ((shr_bit a m (by omega)).1 h)), if_neg hb]
      exact ih k _ _ (by omega) (by omega)
theorem times_f (k n : Nat) (a : BitVec 32) (hk : 33 ≤ k) : crc_times.f k (a.toNat : Int) ((Crc.halfs n (Crc.bit 31)).toNat : Int) = some ((Crc.halfs n a).toNat : Int) := by
  unfold crc_times.f
  have h := times_l0 a 32 k (Crc.halfs n (Crc.bit 31)) 0#32 (by omega) (by omega)
  rw [Crc.mulFrom_power] at h
  exact h
theorem join_l0 (b : BitVec 32) : ∀ (n : Nat) (k m : Nat) (a : BitVec 32), n ≤ 1000000 → n + 33 < k → crc_Join.l0 k (a.toNat : Int) (b.toNat : Int) (n : Int) ((Crc.halfs m (Crc.bit 31)).toNat : Int) = some ((Crc.halfs (m * n) a ^^^ b).toNat : Int) := by
  intro n
  induction n using Nat.strongRecOn with
  | _ n ih =>
    intro k m a hn hk
    obtain ⟨k, rfl⟩ : ∃ j, k = j + 1 := ⟨k - 1, by omega⟩
    simp only [crc_Join.l0]
    rcases Nat.eq_zero_or_pos n with h0 | h0
    · subst h0
      rw [if_neg (by omega), xor_u32]
      rfl
    · have hdiv : (n : Int).tdiv 2 = ((n / 2 : Nat) : Int) := by rw [Int.tdiv_eq_ediv_of_nonneg (by omega)]; omega
      have hmod : (n : Int).tmod 2 = ((n % 2 : Nat) : Int) := by rw [Int.tmod_eq_emod_of_nonneg (by omega)]; omega
      have hw : wrap64 ((n / 2 : Nat) : Int) = ((n / 2 : Nat) : Int) := wrap64_id (by omega) (by omega)
      have h2 : Crc.halfs m (Crc.halfs m (Crc.bit 31)) = Crc.halfs (m + m) (Crc.bit 31) := (Crc.halfs_add m m _).symm
      rw [if_pos (by omega), hdiv, hmod, hw, times_f k m (Crc.halfs m (Crc.bit 31)) (by omega), h2]
      by_cases ho : n % 2 = 1
      · rw [if_pos (by omega), times_f k m a (by omega)]
        simp only [Option.bind_some]
        rw [ih (n / 2) (by omega) k (m + m) (Crc.halfs m a) (by omega) (by omega), ← Crc.halfs_add]
        congr 5
        have : n = 2 * (n / 2) + 1 := by omega
        conv => rhs; rw [this]
        rw [Nat.mul_add, Nat.mul_one, ← Nat.mul_assoc, Nat.mul_comm m 2, ← Nat.two_mul]
      · rw [if_neg (by omega)]
        simp only [Option.bind_some]
        rw [ih (n / 2) (by omega) k (m + m) a (by omega) (by omega)]
        congr 5
        have : n = 2 * (n / 2) := by omega
        conv => rhs; rw [this]
        rw [← Nat.mul_assoc, Nat.mul_comm m 2, ← Nat.two_mul]
theorem join_f (k n : Nat) (a b : BitVec 32) (hn : n ≤ 1000000) (hk : n + 33 < k) : crc_Join.f k (a.toNat : Int) (b.toNat : Int) (n : Int) = some ((Crc.halfs (8 * n) a ^^^ b).toNat : Int) := by
  unfold crc_Join.f
  have h := join_l0 b n k 8 a hn hk
  rw [← Crc.power_first] at h
  exact h
theorem cut_f (l : List UInt8) : patchbaykeep1_cut.f (B l) 300 = some (B (l.take 300)) := by
  unfold patchbaykeep1_cut.f
  have hm : mn ((B l).size : Int) 300 = ((min l.length 300 : Nat) : Int) := by rw [size_B]; exact mn_nat _ 300
  rw [hm, size_B, if_pos (by omega), if_pos (by omega), Int.toNat_natCast, B_take]
  rw [take_min]
theorem CrcJoins : patchbaykeep1_CrcJoins.Pure := by
  intro a0 a1 a2 w0 w1 w2
  obtain ⟨s, rfl⟩ := B_surj a0
  obtain ⟨t, rfl⟩ := B_surj a1
  obtain ⟨u, rfl⟩ := B_surj a2
  obtain ⟨k, hk⟩ : ∃ k : Nat, 1000 ≤ k := ⟨1000, Nat.le_refl _⟩
  refine ⟨k, ?_⟩
  unfold patchbaykeep1_CrcJoins.f
  rw [cut_f, cut_f, cut_f]
  have hs : (s.take 300).length ≤ 300 := by simp; omega
  have ht : (t.take 300).length ≤ 300 := by simp; omega
  have hu : (u.take 300).length ≤ 300 := by simp; omega
  generalize s.take 300 = s at *
  generalize t.take 300 = t at *
  generalize u.take 300 = u at *
  simp only [Option.bind_some, size_B]
  rw [crc_sum_f s (by omega), crc_sum_f t (by omega), crc_sum_f u (by omega), crc_works_f]
  simp only [Option.bind_some, if_true]
  rw [join_f k t.length (Crc.sumL s) (Crc.sumL t) (by omega) (by omega)]
  simp only [Option.bind_some]
  rw [if_pos (by omega), B_append, crc_sum_f (s ++ t) (by simp; omega)]
  simp only [Option.bind_some]
  rw [if_pos (by rw [Crc.sumL_append]), join_f k u.length _ (Crc.sumL u) (by omega) (by omega)]
  simp only [Option.bind_some]
  rw [join_f k u.length (Crc.sumL t) (Crc.sumL u) (by omega) (by omega)]
  simp only [Option.bind_some]
  have e : wrap64 ((t.length : Int) + (u.length : Int)) = ((t.length + u.length : Nat) : Int) := by rw [wrap64_id (by omega) (by omega)]; omega
  rw [e, join_f k (t.length + u.length) (Crc.sumL s) _ (by omega) (by omega)]
  simp only [Option.bind_some, Option.some.injEq, beq_iff_eq]
  congr 2
  rw [Crc.halfs_xor, ← Crc.halfs_add, BitVec.xor_assoc]
  congr 2
  omega
end Go.Proofs.Ytbaogajiogaogaa.Pure
