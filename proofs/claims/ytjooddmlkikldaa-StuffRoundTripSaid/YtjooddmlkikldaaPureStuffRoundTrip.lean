/- Proved: for all strings s, t: Unstuff inverts Stuff on the bits of s, and the bits of t (at most 500 each) are refused, with an empty answer, or are the stuffed bits of what they unstuff to. No condition beyond the row's own. -/
import Derived.Test.YtjooddmlkikldaaM1
import Derived.Test.YtjooddmlkikldaaPureStuffCommon
namespace Go.Proofs.Ytjooddmlkikldaa.Pure
open Go.RowKit Go.Proofs.Ytjooddmlkikldaa.M Go.Proofs.YtjooddmlkikldaaW.PrintWords Go.Proofs.YtjooddmlkikldaaW.PrintMore Go.Proofs.YtjooddmlkikldaaW.PrintLast
theorem Unstuff_f (c : List UInt8) (hl : c.length ≤ 16384) (hb : Bits c) : Ev (fun k => stuff_Unstuff.f k (B c)) (unstuffR c) := by
  unfold stuff_Unstuff.f
  have h := good_f c 16384 (by omega) hl hb
  rw [show ((16384 : Nat) : Int) = 16384 from rfl] at h
  refine Ev.bind h ⟨0, fun k _ => ?_⟩
  rw [if_pos rfl]
  unfold stuff_unstuff.f
  rw [if_pos (by rw [size_B]; omega), B_data]
  rfl
theorem tail_j0 (c : List UInt8) (hC : Bits c) (lc : c.length ≤ 500) : Ev (fun k => patchbaykeep1_StuffRoundTrip.j0 k (B c) false) true := by
  have hu := Unstuff_f c (by omega) hC
  refine Ev.step (f := fun k => (stuff_Unstuff.f k (B c)).bind fun bt113 => (if bt113.2 = 0 then ((stuff_Stuff.f k bt113.1).bind fun bt115 => (if bt115.2 = 0 then (some (bt115.1.toList == (B c).toList)) else (some false))) else (some (bt113.1.toList == ([] : List UInt8))))) (fun k => ?_) (Ev.bind hu ?_)
  · simp only [patchbaykeep1_StuffRoundTrip.j0]
    rw [if_neg (by simp)]
  · unfold unstuffR
    cases hq : unstuffL 0 c with
    | inr e =>
      refine ⟨0, fun k _ => ?_⟩
      have he : ∀ (c : List UInt8) (n : Nat) (e : Int), unstuffL n c = .inr e → e ≠ 0 := by
        intro c
        induction c with
        | nil =>
          intro n e h
          simp only [unstuffL] at h
          split at h
          · injection h with h; omega
          · cases h
        | cons b r ih =>
          intro n e h
          simp only [unstuffL] at h
          split at h
          · split at h
            · injection h with h; omega
            · exact ih _ _ h
          · cases hq2 : unstuffL (if b = 48 then 0 else n + 1) r with
            | inl t => rw [hq2] at h; cases h
            | inr e2 => rw [hq2] at h; injection h with h; rw [← h]; exact ih _ _ hq2
      have h0 := he c 0 e hq
      simp only [h0, if_false]
      have hz : (⟨#[]⟩ : ByteArray).toList = [] := B_toList []
      rw [hz]
      rfl
    | inl t =>
      obtain ⟨h1, h2, h3⟩ := stuff_unstuff_back c 0 t hC (by omega) hq
      rw [if_neg (by omega)] at h1
      simp only [if_true]
      refine Ev.bind (stuff_f t (by omega) h2) ⟨0, fun k _ => ?_⟩
      simp only [if_true, h1, beq_self_eq_true]
theorem StuffRoundTrip : patchbaykeep1_StuffRoundTrip.Pure := by
  intro a0 a1 w0 w1
  obtain ⟨s, rfl⟩ := B_surj a0
  obtain ⟨t, rfl⟩ := B_surj a1
  rw [size_B] at w0 w1
  apply Ev.rounds
  unfold patchbaykeep1_StuffRoundTrip.f
  have h1 := bitString_f s 500 (by omega)
  have h2 := bitString_f t 500 (by omega)
  rw [show ((500 : Nat) : Int) = 500 from rfl] at h1 h2
  simp only [h1, h2, Option.bind_some]
  have hA := bits_map (s.take 500)
  have hC := bits_map (t.take 500)
  have la : ((s.take 500).map bitB).length ≤ 500 := by simp; omega
  have lc : ((t.take 500).map bitB).length ≤ 500 := by simp; omega
  generalize (s.take 500).map bitB = a at hA la
  generalize (t.take 500).map bitB = c at hC lc
  refine Ev.bind works_f ?_
  simp only [if_true]
  refine Ev.bind (stuff_f a (by omega) hA) ?_
  have hlen := stuffL_len a 0 (by omega)
  have hu := Unstuff_f (stuffL 0 a) (by omega) (stuffL_bits a 0 hA)
  unfold unstuffR at hu
  rw [unstuff_stuff a 0 (by omega)] at hu
  refine Ev.bind hu ?_
  simp only [if_true, bne_self_eq_false]
  exact tail_j0 c hC lc
end Go.Proofs.Ytjooddmlkikldaa.Pure
