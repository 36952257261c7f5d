import Derived.Test.YtjooddmlkikldaaM1
import Derived.Test.YtjooddmlkikldaaPlain
import Derived.Test.YtjooddmlkikldaaStuffL
import Derived.Lib.IndexMore
/- Plain laws of bit stuffing. -/
namespace Go.Proofs.Ytjooddmlkikldaa.Pure
open Go.RowKit Go.Proofs.Ytjooddmlkikldaa.M Go.Proofs.YtjooddmlkikldaaW.PrintWords Go.Proofs.YtjooddmlkikldaaW.PrintMore Go.Proofs.YtjooddmlkikldaaW.PrintLast

def isBit (b : UInt8) : Prop := b = 48 ∨ b = 49
def Bits (l : List UInt8) : Prop := ∀ b ∈ l, isBit b
theorem bits_map (l : List UInt8) : Bits (l.map bitB) := by
  intro b hb
  obtain ⟨c, _, rfl⟩ := List.mem_map.1 hb
  exact bitB_or c
theorem bits_getD (l : List UInt8) (h : Bits l) (i : Nat) (hi : i < l.length) : isBit (l.getD i 0) := by
  have : l.getD i 0 = l[i] := by simp [List.getD_eq_getElem?_getD, hi]
  rw [this]
  exact h _ (List.getElem_mem hi)
theorem good_l0 (l : List UInt8) (hl : l.length ≤ 1000000) (hb : Bits l) : ∀ (d i : Nat), i + d = l.length → Ev (fun k => stuff_good.l0 k (B l) (l.length : Int) (i : Int)) 0 := by
  intro d
  induction d with
  | zero =>
    intro i hi
    refine ⟨1, fun k hk => ?_⟩
    obtain ⟨k, rfl⟩ : ∃ m, k = m + 1 := ⟨k - 1, by omega⟩
    simp only [stuff_good.l0]
    rw [if_neg (by omega)]
  | succ d ih =>
    intro i hi
    have hil : i < l.length := by omega
    refine Ev.step (f := fun k => stuff_good.l0 k (B l) (l.length : Int) ((i + 1 : Nat) : Int)) (fun k => ?_) (ih (i + 1) (by omega))
    simp only [stuff_good.l0, size_B]
    rw [if_pos (by omega), if_pos (by omega), if_pos (by omega), bt_getD l i hil, wrap64_id (by omega) (by omega)]
    rcases bits_getD l hb i hil with h | h
    · rw [if_pos (by rw [h]; rfl)]; rfl
    · rw [if_neg (by rw [h]; decide), if_pos (by rw [h]; rfl)]; rfl
theorem good_f (l : List UInt8) (m : Nat) (hm : m ≤ 1000000) (hl : l.length ≤ m) (hb : Bits l) : Ev (fun k => stuff_good.f k (B l) (m : Int)) 0 := by
  have h := good_l0 l (by omega) hb l.length 0 (by omega)
  unfold stuff_good.f
  have e : ¬ ((l.length : Int) > (m : Int)) := by omega
  simp only [size_B, e, if_false]
  exact h
theorem stuff_f (l : List UInt8) (hl : l.length ≤ 8192) (hb : Bits l) : Ev (fun k => stuff_Stuff.f k (B l)) (B (stuffL 0 l), 0) := by
  unfold stuff_Stuff.f
  have h := good_f l 8192 (by omega) hl hb
  rw [show ((8192 : Nat) : Int) = 8192 from rfl] at h
  refine Ev.bind h ⟨0, fun k _ => ?_⟩
  rw [if_pos rfl, B_data]
theorem stuffL_bits : ∀ (l : List UInt8) (n : Nat), Bits l → Bits (stuffL n l) := by
  intro l
  induction l with
  | nil => intro n _ c hc; cases hc
  | cons b l ih =>
    intro n h
    have hb : isBit b := h b (List.mem_cons_self ..)
    have hl : Bits l := fun c hc => h c (List.mem_cons_of_mem _ hc)
    simp only [stuffL]
    split
    · intro c hc
      rcases List.mem_cons.1 hc with rfl | hc
      · exact hb
      · exact ih 0 hl c hc
    · split
      · intro c hc
        rcases List.mem_cons.1 hc with rfl | hc
        · exact hb
        · rcases List.mem_cons.1 hc with rfl | hc
          · exact .inl rfl
          · exact ih 0 hl c hc
      · intro c hc
        rcases List.mem_cons.1 hc with rfl | hc
        · exact hb
        · exact ih (n + 1) hl c hc
theorem stuffL_len : ∀ (l : List UInt8) (n : Nat), n ≤ 4 → (stuffL n l).length ≤ l.length + (n + l.length) / 5 := by
  intro l
  induction l with
  | nil => intro n _; simp [stuffL]
  | cons b l ih =>
    intro n hn
    simp only [stuffL]
    split
    · have := ih 0 (by omega)
      simp only [List.length_cons]; omega
    · split
      · have := ih 0 (by omega)
        simp only [List.length_cons]; omega
      · have := ih (n + 1) (by omega)
        simp only [List.length_cons]; omega
theorem unstuff_stuff : ∀ (l : List UInt8) (n : Nat), n ≤ 4 → unstuffL n (stuffL n l) = .inl l := by
  intro l
  induction l with
  | nil => intro n hn; simp only [stuffL, unstuffL]; rw [if_neg (by omega)]
  | cons b l ih =>
    intro n hn
    simp only [stuffL]
    split
    · rename_i h
      simp only [unstuffL]
      rw [if_neg (by omega), if_pos h, ih 0 (by omega)]
    · rename_i h
      split
      · rename_i h5
        simp only [unstuffL]
        rw [if_neg (by omega), if_neg h, if_pos h5, if_neg (by decide), ih 0 (by omega)]
      · rename_i h5
        simp only [unstuffL]
        rw [if_neg (by omega), if_neg h, ih (n + 1) (by omega)]
theorem stuff_unstuff_back : ∀ (c : List UInt8) (n : Nat) (z : List UInt8), Bits c → n ≤ 5 → unstuffL n c = .inl z → (if n = 5 then c = 48 :: stuffL 0 z else stuffL n z = c) ∧ Bits z ∧ z.length ≤ c.length := by
  intro c
  induction c with
  | nil =>
    intro n z _ hn h
    simp only [unstuffL] at h
    by_cases h5 : n = 5
    · rw [if_pos h5] at h; cases h
    · rw [if_neg h5] at h
      injection h with h
      subst h
      rw [if_neg h5]
      exact ⟨rfl, (fun b hb => by cases hb), by simp⟩
  | cons b r ih =>
    intro n z hb hn h
    have hbb : isBit b := hb b (List.mem_cons_self ..)
    have hr : Bits r := fun c hc => hb c (List.mem_cons_of_mem _ hc)
    simp only [unstuffL] at h
    by_cases h5 : n = 5
    · rw [if_pos h5] at h
      by_cases h49 : b = 49
      · rw [if_pos h49] at h; cases h
      · rw [if_neg h49] at h
        obtain ⟨h1, h2, h3⟩ := ih 0 z hr (by omega) h
        rw [if_neg (by omega)] at h1
        rw [if_pos h5, h1]
        refine ⟨?_, h2, by simp only [List.length_cons]; omega⟩
        rcases hbb with rfl | rfl
        · rfl
        · exact absurd rfl h49
    · rw [if_neg h5] at h
      rw [if_neg h5]
      by_cases h48 : b = 48
      · rw [if_pos h48] at h
        cases hq : unstuffL 0 r with
        | inr e => rw [hq] at h; cases h
        | inl t =>
          rw [hq] at h
          injection h with h
          subst h
          obtain ⟨h1, h2, h3⟩ := ih 0 t hr (by omega) hq
          rw [if_neg (by omega)] at h1
          refine ⟨by simp only [stuffL]; rw [if_pos h48, h1], ?_, by simp only [List.length_cons]; omega⟩
          intro c hc
          rcases List.mem_cons.1 hc with rfl | hc
          · exact hbb
          · exact h2 c hc
      · rw [if_neg h48] at h
        cases hq : unstuffL (n + 1) r with
        | inr e => rw [hq] at h; cases h
        | inl t =>
          rw [hq] at h
          injection h with h
          subst h
          obtain ⟨h1, h2, h3⟩ := ih (n + 1) t hr (by omega) hq
          refine ⟨?_, ?_, by simp only [List.length_cons]; omega⟩
          · simp only [stuffL]
            rw [if_neg h48]
            by_cases h4 : n + 1 = 5
            · rw [if_pos h4] at h1
              rw [if_pos h4, h1]
            · rw [if_neg h4] at h1
              rw [if_neg h4, h1]
          · intro c hc
            rcases List.mem_cons.1 hc with rfl | hc
            · exact hbb
            · exact h2 c hc
theorem cut_f (l : List UInt8) (n : Nat) : patchbaykeep1_cut.f (B l) (n : Int) = some (B (l.take n)) := by
  unfold patchbaykeep1_cut.f
  have hm : mn ((B l).size : Int) (n : Int) = ((min l.length n : Nat) : Int) := by rw [size_B]; exact mn_nat _ n
  rw [hm, size_B, if_pos (by omega), if_pos (by omega), Int.toNat_natCast, B_take, take_min]
theorem bitString_f (l : List UInt8) (n : Nat) (hl : l.length ≤ 9223372036854775807) : patchbaykeep1_bitString.f (B l) (n : Int) = some (B ((l.take n).map bitB)) := by
  unfold patchbaykeep1_bitString.f
  rw [cut_f]
  simp only [Option.bind_some]
  rw [if_pos (by rw [size_B]; simp; omega), B_data]
theorem works_f : Ev (fun k => patchbaykeep1_stuffWorks.f k) true := by
  unfold patchbaykeep1_stuffWorks.f
  have hb : Bits [49, 49, 49, 49, 49, 49] := by
    intro b hb
    simp only [List.mem_cons, List.not_mem_nil, or_false, or_self] at hb
    exact .inr hb
  refine Ev.bind (a := (B (stuffL 0 [49, 49, 49, 49, 49, 49]), 0)) (stuff_f [49, 49, 49, 49, 49, 49] (by decide) hb) ⟨0, fun k _ => ?_⟩
  simp only [if_true, B_toList]
  decide
end Go.Proofs.Ytjooddmlkikldaa.Pure
