/- Written by hand (this repository's wip/walk/QuintA.in, QuintB.in, QuintC.in): the code of chapter 3, walked. No condition beside those in the statements. -/
import Derived.Test.YtdfkejjgmippfaaDoorM0
import Derived.Test.YtdfkejjgmippfaaDoorM1
import Derived.Test.YtdfkejjgmippfaaDoorQuint
import Derived.Test.YtdfkejjgmippfaaDoorFz
import Derived.Lib.AppendStr
import Derived.Outline
namespace Go.Proofs.YtdfkejjgmippfaaDoor.M
open Go.RowKit Go.Proofs.YtdfkejjgmippfaaDoorW.PrintWords Go.Proofs.YtdfkejjgmippfaaDoorW.PrintLast Go.Proofs.YtdfkejjgmippfaaDoorW.PrintMore
attribute [local go_sem] max2_int min2_int max_two min_two max_three min_three max_four min_four
set_option linter.unusedVariables false
set_option linter.unusedSimpArgs false
open Quint
theorem qq_word (j : Nat) (h : j < 16) : quint_word.f 6 ((wordsN.getD j 0 : Nat) : Int) = some (B (wordL j)) := by
  have hall : ∀ j : Fin 16, quint_word.f 6 ((wordsN.getD j.1 0 : Nat) : Int) = some (B (wordL j.1)) := by decide +kernel
  exact hall ⟨j, h⟩
theorem qq_own {w W : World} {base n : Nat} {e : TypeId} {v : Value} {xs : List Value} (h : w.ownsRow base e 1 v n xs) (hb : Below w.heap.size w W) : W.ownsRow base e 1 v n xs :=
  h.kept (row := none) ⟨hb.os, hb.tape, hb.output, hb.size, fun k hk _ => hb.block k hk⟩ (by cases v.ownBlock <;> simp)
theorem qq_bytes (l m : List UInt8) : (l.map fun b => (b.toNat : Int)) ++ bytesOf (B m) = (l ++ m).map fun b => (b.toNat : Int) := by
  simp [bytesOf, B]
set_option maxHeartbeats 8000000 in
set_option maxRecDepth 100000 in
theorem qq_encode (l : List UInt8) (w : World) (hl : l.length ≤ 1500) (hw : WordsCell w) :
    Calls Tryd.prog 7 #[.string (B l)] w fun e w' => e = .returned (.tuple #[.string (B (encL l)), .int .i64 0]) ∧ Below w.heap.size w w' := by
  have HB := Aside0.mk (Below.refl w.heap.size w)
  have hub := Tryd.underlying37
  have hu5 := Tryd.underlying5
  have hu9 := Tryd.underlying9
  have hsz : (B l).size = l.length := size_B l
  have hgt : ((1500 : Int) < (l.length : Int)) = False := by simp; omega
  obtain ⟨c10, hc10, h10⟩ : ∃ c : Nat, c ≤ 15000 ∧ 10 * (l.length : Int) = (c : Int) := ⟨10 * l.length, by omega, by omega⟩
  obtain ⟨i5, hi5, hzz⟩ := Option.map_eq_some_iff.1 (show (Tryd.prog.info? 5).map (fun i => (i.zero, i.size, i.bytes)) = some (some (Value.int .u8 0), 1, 1) by kernel_rfl)
  simp only [Prod.mk.injEq] at hzz
  obtain ⟨hz5, hs5, hb5⟩ := hzz
  obtain ⟨w1, hmk, hown0, hgr0⟩ := run_make_own (P := Tryd.prog) w w.heap.size 37 5 i5 (.int .u8 0) 1 hub hi5 hz5 hs5 .i64 .i64 c10 (by rw [hb5]; omega) (by unfold maxLen; omega) (Nat.le_refl _)
  rw [← h10] at hmk
  have HO := Aside0.mk hown0
  have HB1 := Aside0.mk (HB.out.grown hgr0 (Nat.le_refl _) (fun k hk => by cases hk))
  clear HB hown0 hgr0
  clear h10
  go_enter Tryd.func7, Tryd.ntmps7
  go_wp2
  clear hmk hgt
  go_loopw [4, 15] (fun v4 v15 wr => ∃ (k : Nat), k ≤ l.length ∧ v15 = .int .i64 k ∧ Aside0 (wr.ownsRow w.heap.size 5 1 v4 ((encL (l.take k)).map fun b => (b.toNat : Int)).length (nums .u8 ((encL (l.take k)).map fun b => (b.toNat : Int)))) ∧ Aside0 (Below w.heap.size w wr)) (fun _ v15 _ => l.length - (intOf v15).toNat)
  case atStart => exact ⟨0, by omega, rfl, ⟨by simpa [encL, nums] using HO.out⟩, HB1⟩
  case round =>
    obtain ⟨k, hk, rfl, HO2, HB2⟩ := hrel
    clear HO HB1
    by_cases hlt : k < l.length
    · have hklt : ((k : Int) < (l.length : Int)) = True := by simp; omega
      obtain ⟨b, hb⟩ : ∃ b : UInt8, (B l)[k]'(by rw [hsz]; exact hlt) = b := ⟨_, rfl⟩
      have hlb : l.take (k + 1) = l.take k ++ [b] := by
        rw [List.take_succ_eq_append_getElem hlt, ← hb]
        rfl
      have HL := Aside0.mk hlb
      clear hlb
      have hb256 := b.toNat_lt
      have hi16 : ((b.toNat : Int) / 16 < 16) = True := by simp; omega
      have hw2 := hw.below HB2.out
      have hc1 := hw2 (b.toNat / 16) (by omega)
      have hand : Go.bits .and .u8 (b.toNat : Int) 15 = ((b.toNat % 16 : Nat) : Int) := by
        have h1 := and_u8 b 15
        have h2 : (b &&& 15).toNat = b.toNat % 16 := by
          rw [UInt8.toNat_and]
          exact Nat.and_two_pow_sub_one_eq_mod b.toNat 4
        rw [h2] at h1
        exact h1
      have HN1 := Aside0.mk (qq_word (b.toNat / 16) (by omega))
      have HN2 := Aside0.mk (qq_word (b.toNat % 16) (by omega))
      have HW2 := Aside0.mk hw2
      obtain ⟨n1, hn1⟩ : ∃ n1 : Int, ((wordsN.getD (b.toNat / 16) 0 : Nat) : Int) = n1 := ⟨_, rfl⟩
      obtain ⟨n2, hn2⟩ : ∃ n2 : Int, ((wordsN.getD (b.toNat % 16) 0 : Nat) : Int) = n2 := ⟨_, rfl⟩
      have HN3 := Aside0.mk hn2
      rw [hn1] at hc1
      rw [hn1] at HN1
      rw [hn2] at HN2
      clear hn1 hn2 hw2
      go_wp2_with fail
      refine (quint_word.calls 6 _ _ _ HN1.out).mono ?_
      rintro e w2 ⟨rfl, hb2⟩
      have HB3 := Aside0.mk (below_step HB2.out hb2)
      have HO3 := Aside0.mk (qq_own HO2.out hb2)
      clear hb2 hc1
      go_wp2_with (first | (at_builtin; refine print_append_str (w0 := w) w.heap.size rfl (.tmp 18) _ 37 9 5 rfl Tryd.underlying37 Tryd.underlying9 (by kernel_rfl) _ ((encL (l.take k)).map fun b => (b.toNat : Int)) (B (wordL (b.toNat / 16))) rfl rfl ?aO ?aB ?aS ?aL ?_; (case aO => exact HO3.out); (case aB => exact HB3.out); (case aS => exact HB3.out.size); (case aL => rw [size_B, word_len, List.length_map, encL_len, List.length_take]; omega); intro v2 w3 ho hb3 hg3; rw [qq_bytes] at ho; have HO4 := Aside0.mk ho; have HB4 := Aside0.mk hb3; have hc2 := (hw.below HB4.out) (b.toNat % 16) (by omega); rw [HN3.out] at hc2; clear ho hb3 hg3))
      refine (quint_word.calls 6 _ _ _ HN2.out).mono ?_
      rintro e w4 ⟨rfl, hb4⟩
      have HB5 := Aside0.mk (below_step HB4.out hb4)
      have HO5 := Aside0.mk (qq_own HO4.out hb4)
      clear hb4 hc2
      go_wp2_with (first | (at_builtin; refine print_append_str (w0 := w) w.heap.size rfl (.tmp 27) _ 37 9 5 rfl Tryd.underlying37 Tryd.underlying9 (by kernel_rfl) _ ((encL (l.take k) ++ wordL (b.toNat / 16)).map fun b => (b.toNat : Int)) (B (wordL (b.toNat % 16))) rfl rfl ?aO ?aB ?aS ?aL ?_; (case aO => exact HO5.out); (case aB => exact HB5.out); (case aS => exact HB5.out.size); (case aL => rw [size_B, word_len, List.length_map, List.length_append, word_len, encL_len, List.length_take]; omega); intro v3 w5 ho hb5 hg5; rw [qq_bytes] at ho; have HO6 := Aside0.mk ho; have HB6 := Aside0.mk hb5; clear ho hb5 hg5))
      go_roundw
      case rel =>
        refine ⟨k + 1, by omega, by go_num, ⟨?_⟩, HB6⟩
        have h := HO6.out
        rw [HL.out, encL_append]
        have e2 : encL [b] = wordL (b.toNat / 16) ++ wordL (b.toNat % 16) := by simp [encL, encB]
        rw [e2, ← List.append_assoc]
        exact h
      case measure => simp [intOf]; omega
    · have hklt : ((k : Int) < (l.length : Int)) = False := by simp; omega
      obtain rfl : k = l.length := by omega
      rw [List.take_length] at HO2
      obtain ⟨A, c, rfl, hrd⟩ := own_reads HO2.out
      have hst := string_of_reads (P := Tryd.prog) (c := c) Tryd.underlying37 hu5 Tryd.underlying9 hrd
      rw [strOf_B, List.length_map] at hst
      clear hrd
      go_wp2
      go_ret2
      exact ⟨rfl, HB2.out⟩
open Quint
theorem qq_gap (l : List UInt8) (hl : l.length ≤ 100000) (d : Nat) : ∀ (k i g n : Nat), i ≤ l.length → l.length - i = d → d < k → n ≤ i → quint_Gap.l0 k (B l) (g : Int) (n : Int) (l.length : Int) (i : Int) = some (((gapF (g, n) (l.drop i)).1 : Nat) : Int) := by
  induction d with
  | zero =>
    intro k i g n hi hd hk hn
    obtain ⟨k, rfl⟩ : ∃ m, k = m + 1 := ⟨k - 1, by omega⟩
    rw [quint_Gap.l0, if_neg (by omega), List.drop_of_length_le (by omega)]
    rfl
  | succ d ih =>
    intro k i g n hi hd hk hn
    obtain ⟨k, rfl⟩ : ∃ m, k = m + 1 := ⟨k - 1, by omega⟩
    have hlt : i < l.length := by omega
    rw [quint_Gap.l0, if_pos (by omega), if_pos (by omega), if_pos (by rw [size_B]; omega), bt_getD l i hlt]
    have hd2 : l.drop i = l.getD i 0 :: l.drop (i + 1) := by
      rw [List.drop_eq_getElem_cons hlt]
      simp [List.getD_eq_getElem?_getD, hlt]
    have hw : wrap64 ((i : Int) + 1) = ((i + 1 : Nat) : Int) := by rw [wrap64_id (by omega) (by omega)]; rfl
    have hw2 : wrap64 ((n : Int) + 1) = ((n + 1 : Nat) : Int) := by rw [wrap64_id (by omega) (by omega)]; rfl
    rw [hw, hw2, hd2]
    generalize l.getD i 0 = c
    have e : gapF (g, n) (c :: l.drop (i + 1)) = gapF (gapStep (g, n) c) (l.drop (i + 1)) := rfl
    rw [e]
    by_cases hc : c = 48
    · rw [if_pos (by rw [hc]; rfl)]
      have e1 : gapStep (g, n) c = (max g (n + 1), n + 1) := by rw [gapStep, if_pos hc]
      have e2 : mx (g : Int) ((n + 1 : Nat) : Int) = ((max g (n + 1) : Nat) : Int) := by unfold mx; split <;> omega
      rw [e1, e2]
      exact ih k (i + 1) _ _ (by omega) (by omega) (by omega) (by omega)
    · rw [if_neg (by intro h; exact hc (UInt8.toNat_inj.1 (by have : (48 : UInt8).toNat = 48 := rfl; omega)))]
      have e1 : gapStep (g, n) c = (g, 0) := by rw [gapStep, if_neg hc]
      have e2 : mx (g : Int) 0 = (g : Int) := by unfold mx; split <;> omega
      rw [e1, e2]
      exact ih k (i + 1) g 0 (by omega) (by omega) (by omega) (by omega)
theorem qq_gapf (l : List UInt8) (hl : l.length ≤ 100000) : ∃ k, quint_Gap.f k (B l) = some (((gapF (0, 0) l).1 : Nat) : Int) := by
  refine ⟨l.length + 1, ?_⟩
  unfold quint_Gap.f
  rw [size_B]
  exact qq_gap l hl l.length (l.length + 1) 0 0 0 (by omega) (by omega) (by omega) (by omega)
theorem qq_cut (a0 : ByteArray) : ∃ l : List UInt8, l.length ≤ 300 ∧ patchbaykeep1_cut.f a0 300 = some (B l) := by
  obtain ⟨s, rfl⟩ := B_surj a0
  refine ⟨s.take (min s.length 300), by simp; omega, ?_⟩
  unfold patchbaykeep1_cut.f
  have hn : mn ((B s).size : Int) 300 = ((min s.length 300 : Nat) : Int) := by rw [size_B]; exact mn_nat _ 300
  rw [hn, if_pos (by omega), if_pos (by rw [size_B]; omega), Int.toNat_natCast, B_take]
set_option maxHeartbeats 8000000 in
set_option maxRecDepth 100000 in
theorem qq_works (w : World) (hw : WordsCell w) : Calls Tryd.prog 9 #[] w fun e w' => e = .returned (.bool true) ∧ Below w.heap.size w w' := by
  have he := qq_encode [65] w (by decide) hw
  rw [Quint.works] at he
  have he2 : Calls Tryd.prog 7 #[.string ⟨#[65]⟩] w fun e w' => e = .returned (.tuple #[.string ⟨#[48, 49, 49, 49, 48, 48, 49, 48, 49, 48]⟩, .int .i64 0]) ∧ Below w.heap.size w w' := he
  clear he
  obtain ⟨k, hk⟩ := qq_gapf [49, 48, 48, 49] (by decide)
  have hk2 : quint_Gap.f k ⟨#[49, 48, 48, 49]⟩ = some 2 := hk
  have HK := Aside0.mk hk2
  clear hk hk2
  go_enter Tryd.func9, Tryd.ntmps9
  go_wp2_with fail
  refine he2.mono ?_
  rintro e w1 ⟨rfl, hb1⟩
  have HB1 := Aside0.mk hb1
  clear hb1 he2
  go_wp2_with fail
  refine (quint_Gap.calls k _ 2 _ HK.out).mono ?_
  rintro e w2 ⟨rfl, hb2⟩
  have HB2 := Aside0.mk (below_step HB1.out hb2)
  clear hb2
  go_wp2
  go_ret
  exact ⟨rfl, HB2.out⟩
set_option maxHeartbeats 8000000 in
set_option maxRecDepth 100000 in
theorem patchbaykeep1_QuintBounded.walk (a0 a1 : ByteArray) (w : World) (hw : WordsCell w) : Calls Tryd.prog 3 #[.string a0, .string a1] w fun e w' => e = .returned (.bool true) ∧ Below w.heap.size w w' := by
  obtain ⟨l, hl, hc0⟩ := qq_cut a0
  obtain ⟨m, hm, hc1⟩ := qq_cut a1
  have HC0 := Aside0.mk hc0
  have HC1 := Aside0.mk hc1
  clear hc0 hc1
  have hg := gapF_enc (l ++ m) (0, 0) (by simp) (by simp)
  obtain ⟨k, hk⟩ := qq_gapf (encL (l ++ m)) (by rw [encL_len, List.length_append]; omega)
  generalize (gapF (0, 0) (encL (l ++ m))).1 = g at hg hk
  have HK := Aside0.mk hk
  clear hk
  have hle : (((g : Nat) : Int) ≤ 2) = True := by simp; omega
  have hcat : B (encL l) ++ B (encL m) = B (encL (l ++ m)) := by rw [B_append, encL_append]
  have h63 : (B (encL l)).size + (B (encL m)).size ≤ 9223372036854775807 := by rw [size_B, size_B, encL_len, encL_len]; omega
  go_enter Tryd.func3, Tryd.ntmps3
  go_wp2_with fail
  refine (patchbaykeep1_cut.calls a0 300 (B l) _ HC0.out).mono ?_
  rintro e w1 ⟨rfl, hb1⟩
  have HB1 := Aside0.mk hb1
  clear hb1
  go_wp2_with fail
  refine (qq_encode l _ (by omega) (hw.below HB1.out)).mono ?_
  rintro e w2 ⟨rfl, hb2⟩
  have HB2 := Aside0.mk (below_step HB1.out hb2)
  clear hb2 HB1
  go_wp2_with fail
  refine (patchbaykeep1_cut.calls a1 300 (B m) _ HC1.out).mono ?_
  rintro e w3 ⟨rfl, hb3⟩
  have HB3 := Aside0.mk (below_step HB2.out hb3)
  clear hb3 HB2
  go_wp2_with fail
  refine (qq_encode m _ (by omega) (hw.below HB3.out)).mono ?_
  rintro e w4 ⟨rfl, hb4⟩
  have HB4 := Aside0.mk (below_step HB3.out hb4)
  clear hb4 HB3
  go_wp2_with fail
  refine (qq_works _ (hw.below HB4.out)).mono ?_
  rintro e w5 ⟨rfl, hb5⟩
  have HB5 := Aside0.mk (below_step HB4.out hb5)
  clear hb5 HB4
  go_wp2_with fail
  refine (quint_Gap.calls k _ _ _ HK.out).mono ?_
  rintro e w6 ⟨rfl, hb6⟩
  have HB6 := Aside0.mk (below_step HB5.out hb6)
  clear hb6 HB5
  go_wp2
  go_ret
  exact ⟨rfl, HB6.out⟩
set_option maxHeartbeats 8000000 in
set_option maxRecDepth 100000 in
theorem patchbaykeep1_QuintJoins.walk (a0 a1 : ByteArray) (w : World) (hw : WordsCell w) : Calls Tryd.prog 4 #[.string a0, .string a1] w fun e w' => e = .returned (.bool true) ∧ Below w.heap.size w w' := by
  obtain ⟨l, hl, hc0⟩ := qq_cut a0
  obtain ⟨m, hm, hc1⟩ := qq_cut a1
  have HC0 := Aside0.mk hc0
  have HC1 := Aside0.mk hc1
  clear hc0 hc1
  have hcat : B (encL l) ++ B (encL m) = B (encL (l ++ m)) := by rw [B_append, encL_append]
  have hcat0 : B l ++ B m = B (l ++ m) := B_append l m
  have h63 : (B (encL l)).size + (B (encL m)).size ≤ 9223372036854775807 := by rw [size_B, size_B, encL_len, encL_len]; omega
  have h64 : (B l).size + (B m).size ≤ 9223372036854775807 := by rw [size_B, size_B]; omega
  have hlen : (((B (encL (l ++ m))).size : Int) == 10 * (((B l).size : Int) + ((B m).size : Int))) = true := by
    rw [beq_iff_eq, size_B, size_B, size_B, encL_len, List.length_append]; omega
  go_enter Tryd.func4, Tryd.ntmps4
  go_wp2_with fail
  refine (patchbaykeep1_cut.calls a0 300 (B l) _ HC0.out).mono ?_
  rintro e w1 ⟨rfl, hb1⟩
  have HB1 := Aside0.mk hb1
  clear hb1
  go_wp2_with fail
  refine (patchbaykeep1_cut.calls a1 300 (B m) _ HC1.out).mono ?_
  rintro e w2 ⟨rfl, hb2⟩
  have HB2 := Aside0.mk (below_step HB1.out hb2)
  clear hb2 HB1
  go_wp2_with fail
  refine (qq_works _ (hw.below HB2.out)).mono ?_
  rintro e w3 ⟨rfl, hb3⟩
  have HB3 := Aside0.mk (below_step HB2.out hb3)
  clear hb3 HB2
  go_wp2_with fail
  refine (qq_encode l _ (by omega) (hw.below HB3.out)).mono ?_
  rintro e w4 ⟨rfl, hb4⟩
  have HB4 := Aside0.mk (below_step HB3.out hb4)
  clear hb4 HB3
  go_wp2_with fail
  refine (qq_encode m _ (by omega) (hw.below HB4.out)).mono ?_
  rintro e w5 ⟨rfl, hb5⟩
  have HB5 := Aside0.mk (below_step HB4.out hb5)
  clear hb5 HB4
  go_wp2_with fail
  refine (qq_encode (l ++ m) _ (by rw [List.length_append]; omega) (hw.below HB5.out)).mono ?_
  rintro e w6 ⟨rfl, hb6⟩
  have HB6 := Aside0.mk (below_step HB5.out hb6)
  clear hb6 HB5
  have hsl := size_B l
  have hsm := size_B m
  have hse : (B (encL (l ++ m))).size = 10 * (l.length + m.length) := by rw [size_B, encL_len, List.length_append]
  have hbl : l.length ≤ 300 := hl
  have hbm : m.length ≤ 300 := hm
  go_wp2
  go_ret
  exact ⟨by simp, HB6.out⟩

end Go.Proofs.YtdfkejjgmippfaaDoor.M
