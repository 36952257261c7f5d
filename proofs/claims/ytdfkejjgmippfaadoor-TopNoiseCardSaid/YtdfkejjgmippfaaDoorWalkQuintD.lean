/- Written by hand (this repository's wip/walk/QuintD.in, QuintE.in): the decoder of chapter 3 and its law, walked. No condition beside those in the statements. -/
import Derived.Test.YtdfkejjgmippfaaDoorM0
import Derived.Test.YtdfkejjgmippfaaDoorM1
import Derived.Test.YtdfkejjgmippfaaDoorWalkQuint
import Derived.Test.YtdfkejjgmippfaaDoorQuintD
import Derived.Outline
namespace Go.Proofs.YtdfkejjgmippfaaDoor.M
open Go.RowKit Go.Proofs.YtdfkejjgmippfaaDoorW.PrintWords Go.Proofs.YtdfkejjgmippfaaDoorW.PrintLast Go.Proofs.YtdfkejjgmippfaaDoorW.PrintMore
attribute [local go_sem] max2_int min2_int max_two min_two max_three min_three max_four min_four
set_option linter.unusedVariables false
set_option linter.unusedSimpArgs false
open Quint
def rowC (l : List UInt8) : List Value := nums .u8 (l.map fun b => (b.toNat : Int))
theorem qd_words (n : Nat) (h : n < 32) : slices_Index_int_int.f 20 (wordsN.map fun n : Nat => (n : Int)) (n : Int) = some (idxI n) := by
  have hall : ∀ n : Fin 32, slices_Index_int_int.f 20 (wordsN.map fun n : Nat => (n : Int)) (n.1 : Int) = some (idxI n.1) := by decide +kernel
  exact hall ⟨n, h⟩
theorem qd_reads {w : World} (hw : WordsCell w) : ReadsInt w .i64 (some ⟨0, 0, none⟩) 16 (wordsN.map fun n : Nat => (n : Int)) := by
  refine ⟨rfl, by omega, fun _ => ⟨_, rfl, fun j hj => ?_⟩⟩
  have hadd : (⟨0, 0, none⟩ : Addr).add j = ⟨0, j, none⟩ := by unfold Addr.add; split <;> simp_all
  have hj16 : j < 16 := hj
  rw [hadd, hw j hj16]
  have hl : wordsN.length = 16 := rfl
  simp [List.getD_eq_getElem?_getD, List.getElem?_map, List.getElem?_eq_getElem (show j < wordsN.length by omega)]
theorem qd_byte (c : List UInt8) (i : Nat) (h : i < c.length) (h' : i < (B c).size) : (B c)[i] = c[i] := rfl
set_option maxHeartbeats 8000000 in
set_option maxRecDepth 100000 in
theorem qd_decode (c : List UInt8) (w : World) (hl : c.length ≤ 15000) (hbits : ∀ b ∈ c, bit b) (hw : WordsCell w) :
    Calls Tryd.prog 12 #[.string (B c)] w fun e w' => e = .returned (.tuple #[.string (B (decL c).1), .int .i64 (decL c).2]) ∧ Below w.heap.size w w' := by
  have HB := Aside0.mk (Below.refl w.heap.size w)
  have HBits := Aside0.mk hbits
  clear hbits
  have hub := Tryd.underlying37
  have hu5 := Tryd.underlying5
  have hu9 := Tryd.underlying9
  have hsz : (B c).size = c.length := size_B c
  have hgt : ((15000 : Int) < (c.length : Int)) = False := by simp; omega
  go_enter Tryd.func12, Tryd.ntmps12
  go_wp2
  clear hgt
  go_loopw [16] (fun v16 wr => ∃ (i : Nat), i ≤ c.length ∧ v16 = .int .i64 i ∧ wr = w) (fun v16 _ => c.length - (intOf v16).toNat)
  case atStart => exact ⟨0, by omega, rfl, rfl⟩
  case round =>
    obtain ⟨i, hi, rfl, hwr⟩ := hrel
    have hwr2 := hwr.symm
    subst hwr2
    by_cases hlt : i < c.length
    · have hlt1 : ((i : Int) < (c.length : Int)) = True := by simp; omega
      obtain ⟨b, hb⟩ : ∃ b : UInt8, (B c)[i]'(by rw [hsz]; exact hlt) = b := ⟨_, rfl⟩
      have hbb : bit b := HBits.out b (by rw [← hb]; exact List.getElem_mem hlt)
      rcases hbb with h48 | h49
      · have hbi : (b.toNat : Int) = 48 := by rw [h48]; rfl
        clear h48
        go_wp2
        refine ⟨⟨i + 1, by omega, by go_num, trivial⟩, by simp [intOf]; omega⟩
      · have hbi : (b.toNat : Int) = 49 := by rw [h49]; rfl
        clear h49
        go_wp2
        refine ⟨⟨i + 1, by omega, by go_num, trivial⟩, by simp [intOf]; omega⟩
    · have hlt1 : ((i : Int) < (c.length : Int)) = False := by simp; omega
      clear hlt
      by_cases h10 : c.length % 10 = 0
      case neg =>
        have hd : decL c = ([], 9) := by unfold decL; rw [if_neg h10]
        have hm : ((c.length : Int) % 10 == 0) = false := by rw [beq_eq_false_iff_ne]; omega
        have hd2 := Aside0.mk hd
        clear hd h10
        go_wp2
        go_ret2
        exact ⟨by rw [hd2.out]; rfl, HB.out⟩
      case pos =>
        obtain ⟨N, hN⟩ : ∃ N : Nat, Aside0 (c.length = 10 * N) := ⟨c.length / 10, ⟨by omega⟩⟩
        have hm : ((c.length : Int) % 10 == 0) = true := by rw [beq_iff_eq]; omega
        have hq : (c.length : Int) / 10 = (N : Int) := by have := hN.out; omega
        clear h10
        obtain ⟨i5, hi5, hzz⟩ := Option.map_eq_some_iff.1 (show (Tryd.prog.info? 5).map (fun i => (i.zero, i.size, i.bytes)) = some (some (Value.int .u8 0), 1, 1) by kernel_rfl)
        simp only [Prod.mk.injEq] at hzz
        obtain ⟨hz5, hs5, hb5⟩ := hzz
        obtain ⟨w1, hmk, hown0, hgr0⟩ := run_make_full (P := Tryd.prog) w w.heap.size 37 5 i5 (.int .u8 0) 1 hub hi5 hz5 hs5 .i64 .i64 N (by rw [hb5]; have := hN.out; omega) (by have := hN.out; unfold maxLen; omega) (Nat.le_refl _)
        have HO := Aside0.mk hown0
        have HB1 := Aside0.mk (HB.out.grown hgr0 (Nat.le_refl _) (fun k hk => by cases hk))
        clear hown0 hgr0 hi5 hz5 hs5 hb5 HB
        go_wp2
        clear hmk hm hq hlt1
        go_loopw [6] (fun v6 w2 => ∃ (i : Nat) (row : List UInt8), v6 = .int .i64 i ∧ Aside0 (DecInv c N i row) ∧ Aside0 (w2.ownsRow w.heap.size 5 1 (.slice (some ⟨w.heap.size, 0, none⟩) N N) N (rowC row)) ∧ Aside0 (Below w.heap.size w w2)) (fun v6 _ => 10 * N - (intOf v6).toNat)
        case atStart =>
          refine ⟨0, List.replicate N 0, rfl, ⟨inv_start c N⟩, ⟨?_⟩, HB1⟩
          have h := HO.out
          have e : (madeCells (Value.int IntKind.u8 0).cells (N * 1)).toList = rowC (List.replicate N 0) := by
            rw [show (Value.int IntKind.u8 0).cells = #[Value.int IntKind.u8 0] from rfl, toList_madeCells_one, Nat.mul_one]
            simp [rowC, nums]
          rw [e] at h
          exact h
        case round =>
          obtain ⟨i, row, rfl, HI, HO2, HB2⟩ := hrel
          clear HO HB1
          have hiN := (inv_len HI.out).2
          have hrl := (inv_len HI.out).1
          by_cases hlt : i < 10 * N
          · have hlt1 : ((i : Int) < (c.length : Int)) = True := by have := hN.out; simp; omega
            have h5 : i + 5 ≤ c.length := by
              obtain ⟨d, _, ⟨h1, _⟩ | ⟨x, h1, _⟩⟩ := HI.out
              · have := hN.out; omega
              · have := hN.out; omega
            have h5T : ((i : Int) + 5 ≤ (c.length : Int)) = True := by simp; omega
            have h5S : ((i : Int) + 5 ≤ ((B c).size : Int)) = True := by rw [hsz]; exact h5T
            have hie : ((i : Int) ≤ (i : Int) + 5) = True := eq_true (by omega)
            obtain ⟨g5, hg5⟩ : ∃ g5 : List UInt8, Aside0 (g5 = (c.drop i).take 5) := ⟨_, ⟨rfl⟩⟩
            have hex : (B c).extract i (i + 5) = B g5 := by rw [hg5.out, B_extract]; simp
            have hl5 : g5.length = 5 := by rw [hg5.out]; simp; omega
            have hb5 : Aside0 (∀ b ∈ g5, bit b) := ⟨fun b hb => HBits.out b (by rw [hg5.out] at hb; exact List.mem_of_mem_drop (List.mem_of_mem_take hb))⟩
            have hs5 : (B g5).size = 5 := by rw [size_B]; exact hl5
            have HC := fun W => Lib.run_convert_string_bytes (P := Tryd.prog) W 9 37 5 (B g5) hu9 hub hu5
            have HB3 := Aside0.mk (below_bytesWorld HB2.out HB2.out.size 5 (B g5))
            have hnew := below_bytesWorld (Below.refl wr.heap.size wr) (Nat.le_refl _) 5 (B g5)
            have HO3 := Aside0.mk (qq_own HO2.out hnew)
            have HF := Aside0.mk (FzBytes.made wr 5 (B g5))
            rw [B_data] at HF
            clear hnew HO2 HB2
            go_wp2
            generalize Lib.bytesWorld wr 5 (B g5) = W at HB3 HO3 HF ⊢
            generalize grownCap wr (B g5).size 0 5 = cp
            generalize wr.heap.size = g at HF ⊢
            clear HC hex hie h5T h5S
            go_loopw [7, 51] (fun v7 v51 w3 => ∃ t : Nat, t ≤ 5 ∧ v51 = .int .i64 t ∧ v7 = .int .i64 (val (g5.take t) : Nat) ∧ w3 = W) (fun _ v51 _ => 5 - (intOf v51).toNat)
            case atStart => exact ⟨0, by omega, rfl, rfl, rfl⟩
            case round =>
              obtain ⟨t, ht, rfl, rfl, hwW⟩ := hrel
              have hwW2 := hwW.symm
              subst hwW2
              by_cases ht5 : t < 5
              · have htT : ((t : Int) < 5) = True := by simp; omega
                have hc := HF.out.cell t (by omega)
                have hvt := val_take g5 t (by omega)
                have hvs := val_small (l := g5.take t) (by simp; omega) (fun b hb => hb5.out b (List.mem_of_mem_take hb))
                have hbb : bit (g5.getD t 0) := by
                  have e : g5.getD t 0 = g5[t]'(by omega) := by simp [List.getD_eq_getElem?_getD, show t < g5.length by omega]
                  rw [e]
                  exact hb5.out _ (List.getElem_mem _)
                generalize val (g5.take t) = n at hvt hvs ⊢
                generalize g5.getD t 0 = b at hc hvt hbb
                rcases hbb with h48 | h49
                · have hbi : (b.toNat : Int) = 48 := by rw [h48]; rfl
                  have hv : val (g5.take (t + 1)) = 2 * n := by rw [hvt, h48]; rfl
                  have HV := Aside0.mk hv
                  rw [hbi] at hc
                  clear h48 hvt hv
                  go_wp2
                  refine ⟨⟨t + 1, by omega, by go_num, ?_, trivial⟩, by simp [intOf]; omega⟩
                  rw [HV.out]
                  go_num
                · have hbi : (b.toNat : Int) = 49 := by rw [h49]; rfl
                  have hv : val (g5.take (t + 1)) = 2 * n + 1 := by rw [hvt, h49]; rfl
                  have HV := Aside0.mk hv
                  rw [hbi] at hc
                  clear h49 hvt hv
                  go_wp2
                  refine ⟨⟨t + 1, by omega, by go_num, ?_, trivial⟩, by simp [intOf]; omega⟩
                  rw [HV.out]
                  go_num
              · obtain rfl : t = 5 := by omega
                have hvs := val_small (l := g5) (by omega) hb5.out
                have e5 : g5.take 5 = g5 := List.take_of_length_le (by omega)
                rw [e5]
                have HK : Aside0 (∀ k, idx (val g5) = k → idx (val ((c.drop i).take 5)) = k) := ⟨fun k h => by rw [← hg5.out]; exact h⟩
                have HX := Aside0.mk (qd_words (val g5) hvs)
                have hix : idxI (val g5) = match idx (val g5) with | some j => (j : Int) | none => -1 := rfl
                generalize val g5 = n at HK HX hix ⊢
                have HRd := Aside0.mk (qd_reads (hw.below HB3.out))
                clear hvs e5 ht5 ht
                go_wp2_with fail
                refine (slices_Index_int_int.calls 20 (some ⟨0, 0, none⟩) 16 (wordsN.map fun n : Nat => (n : Int)) (n : Int) (idxI n) W (Kd.C_of_reads HRd.out) (by decide) HX.out).mono ?_
                rintro e w4 ⟨rfl, ⟨nd, rfl⟩⟩
                have hdr := pw_below_drewN (Below.refl W.heap.size W) nd
                have HO4 := Aside0.mk (qq_own HO3.out hdr)
                have HB4 := Aside0.mk (below_step HB3.out hdr)
                clear hdr HO3 HB3 HF HRd HX
                generalize W.drewN nd = W4 at HO4 HB4 ⊢
                cases hk : idx n with
                | none =>
                  rw [hk] at hix
                  have hdec : decL c = ([], 11) := by
                    have h1 := inv_none HI.out hlt (HK.out _ hk)
                    have h2 := hN.out
                    unfold decL
                    rw [if_pos (by omega), show c.length / 10 = N by omega, h1]
                  have HD := Aside0.mk hdec
                  simp only at hix
                  rw [hix]
                  clear hdec hk
                  go_wp2
                  go_ret2
                  exact ⟨by rw [HD.out]; rfl, HB4.out⟩
                | some k =>
                  rw [hk] at hix
                  simp only at hix
                  rw [hix]
                  have hk16 := idx_lt hk
                  have hstep := inv_step HI.out hlt (HK.out _ hk)
                  have HS := Aside0.mk hstep.2
                  have hi5N := hstep.1
                  clear hstep hk hix
                  have hneg : ((k : Int) < 0) = False := by simp
                  obtain ⟨q, hq⟩ : ∃ q : Nat, i / 10 = q := ⟨_, rfl⟩
                  have hqN : q < N := by omega
                  have hqi : (i : Int) / 10 = (q : Int) := by omega
                  have hqT : ((q : Int) < (N : Int)) = True := by simp; omega
                  rw [hq] at HS
                  have hc := HO4.out.cellAt q (by omega)
                  have e1 : (rowC row)[q]? = some (.int .u8 ((row.getD q 0).toNat : Int)) := by
                    simp [rowC, nums, List.getD_eq_getElem?_getD, List.getElem?_map, List.getElem?_eq_getElem (show q < row.length by omega)]
                  rw [e1] at hc
                  have hfz := HO4.out.frozenAt q
                  clear hq e1
                  generalize row.getD q 0 = x at hc HS
                  go_wp2
                  have hv : Go.bits .or .u8 ((x.toNat : Int) * 16 % 256) (k : Int) = ((upd x k).toNat : Int) := by
                    rw [upd, ← or_u8, UInt8.toNat_ofNat', UInt8.toNat_ofNat']
                    congr 1
                    omega
                  refine ⟨⟨i + 5, row.set q (upd x k), by go_num, HS, ⟨?_⟩, ⟨HB4.out.setCell (Nat.le_refl _) _⟩⟩, ?_⟩
                  · rw [hv]
                    have h1 := (HO4.out.stored q (.int .u8 ((upd x k).toNat : Int))).1
                    have e : (rowC row).set q (.int .u8 ((upd x k).toNat : Int)) = rowC (row.set q (upd x k)) := by simp [rowC, nums, List.map_set]
                    rw [e] at h1
                    exact h1
                  · simp [intOf]; omega
          · have hlt1 : ((i : Int) < (c.length : Int)) = False := by have := hN.out; simp; omega
            have hdec : decL c = (row, 0) := by
              have h1 := inv_end HI.out hlt
              have h2 := hN.out
              unfold decL
              rw [if_pos (by omega), show c.length / 10 = N by omega, h1]
            have HD := Aside0.mk hdec
            have hrd := own_reads' HO2.out
            have hst := string_of_reads (P := Tryd.prog) (c := N) Tryd.underlying37 hu5 Tryd.underlying9 hrd
            rw [strOf_B] at hst
            clear hrd hdec hlt hrl
            go_wp2
            go_ret2
            exact ⟨by rw [HD.out]; rfl, HB2.out⟩
theorem qd_decode_len {c : List UInt8} : 10 * (decL c).1.length ≤ c.length := by
  unfold decL
  by_cases h10 : c.length % 10 = 0
  · rw [if_pos h10]
    cases hd : decG (c.length / 10) c with
    | none => simp
    | some l =>
      have := decG_len _ _ _ hd
      simp only
      omega
  · rw [if_neg h10]
    simp
theorem qd_bits (a0 : ByteArray) : ∃ l : List UInt8, l.length ≤ 300 ∧ (∀ b ∈ l, bit b) ∧ patchbaykeep1_bitString.f a0 300 = some (B l) := by
  obtain ⟨t, ht, hc⟩ := qq_cut a0
  refine ⟨t.map bitB, by simpa using ht, fun b hb => ?_, ?_⟩
  · obtain ⟨x, _, rfl⟩ := List.mem_map.1 hb
    exact bitB_or x
  · unfold patchbaykeep1_bitString.f
    rw [hc]
    simp only [Option.bind_some]
    rw [if_pos (by rw [size_B]; omega), B_data]
set_option maxHeartbeats 8000000 in
set_option maxRecDepth 100000 in
theorem patchbaykeep1_QuintRoundTrip.walk (a0 a1 : ByteArray) (w : World) (hw : WordsCell w) : Calls Tryd.prog 5 #[.string a0, .string a1] w fun e w' => e = .returned (.bool true) ∧ Below w.heap.size w w' := by
  obtain ⟨l, hl, hc0⟩ := qq_cut a0
  obtain ⟨c, hc, hcb, hc1⟩ := qd_bits a1
  have HC0 := Aside0.mk hc0
  have HC1 := Aside0.mk hc1
  have HCB := Aside0.mk hcb
  clear hc0 hc1 hcb
  have hdl := decL_enc l
  have hD1 := fun W hW => qd_decode (encL l) W (by rw [encL_len]; omega) (encL_bits l) hW
  rw [hdl] at hD1
  have hD2 := fun W hW => qd_decode c W (by omega) HCB.out hW
  have hzl := qd_decode_len (c := c)
  have hz0 : (decL c).2 = 0 → encL (decL c).1 = c := decL_ok HCB.out
  have hz1 : (decL c).2 ≠ 0 → (decL c).1 = [] := decL_bad
  generalize decL c = ze at hD2 hzl hz0 hz1
  obtain ⟨z, e0⟩ := ze
  simp only at hD2 hzl hz0 hz1
  have HD1 := Aside0.mk hD1
  have HD2 := Aside0.mk hD2
  have HZ0 := Aside0.mk hz0
  have HZ1 := Aside0.mk hz1
  clear hD1 hD2 hdl hz0 hz1
  go_enter Tryd.func5, Tryd.ntmps5
  go_wp2_with fail
  refine (patchbaykeep1_cut.calls a0 300 (B l) _ HC0.out).mono ?_
  rintro e w1 ⟨rfl, hb1⟩
  have HB1 := Aside0.mk hb1
  clear hb1
  go_wp2_with fail
  refine (patchbaykeep1_bitString.calls a1 300 (B c) _ HC1.out).mono ?_
  rintro e w2 ⟨rfl, hb2⟩
  have HB2 := Aside0.mk (below_step HB1.out hb2)
  clear hb2 HB1
  go_wp2_with fail
  refine (qq_works _ (hw.below HB2.out)).mono ?_
  rintro e w3 ⟨rfl, hb3⟩
  have HB3 := Aside0.mk (below_step HB2.out hb3)
  clear hb3 HB2
  go_wp2_with fail
  refine (qq_encode l _ (by omega) (hw.below HB3.out)).mono ?_
  rintro e w4 ⟨rfl, hb4⟩
  have HB4 := Aside0.mk (below_step HB3.out hb4)
  clear hb4 HB3
  go_wp2_with fail
  refine (HD1.out _ (hw.below HB4.out)).mono ?_
  rintro e w5 ⟨rfl, hb5⟩
  have HB5 := Aside0.mk (below_step HB4.out hb5)
  clear hb5 HB4
  go_wp2_with fail
  refine (HD2.out _ (hw.below HB5.out)).mono ?_
  rintro e w6 ⟨rfl, hb6⟩
  have HB6 := Aside0.mk (below_step HB5.out hb6)
  clear hb6 HB5
  by_cases he0 : e0 = 0
  · subst he0
    have hz := HZ0.out rfl
    have HZ := Aside0.mk hz
    clear hz
    go_wp2_with fail
    refine (qq_encode z _ (by omega) (hw.below HB6.out)).mono ?_
    rintro e w7 ⟨rfl, hb7⟩
    have HB7 := Aside0.mk (below_step HB6.out hb7)
    clear hb7 HB6
    rw [HZ.out]
    go_wp2
    go_ret
    exact ⟨by simp, HB7.out⟩
  · obtain rfl := HZ1.out he0
    have hne : (e0 != 0) = true := bne_iff_ne.2 he0
    have hem : (B ([] : List UInt8)).toList.isEmpty = true := by rw [B_toList]; rfl
    clear he0
    go_wp2
    go_ret
    exact ⟨by first | rfl | simp, HB6.out⟩

end Go.Proofs.YtdfkejjgmippfaaDoor.M
