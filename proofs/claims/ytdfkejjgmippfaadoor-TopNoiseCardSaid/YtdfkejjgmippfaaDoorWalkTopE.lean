/- Written by hand (this repository's wip/walk/TopE.in): the law TopNoise, walked. No condition beside those in the statements. -/
import Derived.Test.YtdfkejjgmippfaaDoorM6
import Derived.Test.YtdfkejjgmippfaaDoorWalkTopA
namespace Go.Proofs.YtdfkejjgmippfaaDoor.M
open Go.RowKit Go.Proofs.YtdfkejjgmippfaaDoorW.PrintWords Go.Proofs.YtdfkejjgmippfaaDoorW.PrintLast Go.Proofs.YtdfkejjgmippfaaDoorW.PrintMore
attribute [local go_sem] max2_int min2_int max_two min_two max_three min_three max_four min_four
set_option linter.unusedVariables false
set_option linter.unusedSimpArgs false
open Quint Go.Proofs.YtdfkejjgmippfaaDoor.Frame
theorem tn_frame (a0 a1 a2 a3 : Int) (a4 : ByteArray) : ∃ (d s t y : Nat) (body : List UInt8), Ok d s t y body ∧ patchbaytop_aFrame.f a0 a1 a2 a3 a4 = some ((d : Int), (s : Int), (t : Int), (y : Int), B body) := by
  obtain ⟨d, hd, e1⟩ := tq_within a0 281474976710656 (by omega) (by omega)
  obtain ⟨s, hs, e2⟩ := tq_within a1 1099511627776 (by omega) (by omega)
  obtain ⟨t, ht, e3⟩ := tq_within a2 4095 (by omega) (by omega)
  obtain ⟨y, hy, e4⟩ := tq_within a3 32768 (by omega) (by omega)
  obtain ⟨b, rfl⟩ := B_surj a4
  refine ⟨d, s, t, y, b.take (min b.length 60), ⟨hd, hs, by omega, hy, by simp; omega⟩, ?_⟩
  unfold patchbaytop_aFrame.f
  rw [show ((281474976710656 : Nat) : Int) = 281474976710656 from rfl] at e1
  rw [show ((1099511627776 : Nat) : Int) = 1099511627776 from rfl] at e2
  rw [show ((4095 : Nat) : Int) = 4095 from rfl] at e3
  rw [show ((32768 : Nat) : Int) = 32768 from rfl] at e4
  have e5 : patchbaytop_aCut.f (B b) 60 = some (B (b.take (min b.length 60))) := by
    unfold patchbaytop_aCut.f
    have hn : mn ((B b).size : Int) 60 = ((min b.length 60 : Nat) : Int) := by rw [size_B]; exact mn_nat _ 60
    rw [hn, if_pos (by omega), if_pos (by rw [size_B]; omega), Int.toNat_natCast, B_take]
  rw [e1]
  simp only [Option.bind_some]
  rw [e2]
  simp only [Option.bind_some]
  rw [e3]
  simp only [Option.bind_some]
  rw [e4]
  simp only [Option.bind_some]
  rw [e5]
  rfl
theorem tn_cells {W : World} {g : Nat} {u0 u1 u2 u3 u4 : Value} (h : W.heap[g]? = some (.cells #[u0, u1, u2, u3, u4] 30 (0, 0))) :
    W.cell? ⟨g, 0, none⟩ = some u0 ∧ W.cell? ⟨g, 1, none⟩ = some u1 ∧ W.cell? ⟨g, 2, none⟩ = some u2 ∧ W.cell? ⟨g, 3, none⟩ = some u3 ∧ W.cell? ⟨g, 4, none⟩ = some u4 :=
  ⟨blk_cell h 0, blk_cell h 1, blk_cell h 2, blk_cell h 3, blk_cell h 4⟩
theorem tn_free {W : World} {g : Nat} {u0 u1 u2 u3 u4 : Value} (h : W.heap[g]? = some (.cells #[u0, u1, u2, u3, u4] 30 (0, 0))) :
    W.frozen? ⟨g, 0, none⟩ = false ∧ W.frozen? ⟨g, 1, none⟩ = false ∧ W.frozen? ⟨g, 2, none⟩ = false ∧ W.frozen? ⟨g, 3, none⟩ = false ∧ W.frozen? ⟨g, 4, none⟩ = false :=
  ⟨blk_frozen h 0, blk_frozen h 1, blk_frozen h 2, blk_frozen h 3, blk_frozen h 4⟩
theorem tn_store {W : World} {g : Nat} {u0 u1 u2 u3 u4 : Value} (h : W.heap[g]? = some (.cells #[u0, u1, u2, u3, u4] 30 (0, 0))) (v0 v1 v2 v3 v4 : Value) :
    (((((W.setCell ⟨g, 0, none⟩ v0).setCell ⟨g, 1, none⟩ v1).setCell ⟨g, 2, none⟩ v2).setCell ⟨g, 3, none⟩ v3).setCell ⟨g, 4, none⟩ v4).heap[g]? = some (.cells #[v0, v1, v2, v3, v4] 30 (0, 0)) :=
  blk_put (blk_put (blk_put (blk_put (blk_put h 0 v0 rfl) 1 v1 rfl) 2 v2 rfl) 3 v3 rfl) 4 v4 rfl
theorem tn_set {w0 W : World} {g : Nat} (h : Below w0.heap.size w0 W) (hg : w0.heap.size ≤ g) (v0 v1 v2 v3 v4 : Value) :
    Below w0.heap.size w0 (((((W.setCell ⟨g, 0, none⟩ v0).setCell ⟨g, 1, none⟩ v1).setCell ⟨g, 2, none⟩ v2).setCell ⟨g, 3, none⟩ v3).setCell ⟨g, 4, none⟩ v4) :=
  ((((h.setCell hg v0).setCell hg v1).setCell hg v2).setCell hg v3).setCell hg v4
set_option maxHeartbeats 8000000 in
set_option maxRecDepth 100000 in
theorem patchbaytop_TopNoise.walk (a0 a1 a2 a3 : Int) (a4 : ByteArray) (a5 a6 : Int) (w : World) (hw : WordsCell w) :
    Calls Tryd.prog 6 #[.agg #[.int .i64 a0, .int .i64 a1, .int .i64 a2, .int .i64 a3, .string a4], .int .i64 a5, .int .i64 a6] w fun e w' => e = .returned (.bool true) ∧ Below w.heap.size w w' := by
  have HB := Aside0.mk (Below.refl w.heap.size w)
  obtain ⟨d, s, t, y, body, hok, hfr⟩ := tn_frame a0 a1 a2 a3 a4
  have HFr := Aside0.mk hfr
  have HOk := Aside0.mk hok
  clear hfr hok
  go_enter Tryd.func6, Tryd.ntmps6
  go_wp2_with fail
  have BK1 := Aside0.mk (blk_new w (.cells #[.int .i64 a0, .int .i64 a1, .int .i64 a2, .int .i64 a3, .string a4] 30))
  have HB1 := Aside0.mk (below_alloc HB.out (.cells #[.int .i64 a0, .int .i64 a1, .int .i64 a2, .int .i64 a3, .string a4] 30))
  clear HB
  obtain ⟨g, hgq⟩ : ∃ g : Nat, w.heap.size = g := ⟨_, rfl⟩
  have hg0 : Aside0 (w.heap.size ≤ g) := ⟨by omega⟩
  generalize w.alloc (.cells #[.int .i64 a0, .int .i64 a1, .int .i64 a2, .int .i64 a3, .string a4] 30) = W1 at BK1 HB1 ⊢
  rw [hgq] at BK1
  have HB1b : Aside0 (Below w.heap.size w W1) := HB1
  clear HB1
  refine (ta_wire _ (hw.below HB1b.out)).mono ?_
  rintro e w2 ⟨rfl, hb2⟩
  have BK2 := Aside0.mk (blk_below BK1.out hb2)
  have HB2 := Aside0.mk (below_step HB1b.out hb2)
  clear BK1 HB1b hb2
  obtain ⟨hc0, hc1, hc2, hc3, hc4⟩ := tn_cells BK2.out
  simp only [hgq]
  go_wp2_with fail
  clear hc0 hc1 hc2 hc3 hc4
  refine (patchbaytop_aFrame.calls a0 a1 a2 a3 a4 _ _ _ _ _ _ HFr.out).mono ?_
  rintro e w3 ⟨rfl, hb3⟩
  have BK3 := Aside0.mk (blk_below BK2.out hb3)
  have HB3 := Aside0.mk (below_step HB2.out hb3)
  clear BK2 HB2 hb3
  obtain ⟨hc0, hc1, hc2, hc3, hc4⟩ := tn_cells BK3.out
  obtain ⟨hf0, hf1, hf2, hf3, hf4⟩ := tn_free BK3.out
  have BK4 := Aside0.mk (tn_store BK3.out (.int .i64 (d : Int)) (.int .i64 (s : Int)) (.int .i64 (t : Int)) (.int .i64 (y : Int)) (.string (B body)))
  have HB4 := Aside0.mk (tn_set HB3.out hg0.out (.int .i64 (d : Int)) (.int .i64 (s : Int)) (.int .i64 (t : Int)) (.int .i64 (y : Int)) (.string (B body)))
  go_wp2_with fail
  generalize (((((w3.setCell ⟨g, 0, none⟩ (.int .i64 (d : Int))).setCell ⟨g, 1, none⟩ (.int .i64 (s : Int))).setCell ⟨g, 2, none⟩ (.int .i64 (t : Int))).setCell ⟨g, 3, none⟩ (.int .i64 (y : Int))).setCell ⟨g, 4, none⟩ (.string (B body))) = W4 at BK4 HB4 ⊢
  clear hc0 hc1 hc2 hc3 hc4 hf0 hf1 hf2 hf3 hf4 BK3 HB3
  have hlen := encF_len d s t y body
  have hbody := HOk.out.b
  obtain ⟨l, hl⟩ : ∃ l : List UInt8, Aside0 (encF d s t y body = l) := ⟨_, ⟨rfl⟩⟩
  have HE := Aside0.mk (fe_encode HOk.out 20 (by omega))
  have HG := Aside0.mk (fd_good HOk.out 40 (by omega))
  rw [hl.out] at HE HG hlen
  have hl60 : Aside0 (60 ≤ l.length ∧ l.length ≤ 84) := ⟨by rw [hlen]; split <;> omega⟩
  obtain ⟨x, hx⟩ : ∃ x : List UInt8, Aside0 (Crc.sealL l = x) := ⟨_, ⟨rfl⟩⟩
  have hxl : Aside0 (x.length = l.length + 4) := ⟨by rw [← hx.out]; simp [Crc.sealL, Crc.trail_length]⟩
  rw [hx.out] at HE HG
  clear hlen hbody
  refine (frame_Encode.calls 20 _ _ _ _ _ _ _ _ HE.out).mono ?_
  rintro e w5 ⟨rfl, hb5⟩
  have BK5 := Aside0.mk (blk_below BK4.out hb5)
  have HB5 := Aside0.mk (below_step HB4.out hb5)
  clear BK4 HB4 hb5
  go_wp2_with fail
  refine (qq_encode x _ (by have := hxl.out; have := hl60.out; omega) (hw.below HB5.out)).mono ?_
  rintro e w6 ⟨rfl, hb6⟩
  have BK6 := Aside0.mk (blk_below BK5.out hb6)
  have HB6 := Aside0.mk (below_step HB5.out hb6)
  clear BK5 HB5 hb6
  obtain ⟨q, hq, hwi0⟩ := tq_within a5 x.length (by have := hxl.out; have := hl60.out; omega) (by have := hxl.out; have := hl60.out; omega)
  have hwi := Aside0.mk hwi0
  have hsx : (B x).size = x.length := size_B x
  have hq84 : q ≤ 88 := by have := hxl.out; have := hl60.out; omega
  clear hwi0
  go_wp2_with fail
  refine (patchbaytop_aWithin.calls a5 _ _ _ hwi.out).mono ?_
  rintro e w7 ⟨rfl, ⟨nd, rfl⟩⟩
  have BK7 := Aside0.mk (blk_drewN BK6.out nd)
  have HB7 := Aside0.mk (pw_below_drewN HB6.out nd)
  clear BK6 HB6
  generalize w6.drewN nd = W7 at BK7 HB7 ⊢
  go_wp2
  go_loopw [9, 37] (fun v9 v37 wr => ∃ (i : Nat) (L : List UInt8), i ≤ 10 ∧ v9 = .string (B L) ∧ v37 = .int .i64 i ∧ Aside0 (Grp x q L) ∧ Aside0 (wr.heap[g]? = some (.cells #[.int .i64 (d : Int), .int .i64 (s : Int), .int .i64 (t : Int), .int .i64 (y : Int), .string (B body)] 30 (0, 0))) ∧ Aside0 (Below w.heap.size w wr)) (fun _ v37 _ => 10 - (intOf v37).toNat)
  case atStart => exact ⟨0, encL x, by omega, rfl, rfl, ⟨grp_start x q hq⟩, BK7, HB7⟩
  case round =>
    obtain ⟨i, L, hi, rfl, rfl, HGr, BK8, HB8⟩ := hrel
    clear BK7 HB7
    by_cases hlt : i < 10
    · have hltT : ((i : Int) < 10) = True := by simp; omega
      have hLl := grp_len HGr.out hq
      have hx1 := hxl.out
      have hx2 := hl60.out
      have hbit : bit (L.getD (10 * q + i) 0) := by
        rw [List.getD_eq_getElem?_getD, List.getElem?_eq_getElem (by omega), Option.getD_some]
        exact grp_bits HGr.out _ (List.getElem_mem _)
      have hfl0 := tf_flip L (by omega) (10 * q + i) (by omega) hbit
      have hcast : ((10 * q + i : Nat) : Int) = 10 * (q : Int) + (i : Int) := by omega
      rw [hcast] at hfl0
      have HFl := Aside0.mk hfl0
      have HGr2 := Aside0.mk (grp_set HGr.out hq hlt (tf_bit hbit))
      clear hfl0 hbit hcast hx1 hx2 hLl
      rcases hb : (Go.bits .and .i64 (a6 / 2 ^ i) 1 == 1) with _ | _
      · go_wp2_with fail
        exact ⟨⟨i + 1, L, by omega, rfl, by go_num, HGr, BK8, HB8⟩, by simp [intOf]; omega⟩
      · go_wp2_with fail
        refine (bits_Flip.calls _ _ _ _ HFl.out).mono ?_
        rintro e w8 ⟨rfl, hb8⟩
        have BK9 := Aside0.mk (blk_below BK8.out hb8)
        have HB9 := Aside0.mk (below_step HB8.out hb8)
        clear BK8 HB8 hb8
        go_wp2_with fail
        exact ⟨⟨i + 1, _, by omega, rfl, by go_num, HGr2, BK9, HB9⟩, by simp [intOf]; omega⟩
    · obtain rfl : i = 10 := by omega
      have hLl := grp_len HGr.out hq
      have hx1 := hxl.out
      have hx2 := hl60.out
      have hdec := fun W hW => qd_decode L W (by omega) (grp_bits HGr.out) hW
      have hd := grp_dec HGr.out hq
      have HDec := Aside0.mk hdec
      clear hdec
      rcases hd with hd | ⟨b, hd⟩
      · rw [hd] at HDec
        clear hd hLl
        go_wp2_with fail
        refine (HDec.out _ (hw.below HB8.out)).mono ?_
        rintro e w9 ⟨rfl, hb9⟩
        have HB9 := Aside0.mk (below_step HB8.out hb9)
        clear BK8 HB8 hb9 HDec
        go_wp2
        go_ret
        exact ⟨by first | rfl | simp, HB9.out⟩
      · rw [hd] at HDec
        clear hd hLl
        by_cases hxs : x.set q b = x
        · rw [hxs] at HDec
          clear hxs
          go_wp2_with fail
          refine (HDec.out _ (hw.below HB8.out)).mono ?_
          rintro e w9 ⟨rfl, hb9⟩
          have BK9 := Aside0.mk (blk_below BK8.out hb9)
          have HB9 := Aside0.mk (below_step HB8.out hb9)
          clear BK8 HB8 hb9 HDec
          go_wp2_with fail
          refine (frame_Decode.calls 40 _ _ _ _ _ _ _ _ HG.out).mono ?_
          rintro e w10 ⟨rfl, hb10⟩
          have BK10 := Aside0.mk (blk_below BK9.out hb10)
          have HB10 := Aside0.mk (below_step HB9.out hb10)
          clear BK9 HB9 hb10
          obtain ⟨hc0, hc1, hc2, hc3, hc4⟩ := tn_cells BK10.out
          have hgz : g < w10.heap.size := blk_lt BK10.out
          go_wp2_with fail
          go_ret
          exact ⟨by simp [B_toList], below_alloc HB10.out _⟩
        · have hbad := fd_bad l (x.set q b) (by omega) (by omega) (by simp; omega) (by have := Crc.seal_one l q b; rw [hx.out] at this; exact this hxs) 40
          have HBad := Aside0.mk hbad
          clear hbad
          obtain ⟨y', hy'⟩ : ∃ y', x.set q b = y' := ⟨_, rfl⟩
          rw [hy'] at HDec HBad hxs
          clear hy'
          go_wp2_with fail
          refine (HDec.out _ (hw.below HB8.out)).mono ?_
          rintro e w9 ⟨rfl, hb9⟩
          have BK9 := Aside0.mk (blk_below BK8.out hb9)
          have HB9 := Aside0.mk (below_step HB8.out hb9)
          clear BK8 HB8 hb9 HDec
          go_wp2_with fail
          refine (frame_Decode.calls 40 _ _ _ _ _ _ _ _ HBad.out).mono ?_
          rintro e w10 ⟨rfl, hb10⟩
          have BK10 := Aside0.mk (blk_below BK9.out hb10)
          have HB10 := Aside0.mk (below_step HB9.out hb10)
          clear BK9 HB9 hb10
          have hne : ((B y').toList == (B x).toList) = false := by
            rw [B_toList, B_toList]
            exact beq_eq_false_iff_ne.2 hxs
          obtain ⟨hc0, hc1, hc2, hc3, hc4⟩ := tn_cells BK10.out
          have hgz : g < w10.heap.size := blk_lt BK10.out
          go_wp2_with fail
          go_ret
          exact ⟨by first | rfl | simp, below_alloc HB10.out _⟩

end Go.Proofs.YtdfkejjgmippfaaDoor.M
