/- Written by hand (this repository's wip/walk/StuffD.in): the law StuffFrames, walked. No condition beside those in the statements. -/
import Derived.Test.YtjooddmlkikldaaDoorM1
import Derived.Test.YtjooddmlkikldaaDoorWalkStuffB
import Derived.Test.YtjooddmlkikldaaDoorStuffRow
namespace Go.Proofs.YtjooddmlkikldaaDoor.M
open Go.RowKit Go.Proofs.YtjooddmlkikldaaDoorW.PrintWords Go.Proofs.YtjooddmlkikldaaDoorW.PrintLast Go.Proofs.YtjooddmlkikldaaDoorW.PrintMore
attribute [local go_sem] max2_int min2_int max_two min_two max_three min_three max_four min_four
set_option linter.unusedVariables false
set_option linter.unusedSimpArgs false
open Go.Proofs.YtjooddmlkikldaaDoor.Cuts
theorem se_equal (L : List (List UInt8)) (v1 v2 : Value) (b1 b2 : Nat) (W : World) (hL : L.length ≤ 1000) (h1 : W.ownsRow b1 9 1 v1 (L.map B).length (encs Value.string (L.map B))) (h2 : W.ownsRow b2 9 1 v2 (L.map B).length (encs Value.string (L.map B))) :
    Calls Tryd.prog 11 #[v1, v2] W fun e w' => e = .returned (.bool true) ∧ ∃ q, w' = W.drewN q := by
  have hlen : (L.map B).length = L.length := by simp
  rcases Nat.eq_zero_or_pos L.length with h0 | h0
  · obtain ⟨A1, c1, rfl, _⟩ := own_reads_of (d := ByteArray.empty) h1
    obtain ⟨A2, c2, rfl, _⟩ := own_reads_of (d := ByteArray.empty) h2
    rw [hlen, h0]
    refine (Tryd.slices_Equal_string_empty A1 A2 c1 0 c2 W (by omega)).mono ?_
    rintro e w' ⟨rfl, rfl⟩
    exact ⟨rfl, 0, rfl⟩
  · obtain ⟨g1, c1, rfl, _, _⟩ := h1.form (by omega)
    obtain ⟨g2, c2, rfl, _, _⟩ := h2.form (by omega)
    have hc : ∀ (g b cap : Nat), W.ownsRow b 9 1 (.slice (some ⟨g, 0, none⟩) (L.map B).length cap) (L.map B).length (encs Value.string (L.map B)) → ∀ j, j < (L.map B).length → W.cell? ⟨g, 0 + j, none⟩ = some (.string ((L.map B).getD j ByteArray.empty)) := by
      intro g b cap h j hj
      have := (own_at_of (d := ByteArray.empty) h (j : Int) (by omega) (by omega)).1
      rw [Nat.zero_add]
      simpa [rdOf] using this
    refine (Tryd.slices_Equal_string g1 0 (L.map B).length c1 g2 0 (L.map B).length c2 (L.map B) (L.map B) W (Nat.le_refl _) (Nat.le_refl _) (by omega) (by omega) (hc _ _ _ h1) (hc _ _ _ h2)).mono ?_
    rintro e w' ⟨rfl, q, rfl⟩
    exact ⟨by simp, q, rfl⟩
theorem frs_len : ∀ (bs : List (List UInt8)), (∀ b ∈ bs, b.length ≤ 100) → (frs bs).length ≤ 150 * bs.length
  | [], _ => by simp [frs]
  | b :: bs, h => by
    have ih := frs_len bs (fun c hc => h c (List.mem_cons_of_mem _ hc))
    have hb := h b (List.mem_cons_self ..)
    have hs := stuffL_len b 0 (by omega)
    have h8 : FL.length = 8 := rfl
    simp only [frs, List.length_append, List.length_cons, h8]
    omega
theorem FL_bits : Bits FL := by
  intro c hc
  unfold FL at hc
  simp only [List.mem_cons, List.not_mem_nil, or_false] at hc
  rcases hc with rfl | rfl | rfl | rfl | rfl | rfl | rfl | rfl
  · exact .inl rfl
  all_goals first | exact .inr rfl | exact .inl rfl
theorem bits_append {l m : List UInt8} (h : Bits l) (h' : Bits m) : Bits (l ++ m) := fun c hc => (List.mem_append.1 hc).elim (h c) (h' c)
theorem frs_bits : ∀ (bs : List (List UInt8)), (∀ b ∈ bs, Bits b) → Bits (frs bs)
  | [], _ => fun _ h => by cases h
  | b :: bs, h => bits_append FL_bits (bits_append (stuffL_bits b 0 (h b (List.mem_cons_self ..))) (bits_append FL_bits (frs_bits bs (fun c hc => h c (List.mem_cons_of_mem _ hc)))))
theorem mid_len : ∀ (bs : List (List UInt8)), (mid bs).length ≤ 2 * bs.length ∧ (0 < bs.length → 0 < (mid bs).length)
  | [] => ⟨by simp [mid], fun h => h⟩
  | [b] => ⟨by simp [mid], fun _ => by simp [mid]⟩
  | b :: c :: bs => by
    have ih := (mid_len (c :: bs)).1
    simp only [mid, List.length_cons] at ih ⊢
    exact ⟨by omega, fun _ => by omega⟩
theorem mid_small : ∀ (bs : List (List UInt8)), (∀ b ∈ bs, b.length ≤ 100) → ∀ s ∈ mid bs, s.length ≤ 1000
  | [], _, s, hs => by cases hs
  | [b], h, s, hs => by
    obtain rfl := List.mem_singleton.1 hs
    have := stuffL_len b 0 (by omega)
    have := h b (List.mem_cons_self ..)
    omega
  | b :: c :: bs, h, s, hs => by
    simp only [mid, List.mem_cons] at hs
    rcases hs with rfl | rfl | hs
    · have := stuffL_len b 0 (by omega)
      have := h b (List.mem_cons_self ..)
      omega
    · simp
    · exact mid_small (c :: bs) (fun d hd => h d (List.mem_cons_of_mem _ hd)) s hs
def bitsOf (x : ByteArray) : List UInt8 := (x.data.toList.take 100).map bitB
theorem bitsOf_ok (x : ByteArray) : Bits (bitsOf x) ∧ (bitsOf x).length ≤ 100 := ⟨bits_map _, by unfold bitsOf; simp only [List.length_map, List.length_take]; omega⟩
theorem st_bitsOf (x : ByteArray) (hx : x.size ≤ 9223372036854775807) (w : World) :
    Calls Tryd.prog 7 #[.string x, .int .i64 100] w fun e w' => e = .returned (.string (B (bitsOf x))) ∧ Below w.heap.size w w' := by
  obtain ⟨l, rfl⟩ := B_surj x
  have := st_bits l 100 (by rw [size_B] at hx; exact hx) w
  unfold bitsOf
  rw [B_data]
  exact this
theorem st_bits50 (x : ByteArray) (hx : x.size ≤ 9223372036854775807) : ∃ b, Bits b ∧ b.length ≤ 50 ∧ ∀ w, 
    Calls Tryd.prog 7 #[.string x, .int .i64 50] w fun e w' => e = .returned (.string (B b)) ∧ Below w.heap.size w w' := by
  obtain ⟨l, rfl⟩ := B_surj x
  exact ⟨(l.take 50).map bitB, bits_map _, by simp only [List.length_map, List.length_take]; omega, fun w => st_bits l 50 (by rw [size_B] at hx; exact hx) w⟩
theorem want_le (bs : List (List UInt8)) : (want bs).length ≤ bs.length := List.length_filter_le _ _
theorem want_snoc (bs : List (List UInt8)) (b : List UInt8) : want (bs ++ [b]) = want bs ++ (if b = [] then [] else [b]) := by
  unfold want
  rw [List.filter_append]
  by_cases h : b = [] <;> simp [h]
theorem sf_split (bs : List (List UInt8)) (b1 b2 : List UInt8) (hall : ∀ b ∈ bs, Bits b ∧ b.length ≤ 100) (hl : bs.length ≤ 10) (h1 : Bits b1) (h1l : b1.length ≤ 50) (h2 : Bits b2) (h2l : b2.length ≤ 50) (W : World) (hm : MaxCell W) :
    Calls Tryd.prog 8 #[.string (B (stuffL 0 b1 ++ (frs bs ++ stuffL 0 b2)))] W fun e w' => GotPost W (want bs) 0 e w' := by
  have l1 := stuffL_len b1 0 (by omega)
  have l2 := stuffL_len b2 0 (by omega)
  have l3 := frs_len bs (fun b hb => (hall b hb).2)
  have f1 := free_stuff b1 h1
  have f2 := free_stuff b2 h2
  have hlen : (stuffL 0 b1 ++ (frs bs ++ stuffL 0 b2)).length ≤ 32768 := by simp only [List.length_append]; omega
  have hbits : Bits (stuffL 0 b1 ++ (frs bs ++ stuffL 0 b2)) := bits_append (stuffL_bits _ _ h1) (bits_append (frs_bits bs (fun b hb => (hall b hb).1)) (stuffL_bits _ _ h2))
  by_cases h0 : bs = []
  · subst h0
    refine (sp_few _ hlen hbits ?_ W hm).mono ?_
    · exact split_two f1 f2
    · rintro e w' ⟨rfl, hb⟩
      exact ⟨_, rfl, World.ownsRow_nil _ _ _ _, hb⟩
  · have hpos : 0 < bs.length := List.length_pos_iff.2 h0
    have hml := mid_len bs
    have hsp := split_frs f2 bs (stuffL 0 b1) f1 h0 (fun b hb => (hall b hb).1)
    obtain ⟨g1, g2⟩ := got_mid bs
    have h := sp_many _ hlen hbits (stuffL 0 b1) (stuffL 0 b2) (mid bs) (hml.2 hpos) (by omega) (mid_small bs (fun b hb => (hall b hb).2)) hsp W hm
    rw [g1, g2] at h
    exact h
set_option maxHeartbeats 8000000 in
set_option maxRecDepth 100000 in
theorem patchbaykeep1_StuffFrames.walk (A : Option Addr) (n c : Nat) (xs : List ByteArray) (a1 a2 : ByteArray) (w : World) (hr : ReadsOf Value.string ByteArray.empty w A n xs) (hnc : n ≤ c) (hxs : ∀ x ∈ xs, x.size ≤ 9223372036854775807)
    (h1 : a1.size ≤ 9223372036854775807) (h2 : a2.size ≤ 9223372036854775807) (hm : MaxCell w) :
    Calls Tryd.prog 4 #[.slice A n c, .string a1, .string a2] w fun e w' => e = .returned (.bool true) ∧ Below w.heap.size w w' := by
  have HM := Aside0.mk hm
  have HB := Aside0.mk (Below.refl w.heap.size w)
  have hn63 := hr.2.1
  have HR := Aside0.mk hr
  have HXs := Aside0.mk hxs
  obtain ⟨b1, hb1, hb1l, hc1⟩ := st_bits50 a1 h1
  obtain ⟨b2, hb2, hb2l, hc2⟩ := st_bits50 a2 h2
  have HC1 := Aside0.mk hc1
  have HC2 := Aside0.mk hc2
  have HS1 := Aside0.mk (fun W => st_stuff b1 (by omega) hb1 W)
  have HS2 := Aside0.mk (fun W => st_stuff b2 (by omega) hb2 W)
  have HBits := Aside0.mk (And.intro hb1 hb2)
  clear hm hr hxs hc1 hc2 hb1 hb2
  obtain ⟨m, hm1, hm2⟩ : ∃ m, m ≤ min n 10 ∧ min n 10 ≤ m := ⟨_, Nat.le_refl _, Nat.le_refl _⟩
  obtain ⟨bs, hbs, hall, hcell⟩ : ∃ bs : List (List UInt8), bs.length = m ∧ (∀ b ∈ bs, Bits b ∧ b.length ≤ 100) ∧ ∀ k, k < m → ∃ ad s, A = some ad ∧ w.cell? (ad.add k) = some (.string s) ∧ ∀ W, Calls Tryd.prog 7 #[.string s, .int .i64 100] W fun e w' => e = .returned (.string (B (bs.getD k []))) ∧ Below W.heap.size W w' := by
    have hRm := HR.out.take_ m (by omega)
    refine ⟨(xs.take m).map bitsOf, by rw [List.length_map]; exact hRm.1, fun b hb => ?_, fun k hk => ?_⟩
    · obtain ⟨x, _, rfl⟩ := List.mem_map.1 hb
      exact bitsOf_ok x
    · obtain ⟨ad, hA, hc⟩ := hRm.2.2 (by omega)
      have hkl : k < (xs.take m).length := by rw [hRm.1]; exact hk
      have e1 : (xs.take m).getD k ByteArray.empty = (xs.take m)[k] := by rw [List.getD_eq_getElem?_getD, List.getElem?_eq_getElem hkl]; rfl
      have e2 : ((xs.take m).map bitsOf).getD k [] = bitsOf (xs.take m)[k] := by rw [List.getD_eq_getElem?_getD, List.getElem?_map, List.getElem?_eq_getElem hkl]; rfl
      have hx := HXs.out _ (List.mem_of_mem_take (List.getElem_mem hkl))
      refine ⟨ad, (xs.take m)[k], hA, ?_, fun W => ?_⟩
      · rw [hc k hk, e1]
      · rw [e2]
        exact st_bitsOf _ hx W
  have hyl := Aside0.mk hbs
  have HAll := Aside0.mk hall
  have HCell := Aside0.mk hcell
  clear HR HXs hbs hall hcell
  go_enter Tryd.func4, Tryd.ntmps4
  go_wp2_with fail
  refine (st_works _).mono ?_
  rintro e w1 ⟨rfl, hb1⟩
  have HB1 := Aside0.mk (below_step HB.out hb1)
  clear hb1 HB
  go_wp2_with fail
  all_goals
    go_loopw [7, 8, 29] (fun v7 v8 v29 wr => ∃ (k : Nat) (v : Value), k ≤ m ∧ v7 = v ∧ v8 = .string (B (frs (bs.take k))) ∧ v29 = .int .i64 k ∧ Aside0 (wr.ownsRow w.heap.size 9 1 v ((want (bs.take k)).map B).length (encs Value.string ((want (bs.take k)).map B))) ∧ Aside0 (Below w.heap.size w wr)) (fun _ _ v29 _ => m - (intOf v29).toNat)
    case atStart => exact ⟨0, .slice none 0 0, by omega, rfl, rfl, rfl, ⟨World.ownsRow_nil _ _ _ _⟩, HB1⟩
    case round =>
      obtain ⟨k, v, hk, rfl, rfl, rfl, HO, HB2⟩ := hrel
      clear HB1
      by_cases hlt : k < m
      · obtain ⟨ad, s, rfl, hc0, hbits⟩ := HCell.out k hlt
        have hkl : k < bs.length := by rw [hyl.out]; exact hlt
        obtain ⟨b, hs⟩ : ∃ b, bs.getD k [] = b := ⟨_, rfl⟩
        have hs2 : bs[k] = b := by rw [← hs, List.getD_eq_getElem?_getD, List.getElem?_eq_getElem hkl]; rfl
        have hT : bs.take (k + 1) = bs.take k ++ [b] := by rw [List.take_succ_eq_append_getElem hkl, hs2]
        have hc : wr.cell? (ad.add k) = some (.string s) := pw_cell_below HB2.out hc0
        have hfr := frs_snoc (bs.take k) b
        have hwa := want_snoc (bs.take k) b
        rw [← hT] at hfr hwa
        have hfl := frs_len (bs.take k) (fun b hb => (HAll.out b (List.mem_of_mem_take hb)).2)
        have hwl := want_le (bs.take k)
        rw [List.length_take, hyl.out] at hfl hwl
        obtain ⟨hbb, hbl⟩ := HAll.out b (hs2 ▸ List.getElem_mem hkl)
        have hsl := stuffL_len b 0 (by omega)
        rw [hs] at hbits
        have HBs := Aside0.mk hbits
        have HWr := Aside0.mk (fun W => st_wrap b (by omega) hbb W)
        have hz1 : (B (frs (bs.take k))).size ≤ 1500 := by rw [size_B]; omega
        have hz2 : (B (FL ++ (stuffL 0 b ++ FL))).size ≤ 1500 := by rw [size_B]; simp [FL]; omega
        have HCat : Aside0 (B (frs (bs.take k)) ++ B (FL ++ (stuffL 0 b ++ FL)) = B (frs (bs.take (k + 1)))) := ⟨by rw [B_append, hfr]⟩
        have HWa := Aside0.mk hwa
        have hwl2 : (want (bs.take k)).length ≤ 10 := by omega
        clear hfr hwa hfl hwl hbb hsl hT hs2 hs hkl hc0 hbits
        by_cases hbe : b = []
        · have he1 : (B b).toList.isEmpty = true := by rw [B_toList, hbe]; rfl
          have he2 : ((B b).toList == []) = true := by rw [B_toList, hbe]; rfl
          rw [if_pos hbe, List.append_nil] at HWa
          clear hbe
          go_wp2_with fail
          refine (HBs.out _).mono ?_
          rintro e w3 ⟨rfl, hb3⟩
          have HB3 := Aside0.mk (below_step HB2.out hb3)
          have HO3 := Aside0.mk (pw_own_below HO.out hb3)
          clear hb3 HB2 HO
          go_wp2_with fail
          refine (HWr.out _).mono ?_
          rintro e w4 ⟨rfl, hb4⟩
          have HB4 := Aside0.mk (below_step HB3.out hb4)
          have HO4 := Aside0.mk (pw_own_below HO3.out hb4)
          clear hb4 HB3 HO3
          go_wp2_with fail
          exact ⟨⟨k + 1, _, by omega, rfl, by rw [HCat.out], by go_num, by rw [HWa.out]; exact HO4, HB4⟩, by simp [intOf]; omega⟩
        · have he1 : (B b).toList.isEmpty = false := by rw [B_toList]; cases b with
            | nil => exact absurd rfl hbe
            | cons _ _ => rfl
          rw [if_neg hbe] at HWa
          clear hbe
          go_wp2_with fail
          refine (HBs.out _).mono ?_
          rintro e w3 ⟨rfl, hb3⟩
          have HB3 := Aside0.mk (below_step HB2.out hb3)
          have HO3 := Aside0.mk (pw_own_below HO.out hb3)
          clear hb3 HB2 HO
          go_wp2_with fail
          refine (HWr.out _).mono ?_
          rintro e w4 ⟨rfl, hb4⟩
          have HB4 := Aside0.mk (below_step HB3.out hb4)
          have HO4 := Aside0.mk (pw_own_below HO3.out hb4)
          clear hb4 HB3 HO3
          go_wp2_with (at_builtin; refine print_append_of (w0 := w) Value.string w.heap.size rfl (.tmp 47) (.tmp 49) 27 9 (.string ByteArray.empty) 16 rfl Tryd.underlying27 (by kernel_rfl) rfl (by omega) _ ((want (bs.take k)).map B) (B b) rfl rfl rfl HO4.out HB4.out HB4.out.size (by rw [List.length_map]; omega) ?_; intro v5 w5 ho5 hb5 hg5 hat5)
          have ho6 : w5.ownsRow w.heap.size 9 1 v5 ((want (bs.take (k + 1))).map B).length (encs Value.string ((want (bs.take (k + 1))).map B)) := by
            rw [HWa.out, List.map_append]
            exact ho5
          have HO6 := Aside0.mk ho6
          have HB6 := Aside0.mk hb5
          clear ho5 hb5 hg5 hat5 ho6
          go_wp2_with fail
          go_roundw
          case rel => exact ⟨k + 1, _, by omega, rfl, by rw [HCat.out], by go_num, HO6, HB6⟩
          case measure => simp [intOf]; omega
      · obtain rfl : k = m := by omega
        have hTm : bs.take k = bs := List.take_of_length_le (by rw [hyl.out]; omega)
        rw [hTm] at HO ⊢
        clear hTm
        have l1 := stuffL_len b1 0 (by omega)
        have l2 := stuffL_len b2 0 (by omega)
        have l3 := frs_len bs (fun b hb => (HAll.out b hb).2)
        have hy := hyl.out
        have hwl := want_le bs
        have HSp := Aside0.mk (fun W hW => sf_split bs b1 b2 HAll.out (by omega) HBits.out.1 hb1l HBits.out.2 hb2l W hW)
        have HEq := Aside0.mk (fun v1 v2 c1 c2 W h1 h2 => se_equal (want bs) v1 v2 c1 c2 W (by omega) h1 h2)
        have HCat : Aside0 ((B (stuffL 0 b1) ++ B (frs bs)) ++ B (stuffL 0 b2) = B (stuffL 0 b1 ++ (frs bs ++ stuffL 0 b2))) := ⟨by rw [B_append, B_append, List.append_assoc]⟩
        have hz1 : (B (stuffL 0 b1)).size ≤ 100 := by rw [size_B]; omega
        have hz2 : (B (stuffL 0 b2)).size ≤ 100 := by rw [size_B]; omega
        have hz3 : (B (frs bs)).size ≤ 1500 := by rw [size_B]; omega
        have hz4 : (B (stuffL 0 b1) ++ B (frs bs)).size ≤ 1600 := by rw [ByteArray.size_append]; omega
        clear l1 l2 l3 hy hwl
        go_wp2_with fail
        refine (HC1.out _).mono ?_
        rintro e w3 ⟨rfl, hb3⟩
        have HB3 := Aside0.mk (below_step HB2.out hb3)
        have HO3 := Aside0.mk (pw_own_below HO.out hb3)
        clear hb3 HB2 HO
        go_wp2_with fail
        refine (HS1.out _).mono ?_
        rintro e w4 ⟨rfl, hb4⟩
        have HB4 := Aside0.mk (below_step HB3.out hb4)
        have HO4 := Aside0.mk (pw_own_below HO3.out hb4)
        clear hb4 HB3 HO3
        go_wp2_with fail
        refine (HC2.out _).mono ?_
        rintro e w5 ⟨rfl, hb5⟩
        have HB5 := Aside0.mk (below_step HB4.out hb5)
        have HO5 := Aside0.mk (pw_own_below HO4.out hb5)
        clear hb5 HB4 HO4
        go_wp2_with fail
        refine (HS2.out _).mono ?_
        rintro e w6 ⟨rfl, hb6⟩
        have HB6 := Aside0.mk (below_step HB5.out hb6)
        have HO6 := Aside0.mk (pw_own_below HO5.out hb6)
        clear hb6 HB5 HO5
        go_wp2_with fail
        simp only [HCat.out]
        refine (HSp.out _ (HM.out.below HB6.out)).mono ?_
        rintro e w7 ⟨v7, rfl, ho7, hb7⟩
        have HG7 := Aside0.mk ho7
        have HB7 := Aside0.mk (below_step HB6.out hb7)
        have HO7 := Aside0.mk (pw_own_below HO6.out hb7)
        clear ho7 hb7 HB6 HO6
        go_wp2_with fail
        refine (HEq.out _ _ _ _ _ HG7.out HO7.out).mono ?_
        rintro e w8 ⟨rfl, nd, rfl⟩
        go_wp2
        go_ret
        exact ⟨by first | rfl | simp, pw_below_drewN HB7.out nd⟩

end Go.Proofs.YtjooddmlkikldaaDoor.M
