/- Written by hand (this repository's wip/walk/StuffC.in): the law StuffCut, walked. No condition beside those in the statements. -/
import Derived.Test.YtjooddmlkikldaaDoorM1
import Derived.Test.YtjooddmlkikldaaDoorWalkStuffB
namespace Go.Proofs.YtjooddmlkikldaaDoor.M
open Go.RowKit Go.Proofs.YtjooddmlkikldaaDoorW.PrintWords Go.Proofs.YtjooddmlkikldaaDoorW.PrintLast Go.Proofs.YtjooddmlkikldaaDoorW.PrintMore
attribute [local go_sem] max2_int min2_int max_two min_two max_three min_three max_four min_four
set_option linter.unusedVariables false
set_option linter.unusedSimpArgs false
open Go.Proofs.YtjooddmlkikldaaDoor.Cuts
theorem st_within (a : Int) (n : Nat) (h0 : 0 < n) (h1 : n ≤ 281474976710656) : ∃ r : Nat, r < n ∧ patchbaykeep1_within.f a (n : Int) = some (r : Int) := by
  have hu : ∃ m : Nat, IntKind.u64.wrap a = (m : Int) := by
    have : 0 ≤ IntKind.u64.wrap a := by
      simp only [IntKind.wrap, IntKind.bits, IntKind.signed]
      simp
      omega
    exact ⟨(IntKind.u64.wrap a).toNat, by omega⟩
  obtain ⟨m, hm⟩ := hu
  refine ⟨m % n, Nat.mod_lt _ h0, ?_⟩
  unfold patchbaykeep1_within.f
  have hlt := Nat.mod_lt m h0
  rw [u64_id (by omega) (by omega), if_neg (by omega), hm, ← Int.ofNat_tmod, wrap64_id (by omega) (by omega)]
set_option maxHeartbeats 8000000 in
set_option maxRecDepth 100000 in
theorem patchbaykeep1_StuffCut.walk (a0 : ByteArray) (a1 : Int) (w : World) (hs : a0.size ≤ 140737488351232) (hm : MaxCell w) :
    Calls Tryd.prog 3 #[.string a0, .int .i64 a1] w fun e w' => e = .returned (.bool true) ∧ Below w.heap.size w w' := by
  obtain ⟨l, rfl⟩ := B_surj a0
  rw [size_B] at hs
  have HM := Aside0.mk hm
  have HB := Aside0.mk (Below.refl w.heap.size w)
  have hl0 : (l ++ [48]).length ≤ 9223372036854775807 := by simp; omega
  have HS := Aside0.mk (fun W => st_bits (l ++ [48]) 200 hl0 W)
  have hbits := bits_map ((l ++ [48]).take 200)
  have hlen : ((((l ++ [48]).take 200).map bitB)).length ≤ 200 ∧ 0 < ((((l ++ [48]).take 200).map bitB)).length := by simp; omega
  generalize (((l ++ [48]).take 200).map bitB) = b at HS hbits hlen
  have HW := Aside0.mk (fun W => st_wrap b (by omega) hbits W)
  have hsl := stuffL_len b 0 (by omega)
  have hne : 0 < (stuffL 0 b).length := by
    rcases Nat.eq_zero_or_pos (stuffL 0 b).length with h | h
    · have := stuff_nil (List.eq_nil_of_length_eq_zero h)
      rw [this] at hlen
      simp at hlen
    · exact h
  have hsb := stuffL_bits b 0 hbits
  have hFb : Bits FL := by
    intro c hc
    unfold FL at hc
    simp only [List.mem_cons, List.not_mem_nil, or_false] at hc
    rcases hc with rfl | rfl | rfl | rfl | rfl | rfl | rfl | rfl
    · exact .inl rfl
    all_goals first | exact .inr rfl | exact .inl rfl
  have hfree := free_stuff b hbits
  obtain ⟨x, hx⟩ : ∃ x, x = FL ++ (stuffL 0 b ++ FL) := ⟨_, rfl⟩
  have hxl : x.length = (stuffL 0 b).length + 16 := by rw [hx]; simp [FL]
  have hxb : Bits x := by
    intro c hc
    rw [hx] at hc
    rcases List.mem_append.1 hc with hc | hc
    · exact hFb c hc
    · rcases List.mem_append.1 hc with hc | hc
      · exact hsb c hc
      · exact hFb c hc
  obtain ⟨q, hq, hwi⟩ := st_within a1 x.length (by omega) (by omega)
  have HWi := Aside0.mk hwi
  have hfew : (Lib.split (x.take q) FL).length ≤ 2 := by rw [hx]; exact split_cut hfree (by omega)
  have hqb : Bits (x.take q) := fun c hc => hxb c (List.mem_of_mem_take hc)
  have HF := Aside0.mk (fun W hW => sp_few (x.take q) (by simp; omega) hqb hfew W hW)
  rw [← hx] at HW
  have hx17 : 17 ≤ x.length := by omega
  have hx300 : x.length ≤ 300 := by omega
  have hsx : (B x).size = x.length := size_B x
  have HX : Aside0 ((B x).extract 0 q = B (x.take q)) := ⟨B_take x q⟩
  have HA : Aside0 (B l ++ (⟨#[48]⟩ : ByteArray) = B (l ++ [48])) := ⟨B_append l [48]⟩
  have hls : (B l).size ≤ 140737488351232 := by rw [size_B]; exact hs
  clear hwi hxb hqb hsb hFb hfree hfew hne hsl hxl hx hlen hbits hl0 hm
  go_enter Tryd.func3, Tryd.ntmps3
  go_wp2_with fail
  refine (st_works _).mono ?_
  rintro e w1 ⟨rfl, hb1⟩
  have HB1 := Aside0.mk (below_step HB.out hb1)
  clear hb1 HB
  go_wp2_with fail
  simp only [HA.out]
  refine (HS.out _).mono ?_
  rintro e w2 ⟨rfl, hb2⟩
  have HB2 := Aside0.mk (below_step HB1.out hb2)
  clear hb2 HB1
  go_wp2_with fail
  refine (HW.out _).mono ?_
  rintro e w3 ⟨rfl, hb3⟩
  have HB3 := Aside0.mk (below_step HB2.out hb3)
  clear hb3 HB2
  go_wp2_with fail
  refine (patchbaykeep1_within.calls _ _ _ _ HWi.out).mono ?_
  rintro e w4 ⟨rfl, ⟨nd, rfl⟩⟩
  have HB4 := Aside0.mk (pw_below_drewN HB3.out nd)
  clear HB3
  go_wp2_with fail
  simp only [HX.out]
  refine (HF.out _ (HM.out.below HB4.out)).mono ?_
  rintro e w5 ⟨rfl, hb5⟩
  have HB5 := Aside0.mk (below_step HB4.out hb5)
  clear hb5 HB4
  go_wp2
  go_ret
  exact ⟨by first | rfl | simp, HB5.out⟩

end Go.Proofs.YtjooddmlkikldaaDoor.M
