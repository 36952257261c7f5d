/- Written by hand (this repository's wip/walk/mk_burst.py): CrcBurst, walked whole. No condition beside those in the statements. -/
import Derived.Test.YtbaogajiogaogaaM0
import Derived.Test.YtbaogajiogaogaaM1
import Derived.Test.YtbaogajiogaogaaM2
import Derived.Test.YtbaogajiogaogaaM3
import Derived.Test.YtbaogajiogaogaaBurst
import Derived.Test.YtbaogajiogaogaaFz
import Derived.Outline
namespace Go.Proofs.Ytbaogajiogaogaa.M
open Go.RowKit Go.Proofs.YtbaogajiogaogaaW.PrintWords Go.Proofs.YtbaogajiogaogaaW.PrintLast Go.Proofs.YtbaogajiogaogaaW.PrintMore
attribute [local go_sem] max2_int min2_int max_two min_two max_three min_three max_four min_four
set_option linter.unusedVariables false
set_option linter.unusedSimpArgs false
open Crc in
theorem brq_seal (l : List UInt8) (h : l.length ≤ 300) : crc_Seal.f (B l) = some (B (sealL l)) := by
  have h1 : crc_Sum.f (B l) = some ((sumL l).toNat : Int) := by
    unfold crc_Sum.f
    rw [if_pos (by rw [size_B]; omega), B_data]
  unfold crc_Seal.f
  rw [h1]
  simp only [Option.bind_some]
  have h2 : ([(((sumL l).toNat : Int) / 16777216) % 256, (((sumL l).toNat : Int) / 65536) % 256, (((sumL l).toNat : Int) / 256) % 256, ((sumL l).toNat : Int) % 256] : List Int) = (trail (sumL l)).map fun b => (b.toNat : Int) := by
    have e : ∀ n : Nat, ((UInt8.ofNat n).toNat : Int) = (n : Int) % 256 := fun n => by
      rw [UInt8.toNat_ofNat']
      omega
    simp only [trail, List.map_cons, List.map_nil, e]
    rfl
  rw [h2, strOf_B, if_pos (by rw [size_B, size_B, trail_length]; omega), B_append]
  rfl
open Crc in
theorem brq_open (l x : List UInt8) (h : l.length ≤ 300) (hx : x.length = l.length + 4) : crc_Open.f (B x) = if sealL (x.take l.length) = x then some (B (x.take l.length), 0) else some ((⟨#[]⟩ : ByteArray), 8) := by
  unfold crc_Open.f
  rw [size_B, hx, wrap64_id (by omega) (by omega)]
  have e : ((l.length + 4 : Nat) : Int) - 4 = (l.length : Int) := by omega
  rw [e, if_neg (by omega), if_pos (by omega), if_pos (by omega), Int.toNat_natCast, B_take, brq_seal _ (by simp; omega)]
  simp only [Option.bind_some, B_toList]

theorem brq_within (a : Int) (n : Nat) (h0 : 0 < n) (h1 : n ≤ 10000) : ∃ r : Nat, r < n ∧ patchbaykeep1_within.f a (n : Int) = some (r : Int) := by
  have hu : ∃ m : Nat, IntKind.u64.wrap a = (m : Int) := by
    have : 0 ≤ IntKind.u64.wrap a := by
      simp only [IntKind.wrap, IntKind.bits, IntKind.signed]
      simp
      omega
    exact ⟨(IntKind.u64.wrap a).toNat, by omega⟩
  obtain ⟨m, hm⟩ := hu
  refine ⟨m % n, Nat.mod_lt _ h0, ?_⟩
  unfold patchbaykeep1_within.f
  have hlt := Nat.mod_lt m h0
  rw [u64_id (by omega) (by omega), if_neg (by omega), hm, ← Int.ofNat_tmod, wrap64_id (by omega) (by omega)]
set_option maxHeartbeats 8000000 in
set_option maxRecDepth 100000 in
open Crc in
theorem patchbaykeep1_CrcBurst.walk (a0 : ByteArray) (a1 a2 : Int) (a3 : Bool) (w : World) :
    Calls Try.prog 4 #[.string a0, .int .i64 a1, .int .u32 a2, .bool a3] w fun e w' => e = .returned (.bool true) ∧ Below w.heap.size w w' := by
  have HB := Aside0.mk (Below.refl w.heap.size w)
  have hworks : Aside0 (patchbaykeep1_crcWorks.f = some true) := ⟨by
    unfold patchbaykeep1_crcWorks.f
    have h1 : crc_Sum.f (B [49, 50, 51, 52, 53, 54, 55, 56, 57]) = some ((sumL [49, 50, 51, 52, 53, 54, 55, 56, 57]).toNat : Int) := by
      unfold crc_Sum.f
      rw [if_pos (by rw [size_B]; decide), B_data]
    rw [Crc.works] at h1
    have e : (⟨#[49, 50, 51, 52, 53, 54, 55, 56, 57]⟩ : ByteArray) = B [49, 50, 51, 52, 53, 54, 55, 56, 57] := rfl
    rw [e, h1]
    rfl⟩
  obtain ⟨l, hl, hcut⟩ : ∃ l : List UInt8, l.length ≤ 300 ∧ Aside0 (patchbaykeep1_cut.f a0 300 = some (B l)) := by
    obtain ⟨s, rfl⟩ := B_surj a0
    refine ⟨s.take (min s.length 300), by simp; omega, ⟨?_⟩⟩
    unfold patchbaykeep1_cut.f
    have hn : mn ((B s).size : Int) 300 = ((min s.length 300 : Nat) : Int) := by rw [size_B]; exact mn_nat _ 300
    rw [hn, if_pos (by omega), if_pos (by rw [size_B]; omega), Int.toNat_natCast, B_take]
  have hseal := Aside0.mk (brq_seal l hl)
  have hopen : Aside0 (crc_Open.f (B (sealL l)) = some (B l, 0)) := ⟨by
    rw [brq_open l (sealL l) hl (by simp [sealL, trail_length])]
    have : (sealL l).take l.length = l := by simp [sealL]
    rw [this, if_pos rfl]⟩
  have hub := Try.underlying22
  have hu5 := Try.underlying5
  have hu9 := Try.underlying9
  go_enter Try.func4, Try.ntmps4
  go_wp2_with fail
  refine (patchbaykeep1_crcWorks.calls true _ hworks.out).mono ?_
  rintro e w1 ⟨rfl, hb1⟩
  have HB1 := Aside0.mk (below_step HB.out hb1)
  clear HB hb1
  go_wp2_with fail
  refine (patchbaykeep1_cut.calls a0 300 (B l) _ hcut.out).mono ?_
  rintro e w2 ⟨rfl, hb2⟩
  have HB2 := Aside0.mk (below_step HB1.out hb2)
  clear HB1 hb2
  go_wp2_with fail
  refine (crc_Seal.calls (B l) (B (sealL l)) _ hseal.out).mono ?_
  rintro e w3 ⟨rfl, hb3⟩
  have HB3 := Aside0.mk (below_step HB2.out hb3)
  clear HB2 hb3
  go_wp2_with fail
  refine (crc_Open.calls (B (sealL l)) (B l) 0 _ hopen.out).mono ?_
  rintro e w4 ⟨rfl, hb4⟩
  have HB4 := Aside0.mk (below_step HB3.out hb4)
  clear HB3 hb4
  cases a3
  case true =>
    go_wp2_with fail
    have e1 : wrap64 (8 * ((B l).size : Int)) = ((8 * l.length : Nat) : Int) := by rw [size_B, wrap64_id (by omega) (by omega)]; omega
    have e2 : wrap64 (8 * ((B (sealL l)).size : Int)) = ((8 * (l.length + 4) : Nat) : Int) := by rw [size_B, sealL, List.length_append, trail_length, wrap64_id (by omega) (by omega)]; omega
    have e3 : wrap64 (wrap64 (8 * ((B (sealL l)).size : Int)) - wrap64 (8 * ((B l).size : Int))) = ((8 * (l.length + 4) - 8 * l.length : Nat) : Int) := by rw [e1, e2, wrap64_id (by omega) (by omega)]; omega
    simp only [e3]
    simp only [e1, e2]
    obtain ⟨d, hd⟩ : ∃ d : Bool, d = false := ⟨_, rfl⟩
    obtain ⟨F, hF⟩ : ∃ F : Nat, F = 8 * l.length := ⟨_, rfl⟩
    obtain ⟨Z, hZ⟩ : ∃ Z : Nat, Z = 8 * (l.length + 4) := ⟨_, rfl⟩
    rw [← hF, ← hZ]
    clear e1 e2 e3
    have hFZ : Aside0 ((d = false → 8 * l.length ≤ F) ∧ (d = true → Z ≤ 8 * l.length) ∧ Z ≤ 8 * (l.length + 4) ∧ F < Z ∧ Z ≤ 9000) := ⟨by refine ⟨fun h => ?_, fun h => ?_, ?_, ?_, ?_⟩ <;> first | omega | (rw [hd] at h; cases h)⟩
    clear hF hZ hd
    obtain ⟨r, hr, hwi0⟩ := brq_within a1 (Z - F) (by have := hFZ.out; omega) (by have := hFZ.out; omega)
    have hwi := Aside0.mk hwi0
    clear hwi0
    refine (patchbaykeep1_within.calls a1 _ _ _ hwi.out).mono ?_
    rintro e w5 ⟨rfl, ⟨nd, rfl⟩⟩
    have HB5 := Aside0.mk (pw_below_drewN HB4.out nd)
    clear HB4
    obtain ⟨a, ha⟩ : ∃ a : Nat, Aside0 (a = F + r ∧ r < Z - F) := ⟨F + r, ⟨rfl, hr⟩⟩
    have ea : wrap64 ((F : Int) + (r : Int)) = (a : Int) := by have := ha.out; have := hFZ.out; rw [wrap64_id (by omega) (by omega)]; omega
    have hba : Aside0 (Burst l d a a (sealL l) false) := ⟨burst_start l d a (fun h => by have := ha.out; have := hFZ.out.1 h; omega)⟩
    have hFA : Aside0 ((d = true → Z ≤ 8 * l.length) ∧ Z ≤ 8 * (l.length + 4) ∧ a < Z) := ⟨hFZ.out.2.1, hFZ.out.2.2.1, by have := ha.out; have := hFZ.out; omega⟩
    clear ha hr hwi
    generalize w4.drewN nd = W5 at HB5 ⊢
    have HC := fun W => Lib.run_convert_string_bytes (P := Try.prog) W 9 22 5 (B (sealL l)) hu9 hub hu5
    have HB6 := Aside0.mk (below_bytesWorld HB5.out HB5.out.size 5 (B (sealL l)))
    have HF := Aside0.mk (FzBytes.made W5 5 (B (sealL l)))
    have hg : w.heap.size ≤ W5.heap.size := HB5.out.size
    clear HB5
    go_wp2
    rw [B_data] at HF
    generalize Lib.bytesWorld W5 5 (B (sealL l)) = W at HB6 HF ⊢
    generalize grownCap W5 (B (sealL l)).size 0 5 = cp
    generalize W5.heap.size = g at HF hg ⊢
    have hsz : (B (sealL l)).size = l.length + 4 := by rw [size_B, sealL, List.length_append, trail_length]
    simp only [hsz, ea]
    clear HC hu9 hub ea hsz hFZ hworks hcut hseal hopen
    go_loopw [15, 16] (fun v15 v16 wr => ∃ (i : Nat) (ch : Bool) (x : List UInt8), v15 = .bool ch ∧ v16 = .int .i64 i ∧ i ≤ Z ∧ Aside0 (Burst l d a i x ch) ∧ Aside0 (FzBytes wr g 5 x) ∧ Aside0 (Below w.heap.size w wr)) (fun _ v16 _ => Z - (intOf v16).toNat)
    case atStart => exact ⟨a, false, sealL l, rfl, rfl, by have := hFA.out; omega, hba, HF, HB6⟩
    case round =>
      obtain ⟨i, ch, x, rfl, rfl, hiZ, HBu, HF1, HB3⟩ := hrel
      clear HF HB6 hba
      have hfa := hFA.out
      have e32 : wrap64 ((a : Int) + 32) = (a : Int) + 32 := by rw [wrap64_id (by omega) (by omega)]
      by_cases hlt : i < a + 32 ∧ i < Z
      · obtain ⟨u, hu, hui⟩ : ∃ u : Nat, (if (Z : Int) < (a : Int) + 32 then (Z : Int) else (a : Int) + 32) = (u : Int) ∧ i < u := by
          by_cases h : (Z : Int) < (a : Int) + 32
          · exact ⟨Z, by rw [if_pos h], by omega⟩
          · exact ⟨a + 32, by rw [if_neg h]; omega, by omega⟩
        have hmn : ((i : Int) < (u : Int)) = True := by simp; omega
        obtain ⟨j, hj⟩ : ∃ j : Nat, Aside0 (i = a + j) := ⟨i - a, ⟨by have := HBu.out.1; omega⟩⟩
        have esub : wrap64 ((i : Int) - (a : Int)) = (j : Int) := by have := hj.out; rw [wrap64_id (by omega) (by omega)]; omega
        have h0j : ((0 : Int) ≤ (j : Int)) = True := by simp
        have h0i : ((0 : Int) ≤ (i : Int)) = True := by simp
        have hlt2 := Aside0.mk hlt
        obtain ⟨q, hq⟩ : ∃ q : Nat, Aside0 (q = i / 8) := ⟨_, ⟨rfl⟩⟩
        obtain ⟨m, hm⟩ : ∃ m : Nat, Aside0 (m = i % 8) := ⟨_, ⟨rfl⟩⟩
        have eq1 : wrap64 ((i : Int) / 8) = (q : Int) := by have := hq.out; rw [wrap64_id (by omega) (by omega)]; omega
        have em1 : wrap64 ((i : Int) % 8) = (m : Int) := by have := hm.out; rw [wrap64_id (by omega) (by omega)]; omega
        have em2 : (i : Int) % 8 = (m : Int) := by have := hm.out; omega
        have h0q : ((0 : Int) ≤ (q : Int)) = True := by simp
        have h0m : ((0 : Int) ≤ (m : Int)) = True := by simp
        have hxl : x.length = l.length + 4 := HBu.out.2.1
        have hql : q < x.length := by have := hq.out; omega
        have hc := HF1.out.cell q hql
        have hfz := HF1.out.free q hql
        have hqi : ((q : Int) < (l.length : Int) + 4) = True := by simp; omega
        clear hlt hfa
        by_cases hbit : Go.bits .and .u32 (a2 / 2 ^ min j 32) 1 = 1
        · have hb1 : (Go.bits .and .u32 (a2 / 2 ^ min j 32) 1 == 1) = true := by rw [hbit]; rfl
          clear hbit
          go_wp2
          go_region
          go_wp2
          go_roundw
          case measure =>
            have h := hlt2.out; have := hFA.out.2.1
            rw [wrap64_id (by omega) (by omega)]
            simp only [intOf]
            omega
          case rel =>
            have hv : Go.bits .xor .u8 (((x[q]?.getD 0).toNat : Nat) : Int) (2 ^ m % 256) = ((x.getD q 0 ^^^ UInt8.ofBitVec (BitVec.twoPow 8 m)).toNat : Int) := by
              rw [← xor_u8, List.getD_eq_getElem?_getD]
              congr 1
              have e : (UInt8.ofBitVec (BitVec.twoPow 8 m)).toNat = 2 ^ m % 256 := BitVec.toNat_twoPow 8 m
              rw [e]
              simp
            refine ⟨i + 1, true, flipAt x i, rfl, ?_, ?_, ⟨?_⟩, ⟨?_⟩, ⟨?_⟩⟩
            · rw [wrap64_id (by have := hlt2.out; have := hFA.out.2.1; omega) (by have := hlt2.out; have := hFA.out.2.1; omega)]; rfl
            · have := hlt2.out; omega
            · have h1 := hFA.out
              have h2 := hlt2.out
              exact burst_flip HBu.out h2.1 (fun h => by have := h1.1 h; omega) (fun _ => by omega)
            · rw [hv]
              have h1 := HF1.out.set q hql (x.getD q 0 ^^^ UInt8.ofBitVec (BitVec.twoPow 8 m))
              have e : flipAt x i = x.set q (x.getD q 0 ^^^ UInt8.ofBitVec (BitVec.twoPow 8 m)) := by rw [hq.out, hm.out]; rfl
              rw [e]
              exact h1.step rfl
            · exact below_drew1 (HB3.out.setCell hg _)
        · have hb1 : (Go.bits .and .u32 (a2 / 2 ^ min j 32) 1 == 1) = false := beq_eq_false_iff_ne.2 hbit
          clear hbit
          go_wp2
          refine ⟨⟨i + 1, ch, x, rfl, ?_, ?_, ⟨burst_skip HBu.out⟩, HF1, HB3⟩, ?_⟩
          · rw [wrap64_id (by have := hlt2.out; have := hFA.out.2.1; omega) (by have := hlt2.out; have := hFA.out.2.1; omega)]; rfl
          · have := hlt2.out; omega
          · have h := hlt2.out; have := hFA.out.2.1
            rw [wrap64_id (by omega) (by omega)]
            simp only [intOf]
            omega
      · obtain ⟨u, hu, hui⟩ : ∃ u : Nat, (if (Z : Int) < (a : Int) + 32 then (Z : Int) else (a : Int) + 32) = (u : Int) ∧ u ≤ i := by
          by_cases h : (Z : Int) < (a : Int) + 32
          · exact ⟨Z, by rw [if_pos h], by omega⟩
          · exact ⟨a + 32, by rw [if_neg h]; omega, by omega⟩
        have hmn : ((i : Int) < (u : Int)) = False := by simp; omega
        have hxl := HBu.out.2.1
        have hst : (convert 22 9 (.slice (some ⟨g, 0, none⟩) (l.length + 4) cp)).run Try.prog wr = .ok (.string (B x)) wr := by
          have h1 := string_of_reads (P := Try.prog) (c := cp) Try.underlying22 hu5 Try.underlying9 (HF1.out.reads (by omega))
          rw [strOf_B, hxl] at h1
          exact h1
        have hop := brq_open l x hl hxl
        have hend := burst_end HBu.out
        clear hxl hui hlt hfa
        cases ch
        case false =>
          rw [if_pos (hend.2 rfl)] at hop
          have hop2 := Aside0.mk hop
          clear hop hend
          go_wp2_with fail
          refine (crc_Open.calls (B x) _ _ _ hop2.out).mono ?_
          rintro e w6 ⟨rfl, hb6⟩
          have HB6 := Aside0.mk (below_step HB3.out hb6)
          clear HB3 hb6
          go_wp2
          go_ret
          exact ⟨rfl, HB6.out⟩
        case true =>
          rw [if_neg (fun h => by cases hend.1 h)] at hop
          have hop2 := Aside0.mk hop
          clear hop hend
          go_wp2_with fail
          refine (crc_Open.calls (B x) _ _ _ hop2.out).mono ?_
          rintro e w6 ⟨rfl, hb6⟩
          have HB6 := Aside0.mk (below_step HB3.out hb6)
          clear HB3 hb6
          go_wp2
          go_ret
          exact ⟨rfl, HB6.out⟩
  case false =>
    by_cases hne : l = []
    case pos =>
      have hem : (B l).toList.isEmpty = true := by rw [B_toList, hne]; rfl
      clear hne
      go_wp2_with fail
      have e1 : wrap64 (8 * ((B l).size : Int)) = ((8 * l.length : Nat) : Int) := by rw [size_B, wrap64_id (by omega) (by omega)]; omega
      have e2 : wrap64 (8 * ((B (sealL l)).size : Int)) = ((8 * (l.length + 4) : Nat) : Int) := by rw [size_B, sealL, List.length_append, trail_length, wrap64_id (by omega) (by omega)]; omega
      have e3 : wrap64 (wrap64 (8 * ((B (sealL l)).size : Int)) - wrap64 (8 * ((B l).size : Int))) = ((8 * (l.length + 4) - 8 * l.length : Nat) : Int) := by rw [e1, e2, wrap64_id (by omega) (by omega)]; omega
      simp only [e3]
      simp only [e1, e2]
      obtain ⟨d, hd⟩ : ∃ d : Bool, d = false := ⟨_, rfl⟩
      obtain ⟨F, hF⟩ : ∃ F : Nat, F = 8 * l.length := ⟨_, rfl⟩
      obtain ⟨Z, hZ⟩ : ∃ Z : Nat, Z = 8 * (l.length + 4) := ⟨_, rfl⟩
      rw [← hF, ← hZ]
      clear e1 e2 e3
      have hFZ : Aside0 ((d = false → 8 * l.length ≤ F) ∧ (d = true → Z ≤ 8 * l.length) ∧ Z ≤ 8 * (l.length + 4) ∧ F < Z ∧ Z ≤ 9000) := ⟨by refine ⟨fun h => ?_, fun h => ?_, ?_, ?_, ?_⟩ <;> first | omega | (rw [hd] at h; cases h)⟩
      clear hF hZ hd
      clear hem
      obtain ⟨r, hr, hwi0⟩ := brq_within a1 (Z - F) (by have := hFZ.out; omega) (by have := hFZ.out; omega)
      have hwi := Aside0.mk hwi0
      clear hwi0
      refine (patchbaykeep1_within.calls a1 _ _ _ hwi.out).mono ?_
      rintro e w5 ⟨rfl, ⟨nd, rfl⟩⟩
      have HB5 := Aside0.mk (pw_below_drewN HB4.out nd)
      clear HB4
      obtain ⟨a, ha⟩ : ∃ a : Nat, Aside0 (a = F + r ∧ r < Z - F) := ⟨F + r, ⟨rfl, hr⟩⟩
      have ea : wrap64 ((F : Int) + (r : Int)) = (a : Int) := by have := ha.out; have := hFZ.out; rw [wrap64_id (by omega) (by omega)]; omega
      have hba : Aside0 (Burst l d a a (sealL l) false) := ⟨burst_start l d a (fun h => by have := ha.out; have := hFZ.out.1 h; omega)⟩
      have hFA : Aside0 ((d = true → Z ≤ 8 * l.length) ∧ Z ≤ 8 * (l.length + 4) ∧ a < Z) := ⟨hFZ.out.2.1, hFZ.out.2.2.1, by have := ha.out; have := hFZ.out; omega⟩
      clear ha hr hwi
      generalize w4.drewN nd = W5 at HB5 ⊢
      have HC := fun W => Lib.run_convert_string_bytes (P := Try.prog) W 9 22 5 (B (sealL l)) hu9 hub hu5
      have HB6 := Aside0.mk (below_bytesWorld HB5.out HB5.out.size 5 (B (sealL l)))
      have HF := Aside0.mk (FzBytes.made W5 5 (B (sealL l)))
      have hg : w.heap.size ≤ W5.heap.size := HB5.out.size
      clear HB5
      go_wp2
      rw [B_data] at HF
      generalize Lib.bytesWorld W5 5 (B (sealL l)) = W at HB6 HF ⊢
      generalize grownCap W5 (B (sealL l)).size 0 5 = cp
      generalize W5.heap.size = g at HF hg ⊢
      have hsz : (B (sealL l)).size = l.length + 4 := by rw [size_B, sealL, List.length_append, trail_length]
      simp only [hsz, ea]
      clear HC hu9 hub ea hsz hFZ hworks hcut hseal hopen
      go_loopw [15, 16] (fun v15 v16 wr => ∃ (i : Nat) (ch : Bool) (x : List UInt8), v15 = .bool ch ∧ v16 = .int .i64 i ∧ i ≤ Z ∧ Aside0 (Burst l d a i x ch) ∧ Aside0 (FzBytes wr g 5 x) ∧ Aside0 (Below w.heap.size w wr)) (fun _ v16 _ => Z - (intOf v16).toNat)
      case atStart => exact ⟨a, false, sealL l, rfl, rfl, by have := hFA.out; omega, hba, HF, HB6⟩
      case round =>
        obtain ⟨i, ch, x, rfl, rfl, hiZ, HBu, HF1, HB3⟩ := hrel
        clear HF HB6 hba
        have hfa := hFA.out
        have e32 : wrap64 ((a : Int) + 32) = (a : Int) + 32 := by rw [wrap64_id (by omega) (by omega)]
        by_cases hlt : i < a + 32 ∧ i < Z
        · obtain ⟨u, hu, hui⟩ : ∃ u : Nat, (if (Z : Int) < (a : Int) + 32 then (Z : Int) else (a : Int) + 32) = (u : Int) ∧ i < u := by
            by_cases h : (Z : Int) < (a : Int) + 32
            · exact ⟨Z, by rw [if_pos h], by omega⟩
            · exact ⟨a + 32, by rw [if_neg h]; omega, by omega⟩
          have hmn : ((i : Int) < (u : Int)) = True := by simp; omega
          obtain ⟨j, hj⟩ : ∃ j : Nat, Aside0 (i = a + j) := ⟨i - a, ⟨by have := HBu.out.1; omega⟩⟩
          have esub : wrap64 ((i : Int) - (a : Int)) = (j : Int) := by have := hj.out; rw [wrap64_id (by omega) (by omega)]; omega
          have h0j : ((0 : Int) ≤ (j : Int)) = True := by simp
          have h0i : ((0 : Int) ≤ (i : Int)) = True := by simp
          have hlt2 := Aside0.mk hlt
          obtain ⟨q, hq⟩ : ∃ q : Nat, Aside0 (q = i / 8) := ⟨_, ⟨rfl⟩⟩
          obtain ⟨m, hm⟩ : ∃ m : Nat, Aside0 (m = i % 8) := ⟨_, ⟨rfl⟩⟩
          have eq1 : wrap64 ((i : Int) / 8) = (q : Int) := by have := hq.out; rw [wrap64_id (by omega) (by omega)]; omega
          have em1 : wrap64 ((i : Int) % 8) = (m : Int) := by have := hm.out; rw [wrap64_id (by omega) (by omega)]; omega
          have em2 : (i : Int) % 8 = (m : Int) := by have := hm.out; omega
          have h0q : ((0 : Int) ≤ (q : Int)) = True := by simp
          have h0m : ((0 : Int) ≤ (m : Int)) = True := by simp
          have hxl : x.length = l.length + 4 := HBu.out.2.1
          have hql : q < x.length := by have := hq.out; omega
          have hc := HF1.out.cell q hql
          have hfz := HF1.out.free q hql
          have hqi : ((q : Int) < (l.length : Int) + 4) = True := by simp; omega
          clear hlt hfa
          by_cases hbit : Go.bits .and .u32 (a2 / 2 ^ min j 32) 1 = 1
          · have hb1 : (Go.bits .and .u32 (a2 / 2 ^ min j 32) 1 == 1) = true := by rw [hbit]; rfl
            clear hbit
            go_wp2
            go_region
            go_wp2
            go_roundw
            case measure =>
              have h := hlt2.out; have := hFA.out.2.1
              rw [wrap64_id (by omega) (by omega)]
              simp only [intOf]
              omega
            case rel =>
              have hv : Go.bits .xor .u8 (((x[q]?.getD 0).toNat : Nat) : Int) (2 ^ m % 256) = ((x.getD q 0 ^^^ UInt8.ofBitVec (BitVec.twoPow 8 m)).toNat : Int) := by
                rw [← xor_u8, List.getD_eq_getElem?_getD]
                congr 1
                have e : (UInt8.ofBitVec (BitVec.twoPow 8 m)).toNat = 2 ^ m % 256 := BitVec.toNat_twoPow 8 m
                rw [e]
                simp
              refine ⟨i + 1, true, flipAt x i, rfl, ?_, ?_, ⟨?_⟩, ⟨?_⟩, ⟨?_⟩⟩
              · rw [wrap64_id (by have := hlt2.out; have := hFA.out.2.1; omega) (by have := hlt2.out; have := hFA.out.2.1; omega)]; rfl
              · have := hlt2.out; omega
              · have h1 := hFA.out
                have h2 := hlt2.out
                exact burst_flip HBu.out h2.1 (fun h => by have := h1.1 h; omega) (fun _ => by omega)
              · rw [hv]
                have h1 := HF1.out.set q hql (x.getD q 0 ^^^ UInt8.ofBitVec (BitVec.twoPow 8 m))
                have e : flipAt x i = x.set q (x.getD q 0 ^^^ UInt8.ofBitVec (BitVec.twoPow 8 m)) := by rw [hq.out, hm.out]; rfl
                rw [e]
                exact h1.step rfl
              · exact below_drew1 (HB3.out.setCell hg _)
          · have hb1 : (Go.bits .and .u32 (a2 / 2 ^ min j 32) 1 == 1) = false := beq_eq_false_iff_ne.2 hbit
            clear hbit
            go_wp2
            refine ⟨⟨i + 1, ch, x, rfl, ?_, ?_, ⟨burst_skip HBu.out⟩, HF1, HB3⟩, ?_⟩
            · rw [wrap64_id (by have := hlt2.out; have := hFA.out.2.1; omega) (by have := hlt2.out; have := hFA.out.2.1; omega)]; rfl
            · have := hlt2.out; omega
            · have h := hlt2.out; have := hFA.out.2.1
              rw [wrap64_id (by omega) (by omega)]
              simp only [intOf]
              omega
        · obtain ⟨u, hu, hui⟩ : ∃ u : Nat, (if (Z : Int) < (a : Int) + 32 then (Z : Int) else (a : Int) + 32) = (u : Int) ∧ u ≤ i := by
            by_cases h : (Z : Int) < (a : Int) + 32
            · exact ⟨Z, by rw [if_pos h], by omega⟩
            · exact ⟨a + 32, by rw [if_neg h]; omega, by omega⟩
          have hmn : ((i : Int) < (u : Int)) = False := by simp; omega
          have hxl := HBu.out.2.1
          have hst : (convert 22 9 (.slice (some ⟨g, 0, none⟩) (l.length + 4) cp)).run Try.prog wr = .ok (.string (B x)) wr := by
            have h1 := string_of_reads (P := Try.prog) (c := cp) Try.underlying22 hu5 Try.underlying9 (HF1.out.reads (by omega))
            rw [strOf_B, hxl] at h1
            exact h1
          have hop := brq_open l x hl hxl
          have hend := burst_end HBu.out
          clear hxl hui hlt hfa
          cases ch
          case false =>
            rw [if_pos (hend.2 rfl)] at hop
            have hop2 := Aside0.mk hop
            clear hop hend
            go_wp2_with fail
            refine (crc_Open.calls (B x) _ _ _ hop2.out).mono ?_
            rintro e w6 ⟨rfl, hb6⟩
            have HB6 := Aside0.mk (below_step HB3.out hb6)
            clear HB3 hb6
            go_wp2
            go_ret
            exact ⟨rfl, HB6.out⟩
          case true =>
            rw [if_neg (fun h => by cases hend.1 h)] at hop
            have hop2 := Aside0.mk hop
            clear hop hend
            go_wp2_with fail
            refine (crc_Open.calls (B x) _ _ _ hop2.out).mono ?_
            rintro e w6 ⟨rfl, hb6⟩
            have HB6 := Aside0.mk (below_step HB3.out hb6)
            clear HB3 hb6
            go_wp2
            go_ret
            exact ⟨rfl, HB6.out⟩
    case neg =>
      have hpos : 0 < l.length := List.length_pos_iff.2 hne
      have hem : (B l).toList.isEmpty = false := by rw [B_toList]; simpa using hne
      clear hne
      go_wp2_with fail
      have e1 : wrap64 (8 * ((B l).size : Int)) = ((8 * l.length : Nat) : Int) := by rw [size_B, wrap64_id (by omega) (by omega)]; omega
      have e3 : wrap64 (wrap64 (8 * ((B l).size : Int))) = ((8 * l.length : Nat) : Int) := by rw [e1, wrap64_id (by omega) (by omega)]
      simp only [e3]
      simp only [e1]
      obtain ⟨d, hd⟩ : ∃ d : Bool, d = true := ⟨_, rfl⟩
      obtain ⟨Z, hZ⟩ : ∃ Z : Nat, Z = 8 * l.length := ⟨_, rfl⟩
      rw [← hZ]
      clear e1 e3
      have hFZ : Aside0 ((d = false → 8 * l.length ≤ 0) ∧ (d = true → Z ≤ 8 * l.length) ∧ Z ≤ 8 * (l.length + 4) ∧ 0 < Z ∧ Z ≤ 9000) := ⟨by refine ⟨fun h => ?_, fun h => ?_, ?_, ?_, ?_⟩ <;> first | omega | (rw [hd] at h; cases h)⟩
      clear hZ hd
      clear hem
      obtain ⟨r, hr, hwi0⟩ := brq_within a1 (Z) (by have := hFZ.out; omega) (by have := hFZ.out; omega)
      have hwi := Aside0.mk hwi0
      clear hwi0
      refine (patchbaykeep1_within.calls a1 _ _ _ hwi.out).mono ?_
      rintro e w5 ⟨rfl, ⟨nd, rfl⟩⟩
      have HB5 := Aside0.mk (pw_below_drewN HB4.out nd)
      clear HB4
      obtain ⟨a, ha⟩ : ∃ a : Nat, Aside0 (a = 0 + r ∧ r < Z) := ⟨0 + r, ⟨rfl, hr⟩⟩
      have ea : wrap64 ((r : Int)) = (a : Int) := by have := ha.out; have := hFZ.out; rw [wrap64_id (by omega) (by omega)]; omega
      have hba : Aside0 (Burst l d a a (sealL l) false) := ⟨burst_start l d a (fun h => by have := ha.out; have := hFZ.out.1 h; omega)⟩
      have hFA : Aside0 ((d = true → Z ≤ 8 * l.length) ∧ Z ≤ 8 * (l.length + 4) ∧ a < Z) := ⟨hFZ.out.2.1, hFZ.out.2.2.1, by have := ha.out; have := hFZ.out; omega⟩
      clear ha hr hwi
      generalize w4.drewN nd = W5 at HB5 ⊢
      have HC := fun W => Lib.run_convert_string_bytes (P := Try.prog) W 9 22 5 (B (sealL l)) hu9 hub hu5
      have HB6 := Aside0.mk (below_bytesWorld HB5.out HB5.out.size 5 (B (sealL l)))
      have HF := Aside0.mk (FzBytes.made W5 5 (B (sealL l)))
      have hg : w.heap.size ≤ W5.heap.size := HB5.out.size
      clear HB5
      go_wp2
      rw [B_data] at HF
      generalize Lib.bytesWorld W5 5 (B (sealL l)) = W at HB6 HF ⊢
      generalize grownCap W5 (B (sealL l)).size 0 5 = cp
      generalize W5.heap.size = g at HF hg ⊢
      have hsz : (B (sealL l)).size = l.length + 4 := by rw [size_B, sealL, List.length_append, trail_length]
      simp only [hsz, ea]
      clear HC hu9 hub ea hsz hFZ hworks hcut hseal hopen
      go_loopw [15, 16] (fun v15 v16 wr => ∃ (i : Nat) (ch : Bool) (x : List UInt8), v15 = .bool ch ∧ v16 = .int .i64 i ∧ i ≤ Z ∧ Aside0 (Burst l d a i x ch) ∧ Aside0 (FzBytes wr g 5 x) ∧ Aside0 (Below w.heap.size w wr)) (fun _ v16 _ => Z - (intOf v16).toNat)
      case atStart => exact ⟨a, false, sealL l, rfl, rfl, by have := hFA.out; omega, hba, HF, HB6⟩
      case round =>
        obtain ⟨i, ch, x, rfl, rfl, hiZ, HBu, HF1, HB3⟩ := hrel
        clear HF HB6 hba
        have hfa := hFA.out
        have e32 : wrap64 ((a : Int) + 32) = (a : Int) + 32 := by rw [wrap64_id (by omega) (by omega)]
        by_cases hlt : i < a + 32 ∧ i < Z
        · obtain ⟨u, hu, hui⟩ : ∃ u : Nat, (if (Z : Int) < (a : Int) + 32 then (Z : Int) else (a : Int) + 32) = (u : Int) ∧ i < u := by
            by_cases h : (Z : Int) < (a : Int) + 32
            · exact ⟨Z, by rw [if_pos h], by omega⟩
            · exact ⟨a + 32, by rw [if_neg h]; omega, by omega⟩
          have hmn : ((i : Int) < (u : Int)) = True := by simp; omega
          obtain ⟨j, hj⟩ : ∃ j : Nat, Aside0 (i = a + j) := ⟨i - a, ⟨by have := HBu.out.1; omega⟩⟩
          have esub : wrap64 ((i : Int) - (a : Int)) = (j : Int) := by have := hj.out; rw [wrap64_id (by omega) (by omega)]; omega
          have h0j : ((0 : Int) ≤ (j : Int)) = True := by simp
          have h0i : ((0 : Int) ≤ (i : Int)) = True := by simp
          have hlt2 := Aside0.mk hlt
          obtain ⟨q, hq⟩ : ∃ q : Nat, Aside0 (q = i / 8) := ⟨_, ⟨rfl⟩⟩
          obtain ⟨m, hm⟩ : ∃ m : Nat, Aside0 (m = i % 8) := ⟨_, ⟨rfl⟩⟩
          have eq1 : wrap64 ((i : Int) / 8) = (q : Int) := by have := hq.out; rw [wrap64_id (by omega) (by omega)]; omega
          have em1 : wrap64 ((i : Int) % 8) = (m : Int) := by have := hm.out; rw [wrap64_id (by omega) (by omega)]; omega
          have em2 : (i : Int) % 8 = (m : Int) := by have := hm.out; omega
          have h0q : ((0 : Int) ≤ (q : Int)) = True := by simp
          have h0m : ((0 : Int) ≤ (m : Int)) = True := by simp
          have hxl : x.length = l.length + 4 := HBu.out.2.1
          have hql : q < x.length := by have := hq.out; omega
          have hc := HF1.out.cell q hql
          have hfz := HF1.out.free q hql
          have hqi : ((q : Int) < (l.length : Int) + 4) = True := by simp; omega
          clear hlt hfa
          by_cases hbit : Go.bits .and .u32 (a2 / 2 ^ min j 32) 1 = 1
          · have hb1 : (Go.bits .and .u32 (a2 / 2 ^ min j 32) 1 == 1) = true := by rw [hbit]; rfl
            clear hbit
            go_wp2
            go_region
            go_wp2
            go_roundw
            case measure =>
              have h := hlt2.out; have := hFA.out.2.1
              rw [wrap64_id (by omega) (by omega)]
              simp only [intOf]
              omega
            case rel =>
              have hv : Go.bits .xor .u8 (((x[q]?.getD 0).toNat : Nat) : Int) (2 ^ m % 256) = ((x.getD q 0 ^^^ UInt8.ofBitVec (BitVec.twoPow 8 m)).toNat : Int) := by
                rw [← xor_u8, List.getD_eq_getElem?_getD]
                congr 1
                have e : (UInt8.ofBitVec (BitVec.twoPow 8 m)).toNat = 2 ^ m % 256 := BitVec.toNat_twoPow 8 m
                rw [e]
                simp
              refine ⟨i + 1, true, flipAt x i, rfl, ?_, ?_, ⟨?_⟩, ⟨?_⟩, ⟨?_⟩⟩
              · rw [wrap64_id (by have := hlt2.out; have := hFA.out.2.1; omega) (by have := hlt2.out; have := hFA.out.2.1; omega)]; rfl
              · have := hlt2.out; omega
              · have h1 := hFA.out
                have h2 := hlt2.out
                exact burst_flip HBu.out h2.1 (fun h => by have := h1.1 h; omega) (fun _ => by omega)
              · rw [hv]
                have h1 := HF1.out.set q hql (x.getD q 0 ^^^ UInt8.ofBitVec (BitVec.twoPow 8 m))
                have e : flipAt x i = x.set q (x.getD q 0 ^^^ UInt8.ofBitVec (BitVec.twoPow 8 m)) := by rw [hq.out, hm.out]; rfl
                rw [e]
                exact h1.step rfl
              · exact below_drew1 (HB3.out.setCell hg _)
          · have hb1 : (Go.bits .and .u32 (a2 / 2 ^ min j 32) 1 == 1) = false := beq_eq_false_iff_ne.2 hbit
            clear hbit
            go_wp2
            refine ⟨⟨i + 1, ch, x, rfl, ?_, ?_, ⟨burst_skip HBu.out⟩, HF1, HB3⟩, ?_⟩
            · rw [wrap64_id (by have := hlt2.out; have := hFA.out.2.1; omega) (by have := hlt2.out; have := hFA.out.2.1; omega)]; rfl
            · have := hlt2.out; omega
            · have h := hlt2.out; have := hFA.out.2.1
              rw [wrap64_id (by omega) (by omega)]
              simp only [intOf]
              omega
        · obtain ⟨u, hu, hui⟩ : ∃ u : Nat, (if (Z : Int) < (a : Int) + 32 then (Z : Int) else (a : Int) + 32) = (u : Int) ∧ u ≤ i := by
            by_cases h : (Z : Int) < (a : Int) + 32
            · exact ⟨Z, by rw [if_pos h], by omega⟩
            · exact ⟨a + 32, by rw [if_neg h]; omega, by omega⟩
          have hmn : ((i : Int) < (u : Int)) = False := by simp; omega
          have hxl := HBu.out.2.1
          have hst : (convert 22 9 (.slice (some ⟨g, 0, none⟩) (l.length + 4) cp)).run Try.prog wr = .ok (.string (B x)) wr := by
            have h1 := string_of_reads (P := Try.prog) (c := cp) Try.underlying22 hu5 Try.underlying9 (HF1.out.reads (by omega))
            rw [strOf_B, hxl] at h1
            exact h1
          have hop := brq_open l x hl hxl
          have hend := burst_end HBu.out
          clear hxl hui hlt hfa
          cases ch
          case false =>
            rw [if_pos (hend.2 rfl)] at hop
            have hop2 := Aside0.mk hop
            clear hop hend
            go_wp2_with fail
            refine (crc_Open.calls (B x) _ _ _ hop2.out).mono ?_
            rintro e w6 ⟨rfl, hb6⟩
            have HB6 := Aside0.mk (below_step HB3.out hb6)
            clear HB3 hb6
            go_wp2
            go_ret
            exact ⟨rfl, HB6.out⟩
          case true =>
            rw [if_neg (fun h => by cases hend.1 h)] at hop
            have hop2 := Aside0.mk hop
            clear hop hend
            go_wp2_with fail
            refine (crc_Open.calls (B x) _ _ _ hop2.out).mono ?_
            rintro e w6 ⟨rfl, hb6⟩
            have HB6 := Aside0.mk (below_step HB3.out hb6)
            clear HB3 hb6
            go_wp2
            go_ret
            exact ⟨rfl, HB6.out⟩

end Go.Proofs.Ytbaogajiogaogaa.M
