/- Written by wip/myprint.py of this repository (a driver over the kit's print; no print of print.sh) for the seat YtdfkejjgmippfaaDoor: contracts of functions and rows of laws, each stated whole in its theorem; no condition beside those in the statements. -/
import Derived.Test.YtdfkejjgmippfaaDoorM0
import Derived.Test.YtdfkejjgmippfaaDoorM2
namespace Go.Proofs.YtdfkejjgmippfaaDoor.M
open Go.RowKit Go.Proofs.YtdfkejjgmippfaaDoorW.PrintWords Go.Proofs.YtdfkejjgmippfaaDoorW.PrintLast Go.Proofs.YtdfkejjgmippfaaDoorW.PrintMore
attribute [local go_sem] max2_int min2_int max_two min_two max_three min_three max_four min_four   -- for this text's walks alone
set_option linter.unusedVariables false
set_option linter.unusedSimpArgs false

/-! ### crc_Sum: function 28 -/
theorem crcq_bits_u32 (o) (a b : BitVec 32) (f : BitVec 32 → BitVec 32 → BitVec 32) (h : ∀ x y : Int, Go.bits o .u32 x y = IntKind.u32.wrap ((f (BitVec.ofInt 32 x) (BitVec.ofInt 32 y)).toNat : Int)) :
    Go.bits o .u32 (a.toNat : Int) (b.toNat : Int) = ((f a b).toNat : Int) := by
  rw [h]
  have := (f a b).isLt
  simp only [BitVec.ofInt_natCast, BitVec.ofNat_toNat, BitVec.setWidth_eq]
  rw [IntKind.wrap_u32]
  omega
theorem crcq_bits_xor_u32 (a b : BitVec 32) : Go.bits .xor .u32 (a.toNat : Int) (b.toNat : Int) = ((a ^^^ b).toNat : Int) := crcq_bits_u32 .xor a b (· ^^^ ·) (fun _ _ => rfl)
theorem crcq_bits_and_u32 (a b : BitVec 32) : Go.bits .and .u32 (a.toNat : Int) (b.toNat : Int) = ((a &&& b).toNat : Int) := crcq_bits_u32 .and a b (· &&& ·) (fun _ _ => rfl)

theorem crcq_half_f (c : BitVec 32) : crc_half.f (c.toNat : Int) = some ((Crc.half c).toNat : Int) := by
  unfold crc_half.f Crc.half
  have h1 : Go.bits .and .u32 (c.toNat : Int) 1 = ((c &&& 1#32).toNat : Int) := crcq_bits_and_u32 c 1#32
  have h2 : ∀ x : Int, x = (c.toNat : Int) → x / (2 : Int) = ((c >>> 1).toNat : Int) := by
    intro x hx
    rw [BitVec.toNat_ushiftRight, Nat.shiftRight_eq_div_pow]; omega
  have h3 : Go.bits .xor .u32 ((c >>> 1).toNat : Int) 3988292384 = ((c >>> 1 ^^^ 3988292384#32).toNat : Int) := crcq_bits_xor_u32 (c >>> 1) 3988292384#32
  have h4 : (c &&& 1#32).toNat = if c.getLsbD 0 then 1 else 0 := by
    rw [BitVec.toNat_and]
    simp only [BitVec.toNat_ofNat, BitVec.getLsbD, Nat.testBit_zero, Nat.reducePow, Nat.reduceMod]
    rw [Nat.and_one_is_mod]
    by_cases h : c.toNat % 2 = 1 <;> simp [h]; omega
  rw [h1, h4]
  by_cases h : c.getLsbD 0
  · rw [if_pos h, if_pos (by rfl), if_pos h, h2 _ rfl, h3]
  · rw [if_neg h, if_neg (by decide), if_neg h, h2 _ rfl]

theorem crcq_half_q (c : BitVec 32) (w : World) : Calls Tryd.prog 30 #[.int .u32 (c.toNat : Int)] w fun e w' => e = .returned (.int .u32 ((Crc.half c).toNat : Int)) ∧ Drawn0 w w' :=
  crc_half.calls _ _ w (crcq_half_f c)

def crcq_Z : Array Value := Array.replicate 256 (.int .u32 0)
theorem crcq_zero_run (w : World) : (zeroValue 49).run Tryd.prog w = .ok (.agg crcq_Z) w := by kernel_rfl
theorem crcq_info49 : (Tryd.prog.info? 49).map (·.size) = some 256 := by kernel_rfl
def crcq_rowAt (k : Nat) : Array Value := ((List.range 256).map fun j => Value.int .u32 (if j < k then ((Crc.tab j).toNat : Int) else 0)).toArray

theorem crcq_size_rowAt (k : Nat) : (crcq_rowAt k).size = 256 := by simp [crcq_rowAt]
theorem crcq_size_Z : crcq_Z.size = (crcq_rowAt 256).size := by simp [crcq_Z, crcq_rowAt]
theorem crcq_rowAt_zero : crcq_rowAt 0 = crcq_Z := by
  unfold crcq_rowAt crcq_Z
  apply Array.ext
  · simp
  · intro i h1 h2
    simp
theorem crcq_rowAt_get (k i : Nat) (h : i < 256) : (crcq_rowAt k)[i]? = some (Value.int .u32 (if i < k then ((Crc.tab i).toNat : Int) else 0)) := by
  simp [crcq_rowAt, h]
theorem crcq_rowAt_succ (k : Nat) (hk : k < 256) : (crcq_rowAt k).setIfInBounds k (.int .u32 ((Crc.tab k).toNat : Int)) = crcq_rowAt (k + 1) := by
  apply Array.ext_getElem?
  intro i
  rw [Array.getElem?_setIfInBounds]
  by_cases h : k = i
  · subst h; rw [if_pos rfl, crcq_size_rowAt, if_pos hk, crcq_rowAt_get _ _ hk, if_pos (by omega)]
  · rw [if_neg h]
    by_cases h2 : i < 256
    · rw [crcq_rowAt_get _ _ h2, crcq_rowAt_get _ _ h2]
      by_cases h3 : i < k
      · rw [if_pos h3, if_pos (by omega)]
      · rw [if_neg h3, if_neg (by omega)]
    · rw [Array.getElem?_eq_none (by rw [crcq_size_rowAt]; omega), Array.getElem?_eq_none (by rw [crcq_size_rowAt]; omega)]
theorem crcq_all_rowAt (k : Nat) : (crcq_rowAt k).all (·.oneCell') = true := by
  rw [Array.all_eq_true_iff_forall_mem]
  intro v hv
  simp only [crcq_rowAt, List.mem_toArray, List.mem_map] at hv
  obtain ⟨j, _, rfl⟩ := hv
  rfl
theorem crcq_wrap_u32_lit (k : Nat) (_hk : k < 256) : IntKind.u32.wrap (k : Int) = ((BitVec.ofNat 32 k).toNat : Int) := by
  rw [IntKind.wrap_u32, BitVec.toNat_ofNat]; omega

set_option maxHeartbeats 8000000 in
set_option maxRecDepth 100000 in
theorem crcq_table_calls (w : World) : Calls Tryd.prog 29 #[] w fun e w' => e = .returned (.agg (crcq_rowAt 256)) ∧ Below w.heap.size w w' := by
  have hu := Tryd.underlying49
  have hz := crcq_zero_run
  have HB := Aside0.mk (Below.refl w.heap.size w)
  go_enter Tryd.func29, Tryd.ntmps29
  go_wp2
  go_loopw [3] (fun v3 wr => ∃ k : Nat, k ≤ 256 ∧ v3 = .int .i64 k ∧ Aside0 (wr.heap[w.heap.size]? = some (.cells (crcq_rowAt k) 49 (0, 0))) ∧ Aside0 (Below w.heap.size w wr)) (fun v3 _ => 256 - (intOf v3).toNat)
  case atStart => exact ⟨0, by omega, rfl, ⟨by rw [crcq_rowAt_zero]; exact heap_alloc_new _ _⟩, ⟨below_alloc HB.out _⟩⟩
  case round =>
    obtain ⟨k, hk, rfl, HC, HW⟩ := hrel
    clear HB
    by_cases hlt : k < 256
    · have hb : decide ((k : Int) < 256) = true := by simp; omega
      go_wp2
      go_loopw [2, 8] (fun v2 v8 wq => ∃ j : Nat, j ≤ 8 ∧ v8 = .int .i64 j ∧ v2 = .int .u32 ((Crc.halfs j (BitVec.ofNat 32 k)).toNat : Int) ∧ Aside0 (wq.heap[w.heap.size]? = some (.cells (crcq_rowAt k) 49 (0, 0))) ∧ Aside0 (Below w.heap.size w wq)) (fun _ v8 _ => 8 - (intOf v8).toNat)
      case atStart => exact ⟨0, by omega, rfl, by rw [Crc.halfs, ← crcq_wrap_u32_lit k hlt, IntKind.wrap_u32]; congr 1; omega, HC, HW⟩
      case round =>
        obtain ⟨j, hj, rfl, rfl, HC2, HW2⟩ := hrel
        clear HC HW
        by_cases hl : j < 8
        · go_wp2_with (go_at_call 30; refine (crcq_half_q _ _).mono ?_; rintro e w' ⟨rfl, ⟨n, rfl⟩⟩)
          go_roundw
          case rel => exact ⟨j + 1, by omega, by go_num, rfl, HC2, ⟨pw_below_drewN HW2.out n⟩⟩
          case measure => simp [intOf]; omega
        · obtain rfl : j = 8 := by omega
          have hc := (cell_of_row wr w.heap.size k (crcq_rowAt k) 49 (0, 0) HC2.out).trans (crcq_rowAt_get k k hlt)
          have hf := frozen_of_row wr w.heap.size k (crcq_rowAt k) 49 HC2.out
          go_wp2
          go_roundw
          case rel => exact ⟨k + 1, by omega, by go_num, ⟨(heap_setCell_same wr w.heap.size k (crcq_rowAt k) 49 _ HC2.out).trans (by rw [← crcq_rowAt_succ k hlt]; rfl)⟩, ⟨HW2.out.setCell (Nat.le_refl _) _⟩⟩
          case measure => simp [intOf]; omega
    · have HE : Aside0 (crcq_rowAt k = crcq_rowAt 256) := ⟨by rw [show k = 256 by omega]⟩
      have hi := crcq_info49
      go_wp2_with (first | (refine wpList_load_row rfl 49 (.tmp 0) rfl w.heap.size rfl 49 (crcq_rowAt k) (0, 0) _ HC.out hu rfl (by rw [hi, crcq_size_rowAt]) ?_) | (refine wpList_store_row rfl 49 (.tmp 0) (.tmp 17) rfl w.heap.size (crcq_rowAt k) rfl rfl 49 (crcq_rowAt k) HC.out (by rw [hi, crcq_size_rowAt]) rfl (crcq_all_rowAt k) ?_))
      refine bodyPost_ret (v := .agg (crcq_rowAt k)) (results_cell_row Tryd.results29 _ _ w.heap.size 49 (crcq_rowAt k) (0, 0) _ rfl (setRow_heap wr w.heap.size (crcq_rowAt k) _ 49 _ HC.out) hu rfl (by rw [hi, crcq_size_rowAt])) rfl ⟨by rw [HE.out], below_setRow HW.out (Nat.le_refl _) _⟩

theorem crcq_bits_xor_u8 (a b : BitVec 8) : Go.bits .xor .u8 (a.toNat : Int) (b.toNat : Int) = ((a ^^^ b).toNat : Int) := by
  have h : ∀ x y : Int, Go.bits .xor .u8 x y = IntKind.u8.wrap ((BitVec.ofInt 8 x ^^^ BitVec.ofInt 8 y).toNat : Int) := fun _ _ => rfl
  rw [h]
  have := (a ^^^ b).isLt
  simp only [BitVec.ofInt_natCast, BitVec.ofNat_toNat, BitVec.setWidth_eq]
  rw [IntKind.wrap_u8]
  omega
theorem crcq_not_eq (c : BitVec 32) : Go.bits .xor .u32 IntKind.u32.max (c.toNat : Int) = ((~~~ c).toNat : Int) := by
  have h := crcq_bits_xor_u32 4294967295#32 c
  have e : 4294967295#32 ^^^ c = ~~~ c := by
    rw [show 4294967295#32 = BitVec.allOnes 32 from rfl, BitVec.allOnes_xor]
  rw [e] at h
  exact h
theorem crcq_take_snoc' (s : ByteArray) (k : Nat) (h : k < s.size) : s.data.toList.take (k + 1) = s.data.toList.take k ++ [s[k]] := by
  rw [List.take_succ_eq_append_getElem (by simpa using h)]; rfl
theorem crcq_idx_eq (c : BitVec 32) (b : UInt8) : Go.bits .xor .u8 ((c.toNat : Int) % 256) (b.toNat : Int) = ((Crc.idx c b : Nat) : Int) := by
  have h1 : (c.toNat : Int) % 256 = ((c.truncate 8).toNat : Int) := by
    rw [BitVec.truncate_eq_setWidth, BitVec.toNat_setWidth]; omega
  rw [h1]
  exact crcq_bits_xor_u8 _ b.toBitVec
theorem crcq_step_eq (c : BitVec 32) (b : UInt8) : Go.bits .xor .u32 ((c.toNat : Int) / 256) ((Crc.tab (Crc.idx c b)).toNat : Int) = ((Crc.step c b).toNat : Int) := by
  have h1 : (c.toNat : Int) / (256 : Int) = ((c >>> 8).toNat : Int) := by
    rw [BitVec.toNat_ushiftRight, Nat.shiftRight_eq_div_pow]; omega
  rw [h1]
  exact crcq_bits_xor_u32 _ _
set_option maxHeartbeats 8000000 in
set_option maxRecDepth 100000 in
theorem crcq_sum_calls (a0 : ByteArray) (w : World) (hs : a0.size ≤ 9223372036854775807) : Calls Tryd.prog 28 #[.string a0] w fun e w' => e = .returned (.int .u32 ((Crc.sumL a0.data.toList).toNat : Int)) ∧ Below w.heap.size w w' := by
  have hu := Tryd.underlying49
  have hz := crcq_zero_run
  have HB := Aside0.mk (Below.refl w.heap.size w)
  go_enter Tryd.func28, Tryd.ntmps28
  go_wp2_with fail
  refine (crcq_table_calls _).mono ?_
  rintro e w1 ⟨rfl, HB1⟩
  have hi := crcq_info49
  go_wp2_with (first | (refine wpList_store_row rfl 49 (.tmp 4) (.tmp 6) rfl w1.heap.size (crcq_rowAt 256) rfl rfl 49 crcq_Z (heap_alloc_new _ _) (by rw [hi, crcq_size_rowAt]) crcq_size_Z (crcq_all_rowAt 256) ?_))
  have HG : Aside0 (((w1.alloc (.cells crcq_Z 49)).setRow w1.heap.size (crcq_rowAt 256)).heap[w1.heap.size]? = some (.cells (crcq_rowAt 256) 49 (0, 0))) := ⟨setRow_heap _ _ _ _ _ _ (heap_alloc_new _ _)⟩
  have HB2 : Aside0 (Below w.heap.size w ((w1.alloc (.cells crcq_Z 49)).setRow w1.heap.size (crcq_rowAt 256))) := ⟨below_setRow (HB1.alloc HB1.size _) HB1.size _⟩
  generalize ((w1.alloc (.cells crcq_Z 49)).setRow w1.heap.size (crcq_rowAt 256)) = W at *
  generalize w1.heap.size = g at *
  clear HB1 HB hi
  go_wp2
  go_loop [3, 9] (fun v3 v9 => ∃ k : Nat, k ≤ a0.size ∧ v9 = .int .i64 k ∧ v3 = .int .u32 (((a0.data.toList.take k).foldl Crc.step (~~~ 0#32)).toNat : Int)) (fun _ v9 => a0.size - (intOf v9).toNat)
  case atStart => exact ⟨0, by omega, rfl, rfl⟩
  case round =>
    obtain ⟨k, hk, rfl, rfl⟩ := hrel
    obtain ⟨c, hc0⟩ : ∃ c, (a0.data.toList.take k).foldl Crc.step (~~~ 0#32) = c := ⟨_, rfl⟩
    rw [hc0]
    have HC0 := Aside0.mk hc0
    clear hc0
    by_cases hlt : k < a0.size
    · have hx := crcq_idx_eq c a0[k]
      have hlx : Crc.idx c a0[k] < 256 := Crc.idx_lt c a0[k]
      have hxb : 0 ≤ ((Crc.idx c a0[k] : Nat) : Int) := by omega
      have hc := (cell_of_row W g (Crc.idx c a0[k]) (crcq_rowAt 256) 49 (0, 0) HG.out).trans (crcq_rowAt_get 256 _ hlx)
      rw [if_pos hlx] at hc
      have HF : Aside0 (Go.bits .xor .u32 ((c.toNat : Int) / 256) ((Crc.tab (Crc.idx c a0[k])).toNat : Int) = ((Crc.step c a0[k]).toNat : Int)) := ⟨crcq_step_eq c a0[k]⟩
      have HT : Aside0 ((a0.data.toList.take (k + 1)).foldl Crc.step (~~~ 0#32) = Crc.step c a0[k]) := ⟨by rw [crcq_take_snoc' a0 k hlt, List.foldl_append, HC0.out]; rfl⟩
      go_wp2
      go_round
      case rel => exact ⟨k + 1, by omega, by go_num, by rw [HT.out, HF.out]⟩
      case measure => simp [intOf]; omega
    · have HL : Aside0 (Crc.sumL a0.data.toList = ~~~ c) := ⟨by rw [Crc.sumL, ← HC0.out, List.take_of_length_le (by simp; omega)]⟩
      go_wp2
      go_ret
      exact ⟨by rw [HL.out, ← crcq_not_eq]; rfl, HB2.out⟩
def crc_Sum.f (a0 : ByteArray) : Option (Int) := if a0.size ≤ 9223372036854775807 then some ((Crc.sumL a0.data.toList).toNat : Int) else none
theorem crc_Sum.calls (a0 : ByteArray) (r : Int) (w : World) (h : crc_Sum.f a0 = some r) :
    Calls Tryd.prog 28 #[.string a0] w fun e w' => e = .returned (.int .u32 r) ∧ Below w.heap.size w w' := by
  unfold crc_Sum.f at h
  by_cases hs : a0.size ≤ 9223372036854775807
  · rw [if_pos hs] at h
    obtain rfl := Option.some.inj h
    exact crcq_sum_calls a0 w hs
  · rw [if_neg hs] at h
    exact absurd h (by simp)

/-! ### crc_Seal: function 24 -/
def crc_Seal.f (a0 : ByteArray) : Option (ByteArray) := (crc_Sum.f a0).bind fun t123 => ((some (([(t123 / 16777216) % 256, (t123 / 65536) % 256, (t123 / 256) % 256, (t123) % 256] : List Int) : List Int)).bind fun y124 => (if a0.size + (strOfNums y124).size ≤ 9223372036854775807 then (some (a0 ++ (strOfNums y124))) else (none)))
set_option maxHeartbeats 8000000 in
set_option maxRecDepth 100000 in
theorem crc_Seal.calls (a0 : ByteArray) (r : ByteArray) (w : World) (h : crc_Seal.f a0 = some r) :
    Calls Tryd.prog 24 #[.string a0] w fun e w' => e = .returned (.string r) ∧ Below w.heap.size w w' := by
  have HB := Aside0.mk (Below.refl w.heap.size w)
  have H : ((crc_Sum.f a0).bind fun t123 => ((some (([(t123 / 16777216) % 256, (t123 / 65536) % 256, (t123 / 256) % 256, (t123) % 256] : List Int) : List Int)).bind fun y124 => (if a0.size + (strOfNums y124).size ≤ 9223372036854775807 then (some (a0 ++ (strOfNums y124))) else (none)))) = some r := h
  clear h
  replace H := Option.bind_eq_some_iff.mp H
  obtain ⟨t123, A20, H⟩ := H
  replace H : ((some (([(t123 / 16777216) % 256, (t123 / 65536) % 256, (t123 / 256) % 256, (t123) % 256] : List Int) : List Int)).bind fun y124 => (if a0.size + (strOfNums y124).size ≤ 9223372036854775807 then (some (a0 ++ (strOfNums y124))) else (none))) = some r := H
  have A2 := Aside0.mk A20
  clear A20
  obtain ⟨y124, hy124⟩ : ∃ y_ : List Int, y_ = (([(t123 / 16777216) % 256, (t123 / 65536) % 256, (t123 / 256) % 256, (t123) % 256] : List Int)) := ⟨_, rfl⟩
  replace H : (if a0.size + (strOfNums y124).size ≤ 9223372036854775807 then (some (a0 ++ (strOfNums y124))) else (none)) = some r := by first | (rw [hy124]; with_reducible exact H) | (have H2_ := (Option.bind_some _ _).symm.trans H; rw [hy124]; with_reducible exact H2_) | (have H2_ := (Option.bind_some _ _).symm.trans H; with_reducible exact H2_) | with_reducible exact H | (rw [hy124]; exact H) | exact H
  have Ny124 := Aside0.mk hy124
  clear hy124
  by_cases c3 : a0.size + (strOfNums y124).size ≤ 9223372036854775807
  · rw [if_pos c3] at H
    have c3b0 := eq_true c3
    have c3b1 : decide (a0.size + (strOfNums y124).size ≤ 9223372036854775807) = true := decide_eq_true c3
    try have c3b2 : (9223372036854775807 < a0.size + (strOfNums y124).size) = False := eq_false (Nat.not_lt.2 c3)
    obtain rfl := Option.some.inj H
    go_enter Tryd.func24, Tryd.ntmps24
    go_wp2_with (first | ((with_reducible refine gate_callee (f := 28) rfl ?_); refine goesL_ (some 5) rfl rfl Tryd.func28 (by kernel_rfl) rfl #[.string a0] rfl (by (try simp only [List.map_toArray, List.map_cons, List.map_nil]); first | done | rfl | (simp only [List.length_drop, List.length_take]; rfl)) ?_; (with_reducible refine (crc_Sum.calls a0 t123 _ A2.out).mono ?_); rintro e w4 ⟨rfl, hb⟩; refine ⟨_, rfl, ?_⟩; have n0_ := Aside0.mk (below_step (by repeat (first | (with_reducible first | exact HB.out | apply below_alloc | apply pw_below_drewN | apply below_drew1) | exact HB.out)) hb); clear HB; have HB := n0_; clear n0_; (try clear hb); (try clear hb2); (try clear hk); (try clear hi)) | ((with_reducible refine gate_dst (N := 18) rfl ?_); refine Kd.R_lit (Kd.int .u8) _ 5 ?hg (N := 18) ?hd (xs := ([(t123 / 16777216) % 256, (t123 / 65536) % 256, (t123 / 256) % 256, (t123) % 256] : List Int)) (inner := [.int .u8 ((t123 / 16777216) % 256), .int .u8 ((t123 / 65536) % 256), .int .u8 ((t123 / 256) % 256), .int .u8 ((t123) % 256)]) (ok := fun _ => True) (okp := fun _ => True) ?hr ?hp (fun _ hk => hk) trivial (Below.refl _ _) (Nat.le_refl _) (by simp) ?_; (case hd => rfl); (case hg => rfl); (case hr => first | (go_simp; done) | (go_simp; rfl)); (case hp => exact (Reps.one (show Kd.M (Kd.int .u8) _ _ _ ((t123 / 16777216) % 256) [.int .u8 ((t123 / 16777216) % 256)] from rfl) (Reps.one (show Kd.M (Kd.int .u8) _ _ _ ((t123 / 65536) % 256) [.int .u8 ((t123 / 65536) % 256)] from rfl) (Reps.one (show Kd.M (Kd.int .u8) _ _ _ ((t123 / 256) % 256) [.int .u8 ((t123 / 256) % 256)] from rfl) (Reps.one (show Kd.M (Kd.int .u8) _ _ _ ((t123) % 256) [.int .u8 ((t123) % 256)] from rfl) (Reps.none _ _)))))); intro v125 w5 ho6 hb hg_ hnew_; clear hg_ hnew_; (first | rw [← Ny124.out] at ho6 | (simp only [Int.reduceToNat] at ho6; rw [← Ny124.out] at ho6)); have n0_ := Aside0.mk (Kd.R_lower ho6 (below_size (by repeat (first | (with_reducible first | exact HB.out | apply below_alloc | apply pw_below_drewN | apply below_drew1) | exact HB.out)))); have n1_ := Aside0.mk (below_step (by repeat (first | (with_reducible first | exact HB.out | apply below_alloc | apply pw_below_drewN | apply below_drew1) | exact HB.out)) hb); clear HB; have HO126 := n0_; have HB := n1_; clear n0_ n1_; clear hb ho6; have hcv7 := own_string (P := Tryd.prog) Tryd.underlying37 Tryd.underlying5 Tryd.underlying9 (Kd.own_of_R HO126.out)))
    go_ret
    exact ⟨by first | rfl | (simp [errW_none, errW_some] <;> rfl) | (simp [*, errW_none, errW_some] <;> rfl), by repeat (first | (with_reducible first | exact HB.out | apply below_alloc | apply pw_below_drewN | apply below_drew1) | exact HB.out)⟩
  · rw [if_neg c3] at H
    exact absurd H (by simp)

end Go.Proofs.YtdfkejjgmippfaaDoor.M
