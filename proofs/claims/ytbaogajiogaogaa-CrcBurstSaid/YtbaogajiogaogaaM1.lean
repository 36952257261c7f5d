/- Written by wip/myprint.py of this repository (a driver over the kit's print; no print of print.sh) for the seat Ytbaogajiogaogaa: contracts of functions and rows of laws, each stated whole in its theorem; no condition beside those in the statements. -/
import Derived.Test.YtbaogajiogaogaaM0
namespace Go.Proofs.Ytbaogajiogaogaa.M
open Go.RowKit Go.Proofs.YtbaogajiogaogaaW.PrintWords Go.Proofs.YtbaogajiogaogaaW.PrintLast Go.Proofs.YtbaogajiogaogaaW.PrintMore
attribute [local go_sem] max2_int min2_int max_two min_two max_three min_three max_four min_four   -- for this text's walks alone
set_option linter.unusedVariables false
set_option linter.unusedSimpArgs false

/-! ### crc_half: function 15 -/
def crc_half.f (a0 : Int) : Option (Int) := if (Go.bits .and .u32 a0 1) = 1 then (some (Go.bits .xor .u32 (a0 / 2) 3988292384)) else (some (a0 / 2))
set_option maxHeartbeats 8000000 in
set_option maxRecDepth 100000 in
theorem crc_half.calls (a0 : Int) (r : Int) (w : World) (h : crc_half.f a0 = some r) :
    Calls Try.prog 15 #[.int .u32 a0] w fun e w' => e = .returned (.int .u32 r) ∧ Drawn0 w w' := by
  have H : (if (Go.bits .and .u32 a0 1) = 1 then (some (Go.bits .xor .u32 (a0 / 2) 3988292384)) else (some (a0 / 2))) = some r := h
  clear h
  by_cases c2 : (Go.bits .and .u32 a0 1) = 1
  · rw [if_pos c2] at H
    have c2b0 : ((Go.bits .and .u32 a0 1) == 1) = true := beq_iff_eq.mpr c2
    have c2b1 : ((Go.bits .and .u32 a0 1) != 1) = false := bne_eq_false_iff_eq.mpr c2
    clear c2
    obtain rfl := Option.some.inj H
    go_enter Try.func15, Try.ntmps15
    go_wp2
    go_ret
    exact ⟨by first | rfl | (simp; done) | (simp [*]; done), by repeat (first | exact Drawn0.refl _ | apply Drawn0.step)⟩
  · rw [if_neg c2] at H
    have c2b0 : ((Go.bits .and .u32 a0 1) == 1) = false := beq_eq_false_iff_ne.mpr c2
    have c2b1 : ((Go.bits .and .u32 a0 1) != 1) = true := bne_iff_ne.mpr c2
    obtain rfl := Option.some.inj H
    go_enter Try.func15, Try.ntmps15
    go_wp2
    go_ret
    exact ⟨by first | rfl | (simp; done) | (simp [*]; done), by repeat (first | exact Drawn0.refl _ | apply Drawn0.step)⟩

/-! ### crc_Sum: function 7 -/
theorem crcq_bits_u32 (o) (a b : BitVec 32) (f : BitVec 32 → BitVec 32 → BitVec 32) (h : ∀ x y : Int, Go.bits o .u32 x y = IntKind.u32.wrap ((f (BitVec.ofInt 32 x) (BitVec.ofInt 32 y)).toNat : Int)) :
    Go.bits o .u32 (a.toNat : Int) (b.toNat : Int) = ((f a b).toNat : Int) := by
  rw [h]
  have := (f a b).isLt
  simp only [BitVec.ofInt_natCast, BitVec.ofNat_toNat, BitVec.setWidth_eq]
  rw [IntKind.wrap_u32]
  omega
theorem crcq_bits_xor_u32 (a b : BitVec 32) : Go.bits .xor .u32 (a.toNat : Int) (b.toNat : Int) = ((a ^^^ b).toNat : Int) := crcq_bits_u32 .xor a b (· ^^^ ·) (fun _ _ => rfl)
theorem crcq_bits_and_u32 (a b : BitVec 32) : Go.bits .and .u32 (a.toNat : Int) (b.toNat : Int) = ((a &&& b).toNat : Int) := crcq_bits_u32 .and a b (· &&& ·) (fun _ _ => rfl)

theorem crcq_half_f (c : BitVec 32) : crc_half.f (c.toNat : Int) = some ((Crc.half c).toNat : Int) := by
  unfold crc_half.f Crc.half
  have h1 : Go.bits .and .u32 (c.toNat : Int) 1 = ((c &&& 1#32).toNat : Int) := crcq_bits_and_u32 c 1#32
  have h2 : ∀ x : Int, x = (c.toNat : Int) → x / (2 : Int) = ((c >>> 1).toNat : Int) := by
    intro x hx
    rw [BitVec.toNat_ushiftRight, Nat.shiftRight_eq_div_pow]; omega
  have h3 : Go.bits .xor .u32 ((c >>> 1).toNat : Int) 3988292384 = ((c >>> 1 ^^^ 3988292384#32).toNat : Int) := crcq_bits_xor_u32 (c >>> 1) 3988292384#32
  have h4 : (c &&& 1#32).toNat = if c.getLsbD 0 then 1 else 0 := by
    rw [BitVec.toNat_and]
    simp only [BitVec.toNat_ofNat, BitVec.getLsbD, Nat.testBit_zero, Nat.reducePow, Nat.reduceMod]
    rw [Nat.and_one_is_mod]
    by_cases h : c.toNat % 2 = 1 <;> simp [h]; omega
  rw [h1, h4]
  by_cases h : c.getLsbD 0
  · rw [if_pos h, if_pos (by rfl), if_pos h, h2 _ rfl, h3]
  · rw [if_neg h, if_neg (by decide), if_neg h, h2 _ rfl]

theorem crcq_half_q (c : BitVec 32) (w : World) : Calls Try.prog 15 #[.int .u32 (c.toNat : Int)] w fun e w' => e = .returned (.int .u32 ((Crc.half c).toNat : Int)) ∧ Drawn0 w w' :=
  crc_half.calls _ _ w (crcq_half_f c)

def crcq_Z : Array Value := Array.replicate 256 (.int .u32 0)
theorem crcq_zero_run (w : World) : (zeroValue 35).run Try.prog w = .ok (.agg crcq_Z) w := by kernel_rfl
theorem crcq_info35 : (Try.prog.info? 35).map (·.size) = some 256 := by kernel_rfl
def crcq_rowAt (k : Nat) : Array Value := ((List.range 256).map fun j => Value.int .u32 (if j < k then ((Crc.tab j).toNat : Int) else 0)).toArray

theorem crcq_size_rowAt (k : Nat) : (crcq_rowAt k).size = 256 := by simp [crcq_rowAt]
theorem crcq_size_Z : crcq_Z.size = (crcq_rowAt 256).size := by simp [crcq_Z, crcq_rowAt]
theorem crcq_rowAt_zero : crcq_rowAt 0 = crcq_Z := by
  unfold crcq_rowAt crcq_Z
  apply Array.ext
  · simp
  · intro i h1 h2
    simp
theorem crcq_rowAt_get (k i : Nat) (h : i < 256) : (crcq_rowAt k)[i]? = some (Value.int .u32 (if i < k then ((Crc.tab i).toNat : Int) else 0)) := by
  simp [crcq_rowAt, h]
theorem crcq_rowAt_succ (k : Nat) (hk : k < 256) : (crcq_rowAt k).setIfInBounds k (.int .u32 ((Crc.tab k).toNat : Int)) = crcq_rowAt (k + 1) := by
  apply Array.ext_getElem?
  intro i
  rw [Array.getElem?_setIfInBounds]
  by_cases h : k = i
  · subst h; rw [if_pos rfl, crcq_size_rowAt, if_pos hk, crcq_rowAt_get _ _ hk, if_pos (by omega)]
  · rw [if_neg h]
    by_cases h2 : i < 256
    · rw [crcq_rowAt_get _ _ h2, crcq_rowAt_get _ _ h2]
      by_cases h3 : i < k
      · rw [if_pos h3, if_pos (by omega)]
      · rw [if_neg h3, if_neg (by omega)]
    · rw [Array.getElem?_eq_none (by rw [crcq_size_rowAt]; omega), Array.getElem?_eq_none (by rw [crcq_size_rowAt]; omega)]
theorem crcq_all_rowAt (k : Nat) : (crcq_rowAt k).all (·.oneCell') = true := by
  rw [Array.all_eq_true_iff_forall_mem]
  intro v hv
  simp only [crcq_rowAt, List.mem_toArray, List.mem_map] at hv
  obtain ⟨j, _, rfl⟩ := hv
  rfl
theorem crcq_wrap_u32_lit (k : Nat) (_hk : k < 256) : IntKind.u32.wrap (k : Int) = ((BitVec.ofNat 32 k).toNat : Int) := by
  rw [IntKind.wrap_u32, BitVec.toNat_ofNat]; omega

set_option maxHeartbeats 8000000 in
set_option maxRecDepth 100000 in
theorem crcq_table_calls (w : World) : Calls Try.prog 13 #[] w fun e w' => e = .returned (.agg (crcq_rowAt 256)) ∧ Below w.heap.size w w' := by
  have hu := Try.underlying35
  have hz := crcq_zero_run
  have HB := Aside0.mk (Below.refl w.heap.size w)
  go_enter Try.func13, Try.ntmps13
  go_wp2
  go_loopw [3] (fun v3 wr => ∃ k : Nat, k ≤ 256 ∧ v3 = .int .i64 k ∧ Aside0 (wr.heap[w.heap.size]? = some (.cells (crcq_rowAt k) 35 (0, 0))) ∧ Aside0 (Below w.heap.size w wr)) (fun v3 _ => 256 - (intOf v3).toNat)
  case atStart => exact ⟨0, by omega, rfl, ⟨by rw [crcq_rowAt_zero]; exact heap_alloc_new _ _⟩, ⟨below_alloc HB.out _⟩⟩
  case round =>
    obtain ⟨k, hk, rfl, HC, HW⟩ := hrel
    clear HB
    by_cases hlt : k < 256
    · have hb : decide ((k : Int) < 256) = true := by simp; omega
      go_wp2
      go_loopw [2, 8] (fun v2 v8 wq => ∃ j : Nat, j ≤ 8 ∧ v8 = .int .i64 j ∧ v2 = .int .u32 ((Crc.halfs j (BitVec.ofNat 32 k)).toNat : Int) ∧ Aside0 (wq.heap[w.heap.size]? = some (.cells (crcq_rowAt k) 35 (0, 0))) ∧ Aside0 (Below w.heap.size w wq)) (fun _ v8 _ => 8 - (intOf v8).toNat)
      case atStart => exact ⟨0, by omega, rfl, by rw [Crc.halfs, ← crcq_wrap_u32_lit k hlt, IntKind.wrap_u32]; congr 1; omega, HC, HW⟩
      case round =>
        obtain ⟨j, hj, rfl, rfl, HC2, HW2⟩ := hrel
        clear HC HW
        by_cases hl : j < 8
        · go_wp2_with (go_at_call 15; refine (crcq_half_q _ _).mono ?_; rintro e w' ⟨rfl, ⟨n, rfl⟩⟩)
          go_roundw
          case rel => exact ⟨j + 1, by omega, by go_num, rfl, HC2, ⟨pw_below_drewN HW2.out n⟩⟩
          case measure => simp [intOf]; omega
        · obtain rfl : j = 8 := by omega
          have hc := (cell_of_row wr w.heap.size k (crcq_rowAt k) 35 (0, 0) HC2.out).trans (crcq_rowAt_get k k hlt)
          have hf := frozen_of_row wr w.heap.size k (crcq_rowAt k) 35 HC2.out
          go_wp2
          go_roundw
          case rel => exact ⟨k + 1, by omega, by go_num, ⟨(heap_setCell_same wr w.heap.size k (crcq_rowAt k) 35 _ HC2.out).trans (by rw [← crcq_rowAt_succ k hlt]; rfl)⟩, ⟨HW2.out.setCell (Nat.le_refl _) _⟩⟩
          case measure => simp [intOf]; omega
    · have HE : Aside0 (crcq_rowAt k = crcq_rowAt 256) := ⟨by rw [show k = 256 by omega]⟩
      have hi := crcq_info35
      go_wp2_with (first | (refine wpList_load_row rfl 35 (.tmp 0) rfl w.heap.size rfl 35 (crcq_rowAt k) (0, 0) _ HC.out hu rfl (by rw [hi, crcq_size_rowAt]) ?_) | (refine wpList_store_row rfl 35 (.tmp 0) (.tmp 17) rfl w.heap.size (crcq_rowAt k) rfl rfl 35 (crcq_rowAt k) HC.out (by rw [hi, crcq_size_rowAt]) rfl (crcq_all_rowAt k) ?_))
      refine bodyPost_ret (v := .agg (crcq_rowAt k)) (results_cell_row Try.results13 _ _ w.heap.size 35 (crcq_rowAt k) (0, 0) _ rfl (setRow_heap wr w.heap.size (crcq_rowAt k) _ 35 _ HC.out) hu rfl (by rw [hi, crcq_size_rowAt])) rfl ⟨by rw [HE.out], below_setRow HW.out (Nat.le_refl _) _⟩

theorem crcq_bits_xor_u8 (a b : BitVec 8) : Go.bits .xor .u8 (a.toNat : Int) (b.toNat : Int) = ((a ^^^ b).toNat : Int) := by
  have h : ∀ x y : Int, Go.bits .xor .u8 x y = IntKind.u8.wrap ((BitVec.ofInt 8 x ^^^ BitVec.ofInt 8 y).toNat : Int) := fun _ _ => rfl
  rw [h]
  have := (a ^^^ b).isLt
  simp only [BitVec.ofInt_natCast, BitVec.ofNat_toNat, BitVec.setWidth_eq]
  rw [IntKind.wrap_u8]
  omega
theorem crcq_not_eq (c : BitVec 32) : Go.bits .xor .u32 IntKind.u32.max (c.toNat : Int) = ((~~~ c).toNat : Int) := by
  have h := crcq_bits_xor_u32 4294967295#32 c
  have e : 4294967295#32 ^^^ c = ~~~ c := by
    rw [show 4294967295#32 = BitVec.allOnes 32 from rfl, BitVec.allOnes_xor]
  rw [e] at h
  exact h
theorem crcq_take_snoc' (s : ByteArray) (k : Nat) (h : k < s.size) : s.data.toList.take (k + 1) = s.data.toList.take k ++ [s[k]] := by
  rw [List.take_succ_eq_append_getElem (by simpa using h)]; rfl
theorem crcq_idx_eq (c : BitVec 32) (b : UInt8) : Go.bits .xor .u8 ((c.toNat : Int) % 256) (b.toNat : Int) = ((Crc.idx c b : Nat) : Int) := by
  have h1 : (c.toNat : Int) % 256 = ((c.truncate 8).toNat : Int) := by
    rw [BitVec.truncate_eq_setWidth, BitVec.toNat_setWidth]; omega
  rw [h1]
  exact crcq_bits_xor_u8 _ b.toBitVec
theorem crcq_step_eq (c : BitVec 32) (b : UInt8) : Go.bits .xor .u32 ((c.toNat : Int) / 256) ((Crc.tab (Crc.idx c b)).toNat : Int) = ((Crc.step c b).toNat : Int) := by
  have h1 : (c.toNat : Int) / (256 : Int) = ((c >>> 8).toNat : Int) := by
    rw [BitVec.toNat_ushiftRight, Nat.shiftRight_eq_div_pow]; omega
  rw [h1]
  exact crcq_bits_xor_u32 _ _
set_option maxHeartbeats 8000000 in
set_option maxRecDepth 100000 in
theorem crcq_sum_calls (a0 : ByteArray) (w : World) (hs : a0.size ≤ 9223372036854775807) : Calls Try.prog 7 #[.string a0] w fun e w' => e = .returned (.int .u32 ((Crc.sumL a0.data.toList).toNat : Int)) ∧ Below w.heap.size w w' := by
  have hu := Try.underlying35
  have hz := crcq_zero_run
  have HB := Aside0.mk (Below.refl w.heap.size w)
  go_enter Try.func7, Try.ntmps7
  go_wp2_with fail
  refine (crcq_table_calls _).mono ?_
  rintro e w1 ⟨rfl, HB1⟩
  have hi := crcq_info35
  go_wp2_with (first | (refine wpList_store_row rfl 35 (.tmp 4) (.tmp 6) rfl w1.heap.size (crcq_rowAt 256) rfl rfl 35 crcq_Z (heap_alloc_new _ _) (by rw [hi, crcq_size_rowAt]) crcq_size_Z (crcq_all_rowAt 256) ?_))
  have HG : Aside0 (((w1.alloc (.cells crcq_Z 35)).setRow w1.heap.size (crcq_rowAt 256)).heap[w1.heap.size]? = some (.cells (crcq_rowAt 256) 35 (0, 0))) := ⟨setRow_heap _ _ _ _ _ _ (heap_alloc_new _ _)⟩
  have HB2 : Aside0 (Below w.heap.size w ((w1.alloc (.cells crcq_Z 35)).setRow w1.heap.size (crcq_rowAt 256))) := ⟨below_setRow (HB1.alloc HB1.size _) HB1.size _⟩
  generalize ((w1.alloc (.cells crcq_Z 35)).setRow w1.heap.size (crcq_rowAt 256)) = W at *
  generalize w1.heap.size = g at *
  clear HB1 HB hi
  go_wp2
  go_loop [3, 9] (fun v3 v9 => ∃ k : Nat, k ≤ a0.size ∧ v9 = .int .i64 k ∧ v3 = .int .u32 (((a0.data.toList.take k).foldl Crc.step (~~~ 0#32)).toNat : Int)) (fun _ v9 => a0.size - (intOf v9).toNat)
  case atStart => exact ⟨0, by omega, rfl, rfl⟩
  case round =>
    obtain ⟨k, hk, rfl, rfl⟩ := hrel
    obtain ⟨c, hc0⟩ : ∃ c, (a0.data.toList.take k).foldl Crc.step (~~~ 0#32) = c := ⟨_, rfl⟩
    rw [hc0]
    have HC0 := Aside0.mk hc0
    clear hc0
    by_cases hlt : k < a0.size
    · have hx := crcq_idx_eq c a0[k]
      have hlx : Crc.idx c a0[k] < 256 := Crc.idx_lt c a0[k]
      have hxb : 0 ≤ ((Crc.idx c a0[k] : Nat) : Int) := by omega
      have hc := (cell_of_row W g (Crc.idx c a0[k]) (crcq_rowAt 256) 35 (0, 0) HG.out).trans (crcq_rowAt_get 256 _ hlx)
      rw [if_pos hlx] at hc
      have HF : Aside0 (Go.bits .xor .u32 ((c.toNat : Int) / 256) ((Crc.tab (Crc.idx c a0[k])).toNat : Int) = ((Crc.step c a0[k]).toNat : Int)) := ⟨crcq_step_eq c a0[k]⟩
      have HT : Aside0 ((a0.data.toList.take (k + 1)).foldl Crc.step (~~~ 0#32) = Crc.step c a0[k]) := ⟨by rw [crcq_take_snoc' a0 k hlt, List.foldl_append, HC0.out]; rfl⟩
      go_wp2
      go_round
      case rel => exact ⟨k + 1, by omega, by go_num, by rw [HT.out, HF.out]⟩
      case measure => simp [intOf]; omega
    · have HL : Aside0 (Crc.sumL a0.data.toList = ~~~ c) := ⟨by rw [Crc.sumL, ← HC0.out, List.take_of_length_le (by simp; omega)]⟩
      go_wp2
      go_ret
      exact ⟨by rw [HL.out, ← crcq_not_eq]; rfl, HB2.out⟩
def crc_Sum.f (a0 : ByteArray) : Option (Int) := if a0.size ≤ 9223372036854775807 then some ((Crc.sumL a0.data.toList).toNat : Int) else none
theorem crc_Sum.calls (a0 : ByteArray) (r : Int) (w : World) (h : crc_Sum.f a0 = some r) :
    Calls Try.prog 7 #[.string a0] w fun e w' => e = .returned (.int .u32 r) ∧ Below w.heap.size w w' := by
  unfold crc_Sum.f at h
  by_cases hs : a0.size ≤ 9223372036854775807
  · rw [if_pos hs] at h
    obtain rfl := Option.some.inj h
    exact crcq_sum_calls a0 w hs
  · rw [if_neg hs] at h
    exact absurd h (by simp)

/-! ### patchbaykeep1_crcWorks: function 6 -/
def patchbaykeep1_crcWorks.f  : Option (Bool) := (crc_Sum.f (⟨#[49, 50, 51, 52, 53, 54, 55, 56, 57]⟩ : ByteArray)).bind fun t101 => (some (t101 == 3421780262))
set_option maxHeartbeats 8000000 in
set_option maxRecDepth 100000 in
theorem patchbaykeep1_crcWorks.calls  (r : Bool) (w : World) (h : patchbaykeep1_crcWorks.f  = some r) :
    Calls Try.prog 6 #[] w fun e w' => e = .returned (.bool r) ∧ Below w.heap.size w w' := by
  have HB := Aside0.mk (Below.refl w.heap.size w)
  have H : ((crc_Sum.f (⟨#[49, 50, 51, 52, 53, 54, 55, 56, 57]⟩ : ByteArray)).bind fun t101 => (some (t101 == 3421780262))) = some r := h
  clear h
  replace H := Option.bind_eq_some_iff.mp H
  obtain ⟨t101, A10, H⟩ := H
  replace H : (some (t101 == 3421780262)) = some r := H
  have A1 := Aside0.mk A10
  clear A10
  obtain rfl := Option.some.inj H
  go_enter Try.func6, Try.ntmps6
  go_wp2_with (first | ((with_reducible refine gate_callee (f := 7) rfl ?_); refine goesL_ (some 1) rfl rfl Try.func7 (by kernel_rfl) rfl #[.string (⟨#[49, 50, 51, 52, 53, 54, 55, 56, 57]⟩ : ByteArray)] rfl (by (try simp only [List.map_toArray, List.map_cons, List.map_nil]); first | done | rfl | (simp only [List.length_drop, List.length_take]; rfl)) ?_; (with_reducible refine (crc_Sum.calls (⟨#[49, 50, 51, 52, 53, 54, 55, 56, 57]⟩ : ByteArray) t101 _ A1.out).mono ?_); rintro e w2 ⟨rfl, hb⟩; refine ⟨_, rfl, ?_⟩; have n0_ := Aside0.mk (below_step (by repeat (first | (with_reducible first | exact HB.out | apply below_alloc | apply pw_below_drewN | apply below_drew1) | exact HB.out)) hb); clear HB; have HB := n0_; clear n0_; (try clear hb); (try clear hb2); (try clear hk); (try clear hi)))
  go_ret
  exact ⟨by first | rfl | (simp [errW_none, errW_some] <;> rfl) | (simp [*, errW_none, errW_some] <;> rfl), by repeat (first | (with_reducible first | exact HB.out | apply below_alloc | apply pw_below_drewN | apply below_drew1) | exact HB.out)⟩

end Go.Proofs.Ytbaogajiogaogaa.M
