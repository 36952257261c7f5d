/- Written by hand (this repository's wip/walk/TopA.in to TopD.in): the frame's encoding as bytes, and the fixed example aWire, walked. No condition beside those in the statements. -/
import Derived.Test.YtdfkejjgmippfaaDoorM0
import Derived.Test.YtdfkejjgmippfaaDoorM1
import Derived.Test.YtdfkejjgmippfaaDoorM2
import Derived.Test.YtdfkejjgmippfaaDoorM3
import Derived.Test.YtdfkejjgmippfaaDoorM4
import Derived.Test.YtdfkejjgmippfaaDoorM5
import Derived.Test.YtdfkejjgmippfaaDoorM6
import Derived.Test.YtdfkejjgmippfaaDoorWalkQuintD
import Derived.Test.YtdfkejjgmippfaaDoorFrame
namespace Go.Proofs.YtdfkejjgmippfaaDoor.M
open Go.RowKit Go.Proofs.YtdfkejjgmippfaaDoorW.PrintWords Go.Proofs.YtdfkejjgmippfaaDoorW.PrintLast Go.Proofs.YtdfkejjgmippfaaDoorW.PrintMore
attribute [local go_sem] max2_int min2_int max_two min_two max_three min_three max_four min_four
set_option linter.unusedVariables false
set_option linter.unusedSimpArgs false
open Quint Go.Proofs.YtdfkejjgmippfaaDoor.Frame
def fnRow (n k i : Nat) : List Int := (List.range k).map fun j => if k ≤ j + i then ((UInt8.ofNat (n / 256 ^ (k - 1 - j))).toNat : Int) else 0
theorem fnRow_len (n k i : Nat) : (fnRow n k i).length = k := by simp [fnRow]
theorem fnRow_zero (n k : Nat) : fnRow n k 0 = List.replicate k 0 := by
  apply List.ext_getElem
  · simp [fnRow]
  · intro j h1 h2
    simp [fnRow] at h1 ⊢
    omega
theorem fnRow_full (n k : Nat) : fnRow n k k = (numL n k).map fun b => (b.toNat : Int) := by
  unfold fnRow numL
  rw [List.map_map]
  apply List.map_congr_left
  intro j _
  rw [if_pos (by omega)]
  rfl
theorem fnRow_set (n k i : Nat) (hi : i < k) : (fnRow n k i).set (k - 1 - i) ((UInt8.ofNat (n / 256 ^ i)).toNat : Int) = fnRow n k (i + 1) := by
  apply List.ext_getElem
  · simp [fnRow]
  · intro j h1 h2
    have hj : j < k := by simpa [fnRow] using h2
    rw [List.getElem_set]
    by_cases h : k - 1 - i = j
    · rw [if_pos h]
      simp only [fnRow, List.getElem_map, List.getElem_range]
      rw [if_pos (by omega), show k - 1 - j = i by omega]
    · rw [if_neg h]
      simp only [fnRow, List.getElem_map, List.getElem_range]
      by_cases h3 : k ≤ j + i
      · rw [if_pos h3, if_pos (by omega)]
      · rw [if_neg h3, if_neg (by omega)]
theorem fn_loop (n k : Nat) (hk : k ≤ 8) (d : Nat) : ∀ kk i : Nat, i ≤ k → k - i = d → d < kk → frame_number.l0 kk (n : Int) (k : Int) (fnRow n k i) (k : Int) (i : Int) = some (B (numL n k)) := by
  induction d with
  | zero =>
    intro kk i hi hd hkk
    obtain ⟨kk, rfl⟩ : ∃ m, kk = m + 1 := ⟨kk - 1, by omega⟩
    obtain rfl : i = k := by omega
    rw [frame_number.l0, if_neg (by omega), fnRow_full, strOf_B]
  | succ d ih =>
    intro kk i hi hd hkk
    obtain ⟨kk, rfl⟩ : ∃ m, kk = m + 1 := ⟨kk - 1, by omega⟩
    have w1 : wrap64 (8 * (i : Int)) = ((8 * i : Nat) : Int) := by rw [wrap64_id (by omega) (by omega)]; omega
    have w2 : wrap64 (wrap64 ((k : Int) - 1) - (i : Int)) = ((k - 1 - i : Nat) : Int) := by rw [wrap64_id (x := (k : Int) - 1) (by omega) (by omega), wrap64_id (by omega) (by omega)]; omega
    have w3 : wrap64 ((i : Int) + 1) = ((i + 1 : Nat) : Int) := by rw [wrap64_id (by omega) (by omega)]; rfl
    have w4 : (shr .i64 (n : Int) ((8 * i : Nat) : Int)) % 256 = ((UInt8.ofNat (n / 256 ^ i)).toNat : Int) := by
      unfold shr
      rw [Int.toNat_natCast, Nat.min_eq_left (by simp only [IntKind.bits]; omega), UInt8.toNat_ofNat']
      have e : ((2 : Int) ^ (8 * i)) = ((256 ^ i : Nat) : Int) := by
        have e1 : (2 : Nat) ^ (8 * i) = 256 ^ i := by rw [Nat.pow_mul]
        rw [← e1]
        norm_cast
      rw [e]
      generalize (256 ^ i : Nat) = X
      have e2 : (n : Int) / (X : Int) = ((n / X : Nat) : Int) := by simp
      rw [e2]
      generalize n / X = Y
      omega
    rw [frame_number.l0, if_pos (by omega), w1, if_pos (by omega), w2, if_pos (by omega), if_pos (by rw [fnRow_len]; omega), w3, w4, Int.toNat_natCast, fnRow_set n k i (by omega)]
    exact ih kk (i + 1) (by omega) (by omega) (by omega)
theorem fn_number (n k kk : Nat) (hk : k ≤ 8) (hkk : 10 ≤ kk) : frame_number.f kk (n : Int) (k : Int) = some (B (numL n k)) := by
  unfold frame_number.f
  rw [if_pos (by omega), if_pos (by omega)]
  simp only [Option.bind_some, Int.toNat_natCast, List.length_replicate]
  rw [← fnRow_zero n k]
  exact fn_loop n k hk k kk 0 (by omega) (by omega) (by omega)
theorem fv_or (a : Nat) (b : UInt8) (h : a < 281474976710656) : Go.bits .or .i64 (wrap64 ((a : Int) * 256)) (wrap64 ((b.toNat : Nat) : Int)) = ((a * 256 + b.toNat : Nat) : Int) := by
  have hb := b.toNat_lt
  rw [wrap64_id (by omega) (by omega), wrap64_id (by omega) (by omega)]
  have e1 : (a : Int) * 256 = ((a * 256 : Nat) : Int) := by omega
  rw [e1]
  have h1 : Go.bits .or .i64 ((a * 256 : Nat) : Int) ((b.toNat : Nat) : Int) = IntKind.i64.wrap (((BitVec.ofInt 64 ((a * 256 : Nat) : Int)) ||| (BitVec.ofInt 64 ((b.toNat : Nat) : Int))).toNat : Int) := rfl
  rw [h1, BitVec.ofInt_natCast, BitVec.ofInt_natCast, BitVec.toNat_or, BitVec.toNat_ofNat, BitVec.toNat_ofNat, Nat.mod_eq_of_lt (by omega), Nat.mod_eq_of_lt (by omega)]
  have h2 : a * 256 ||| b.toNat = a * 256 + b.toNat := by
    have := Nat.two_pow_add_eq_or_of_lt (i := 8) hb a
    rw [Nat.mul_comm] at this
    exact this.symm
  rw [h2, IntKind.wrap_i64]
  omega
theorem fv_loop (l : List UInt8) (hl : l.length ≤ 6) (d : Nat) : ∀ kk i : Nat, i ≤ l.length → l.length - i = d → d < kk → frame_value.l0 kk (B l) ((valL (l.take i) : Nat) : Int) (l.length : Int) (i : Int) = some ((valL l : Nat) : Int) := by
  induction d with
  | zero =>
    intro kk i hi hd hkk
    obtain ⟨kk, rfl⟩ : ∃ m, kk = m + 1 := ⟨kk - 1, by omega⟩
    rw [frame_value.l0, if_neg (by omega), List.take_of_length_le (by omega)]
  | succ d ih =>
    intro kk i hi hd hkk
    obtain ⟨kk, rfl⟩ : ∃ m, kk = m + 1 := ⟨kk - 1, by omega⟩
    have hlt : i < l.length := by omega
    have w3 : wrap64 ((i : Int) + 1) = ((i + 1 : Nat) : Int) := by rw [wrap64_id (by omega) (by omega)]; rfl
    have hv : valL (l.take i) < 281474976710656 := by
      have h1 := valL_lt (l.take i)
      have h2 : 256 ^ (l.take i).length ≤ 256 ^ 6 := Nat.pow_le_pow_right (by omega) (by simp; omega)
      omega
    have e : valL (l.take (i + 1)) = valL (l.take i) * 256 + (l.getD i 0).toNat := by
      rw [List.take_succ_eq_append_getElem hlt, valL_snoc]
      simp [List.getD_eq_getElem?_getD, hlt]
    rw [frame_value.l0, if_pos (by omega), if_pos (by omega), if_pos (by rw [size_B]; omega), bt_getD l i hlt, fv_or _ _ hv, ← e, w3]
    exact ih kk (i + 1) (by omega) (by omega) (by omega)
theorem fv_value (l : List UInt8) (hl : l.length ≤ 6) (kk : Nat) (hkk : 10 ≤ kk) : frame_value.f kk (B l) = some ((valL l : Nat) : Int) := by
  unfold frame_value.f
  rw [size_B]
  exact fv_loop l hl l.length kk 0 (by omega) (by omega) (by omega)
open Crc in
theorem brq_seal (l : List UInt8) (h : l.length ≤ 300) : crc_Seal.f (B l) = some (B (sealL l)) := by
  have h1 : crc_Sum.f (B l) = some ((sumL l).toNat : Int) := by
    unfold crc_Sum.f
    rw [if_pos (by rw [size_B]; omega), B_data]
  unfold crc_Seal.f
  rw [h1]
  simp only [Option.bind_some]
  have h2 : ([(((sumL l).toNat : Int) / 16777216) % 256, (((sumL l).toNat : Int) / 65536) % 256, (((sumL l).toNat : Int) / 256) % 256, ((sumL l).toNat : Int) % 256] : List Int) = (trail (sumL l)).map fun b => (b.toNat : Int) := by
    have e : ∀ n : Nat, ((UInt8.ofNat n).toNat : Int) = (n : Int) % 256 := fun n => by
      rw [UInt8.toNat_ofNat']
      omega
    simp only [trail, List.map_cons, List.map_nil, e]
    rfl
  rw [h2, strOf_B, if_pos (by rw [size_B, size_B, trail_length]; omega), B_append]
  rfl
open Crc in
theorem brq_open (l x : List UInt8) (h : l.length ≤ 300) (hx : x.length = l.length + 4) : crc_Open.f (B x) = if sealL (x.take l.length) = x then some (B (x.take l.length), 0) else some ((⟨#[]⟩ : ByteArray), 8) := by
  unfold crc_Open.f
  rw [size_B, hx, wrap64_id (by omega) (by omega)]
  have e : ((l.length + 4 : Nat) : Int) - 4 = (l.length : Int) := by omega
  rw [e, if_neg (by omega), if_pos (by omega), if_pos (by omega), Int.toNat_natCast, B_take, brq_seal _ (by simp; omega)]
  simp only [Option.bind_some, B_toList]

theorem tq_within (a : Int) (n : Nat) (h0 : 0 < n) (h1 : n ≤ 281474976710656) : ∃ r : Nat, r < n ∧ patchbaytop_aWithin.f a (n : Int) = some (r : Int) := by
  have hu : ∃ m : Nat, IntKind.u64.wrap a = (m : Int) := by
    have : 0 ≤ IntKind.u64.wrap a := by
      simp only [IntKind.wrap, IntKind.bits, IntKind.signed]
      simp
      omega
    exact ⟨(IntKind.u64.wrap a).toNat, by omega⟩
  obtain ⟨m, hm⟩ := hu
  refine ⟨m % n, Nat.mod_lt _ h0, ?_⟩
  unfold patchbaytop_aWithin.f
  have hlt := Nat.mod_lt m h0
  rw [u64_id (by omega) (by omega), if_neg (by omega), hm, ← Int.ofNat_tmod, wrap64_id (by omega) (by omega)]
structure Ok (d s t y : Nat) (body : List UInt8) : Prop where
  d : d < 281474976710656
  s : s < 1099511627776
  t : t ≤ 4094
  y : y < 32768
  b : body.length ≤ 60
theorem fe_check {d s t y : Nat} {body : List UInt8} (h : Ok d s t y body) (kk : Nat) (hk : 10 ≤ kk) : frame_Check.f kk (d : Int) (s : Int) (t : Int) (y : Int) (B body) = some 0 := by
  obtain ⟨h1, h2, h3, h4, h5⟩ := h
  obtain ⟨k, rfl⟩ : ∃ k, kk = k + 2 := ⟨kk - 2, by omega⟩
  have hg : frame_Group.f (s : Int) = some false := by
    unfold frame_Group.f
    rw [if_pos (by omega), show (s : Int) / 1099511627776 = 0 by omega]
    rfl
  have hy : ((y : Int) == 33024) = false := by rw [beq_eq_false_iff_ne]; omega
  unfold frame_Check.f
  rw [if_neg (by omega), if_neg (by omega), if_neg (by omega), if_neg (by omega), hg]
  simp only [Option.bind_some]
  rw [frame_Check.j0, if_neg (by decide), if_neg (by omega), if_neg (by omega), if_neg (by omega), if_neg (by omega), hy, frame_Check.j1, if_neg (by decide), if_neg (by rw [size_B]; omega)]
theorem fe_row (n : Nat) : strOfNums (List.replicate n 0) = B (List.replicate n 0) := by
  have := strOf_B (List.replicate n 0)
  simpa using this
theorem fe_j0 (x body : List UInt8) (d s t y kk : Nat) (hx : x.length ≤ 20) (hb : body.length ≤ 60) (hk : 11 ≤ kk) :
    frame_Encode.j0 kk (B x) (d : Int) (s : Int) (t : Int) (y : Int) (B body) = some (B (Crc.sealL ((x ++ ((numL y 2 ++ numL body.length 2) ++ body)) ++ List.replicate (60 - (x ++ ((numL y 2 ++ numL body.length 2) ++ body)).length) 0)), 0) := by
  obtain ⟨k, rfl⟩ : ∃ k, kk = k + 1 := ⟨kk - 1, by omega⟩
  have n1 := fn_number y 2 k (by omega) (by omega)
  have n2 := fn_number body.length 2 k (by omega) (by omega)
  have hl : (x ++ ((numL y 2 ++ numL body.length 2) ++ body)).length = x.length + (4 + body.length) := by simp [numL_len]; omega
  rw [frame_Encode.j0, size_B body]
  rw [show ((2 : Nat) : Int) = 2 from rfl] at n1 n2
  rw [n1]
  simp only [Option.bind_some]
  rw [n2]
  simp only [Option.bind_some, B_append, size_B]
  rw [if_pos (by simp [numL_len]), if_pos (by simp [numL_len]; omega), if_pos (by simp [numL_len]; omega), hl]
  by_cases h : (60 : Int) - ((x.length + (4 + body.length) : Nat) : Int) > 0
  · have hw : wrap64 (60 - ((x.length + (4 + body.length) : Nat) : Int)) = ((60 - (x.length + (4 + body.length)) : Nat) : Int) := by rw [wrap64_id (by omega) (by omega)]; omega
    rw [hw, if_pos (by omega), if_pos (by omega), if_pos (by omega), Int.toNat_natCast, fe_row, size_B, List.length_replicate, if_pos (by omega), B_append, brq_seal _ (by simp [numL_len]; omega)]
    rfl
  · have hw : wrap64 (60 - ((x.length + (4 + body.length) : Nat) : Int)) = 60 - ((x.length + (4 + body.length) : Nat) : Int) := by rw [wrap64_id (by omega) (by omega)]
    rw [hw, if_neg h, brq_seal _ (by rw [hl]; omega), show 60 - (x.length + (4 + body.length)) = 0 by omega, List.replicate_zero, List.append_nil]
    rfl
theorem fe_encode {d s t y : Nat} {body : List UInt8} (h : Ok d s t y body) (kk : Nat) (hk : 20 ≤ kk) : frame_Encode.f kk (d : Int) (s : Int) (t : Int) (y : Int) (B body) = some (B (Crc.sealL (encF d s t y body)), 0) := by
  have n1 := fn_number d 6 kk (by omega) (by omega)
  have n2 := fn_number s 6 kk (by omega) (by omega)
  have n3 := fn_number 33024 2 kk (by omega) (by omega)
  have n4 := fn_number t 2 kk (by omega) (by omega)
  rw [show ((6 : Nat) : Int) = 6 from rfl] at n1 n2
  rw [show ((2 : Nat) : Int) = 2 from rfl] at n3 n4
  rw [show ((33024 : Nat) : Int) = 33024 from rfl] at n3
  unfold frame_Encode.f
  rw [fe_check h kk (by omega)]
  simp only [Option.bind_some, if_true]
  rw [n1]
  simp only [Option.bind_some]
  rw [n2]
  simp only [Option.bind_some, size_B, B_append]
  rw [if_pos (by simp [numL_len])]
  unfold encF encD
  by_cases ht : 0 < t
  · rw [if_pos (by omega), n3]
    simp only [Option.bind_some]
    rw [n4]
    simp only [Option.bind_some, size_B, B_append]
    rw [if_pos (by simp [numL_len]), if_pos (by simp [numL_len]), fe_j0 _ _ _ _ _ _ _ (by simp [numL_len]) h.b (by omega), if_pos ht]
  · rw [if_neg (by omega), fe_j0 _ _ _ _ _ _ _ (by simp [numL_len]) h.b (by omega), if_neg ht, List.append_nil]
theorem fd_bad (l y : List UInt8) (h60 : 60 ≤ l.length) (h84 : l.length ≤ 84) (hy : y.length = l.length + 4) (hs : Crc.sealL (y.take l.length) ≠ y) (kk : Nat) :
    frame_Decode.f kk (B y) = some (0, 0, 0, 0, (⟨#[]⟩ : ByteArray), 8) := by
  unfold frame_Decode.f
  rw [size_B, if_neg (by omega), if_neg (by omega), brq_open l y (by omega) hy, if_neg hs]
  simp only [Option.bind_some]
  rw [if_neg (by decide)]
theorem fd_drop (a b c : List UInt8) (n : Nat) (h : a.length = n) : (a ++ b ++ c).drop n = b ++ c := by
  rw [List.append_assoc, List.drop_left' h]
theorem fd_j0 {d s t y : Nat} {body : List UInt8} (h : Ok d s t y body) (kk : Nat) (hk : 30 ≤ kk) (p : Nat) (hp : p ≤ 100) :
    frame_Decode.j0 kk (B (Crc.sealL (encF d s t y body))) (B (((numL y 2 ++ numL body.length 2) ++ body) ++ List.replicate p 0)) (d : Int) (s : Int) (t : Int) 0 (⟨#[]⟩ : ByteArray) = some ((d : Int), (s : Int), (t : Int), (y : Int), B body, 0) := by
  obtain ⟨k, rfl⟩ : ∃ k, kk = k + 1 := ⟨kk - 1, by omega⟩
  have hb := h.b
  have hy := h.y
  obtain ⟨x, hx⟩ : ∃ x, x = ((numL y 2 ++ numL body.length 2) ++ body) ++ List.replicate p 0 := ⟨_, rfl⟩
  have hl : x.length = 4 + body.length + p := by rw [hx]; simp [numL_len]; omega
  have e1 : (x.drop 0).take (2 - 0) = numL y 2 := by
    rw [hx, List.drop_zero, List.append_assoc, List.append_assoc, List.take_left' (numL_len _ _)]
  have e2 : (x.drop 2).take (4 - 2) = numL body.length 2 := by
    rw [hx, List.append_assoc, List.append_assoc, List.drop_left' (numL_len _ _), List.take_left' (numL_len _ _)]
  have e3 : (x.drop 4).take (4 + body.length - 4) = body := by
    rw [hx, List.append_assoc, List.drop_left' (by simp [numL_len]), List.take_left' (by omega)]
  rw [← hx, frame_Decode.j0, size_B, if_pos (by omega), if_pos (by omega), B_extract, e1, fv_value _ (by rw [numL_len]; omega) k (by omega), valL_num]
  simp only [Option.bind_some]
  rw [if_pos (by omega), if_pos (by omega), B_extract, e2, fv_value _ (by rw [numL_len]; omega) k (by omega), valL_num]
  simp only [Option.bind_some]
  have m1 : y % 256 ^ 2 = y := Nat.mod_eq_of_lt (by omega)
  have m2 : body.length % 256 ^ 2 = body.length := Nat.mod_eq_of_lt (by omega)
  rw [m1, m2]
  have w1 : wrap64 (((x.length : Nat) : Int) - 4) = ((body.length + p : Nat) : Int) := by rw [wrap64_id (by omega) (by omega)]; omega
  have w2 : wrap64 (4 + ((body.length : Nat) : Int)) = ((4 + body.length : Nat) : Int) := by rw [wrap64_id (by omega) (by omega)]; omega
  rw [w1, w2, if_neg (by omega), if_pos (by omega), if_pos (by omega), Int.toNat_natCast, B_extract, e3, fe_encode h k (by omega)]
  simp only [Option.bind_some, if_true]
theorem fd_good {d s t y : Nat} {body : List UInt8} (h : Ok d s t y body) (kk : Nat) (hk : 40 ≤ kk) :
    frame_Decode.f kk (B (Crc.sealL (encF d s t y body))) = some ((d : Int), (s : Int), (t : Int), (y : Int), B body, 0) := by
  have hlen := encF_len d s t y body
  have hb := h.b
  have hl60 : 60 ≤ (encF d s t y body).length ∧ (encF d s t y body).length ≤ 84 := by rw [hlen]; split <;> omega
  have hs : (Crc.sealL (encF d s t y body)).length = (encF d s t y body).length + 4 := by simp [Crc.sealL, Crc.trail_length]
  have hseal : Crc.sealL ((Crc.sealL (encF d s t y body)).take (encF d s t y body).length) = Crc.sealL (encF d s t y body) := by
    have : (Crc.sealL (encF d s t y body)).take (encF d s t y body).length = encF d s t y body := by unfold Crc.sealL; rw [List.take_left]
    rw [this]
  have htake : (Crc.sealL (encF d s t y body)).take (encF d s t y body).length = encF d s t y body := by unfold Crc.sealL; rw [List.take_left]
  unfold frame_Decode.f
  rw [size_B, if_neg (by omega), if_neg (by omega), brq_open (encF d s t y body) _ (by omega) hs, if_pos hseal, htake]
  simp only [Option.bind_some, if_true]
  obtain ⟨x, hx⟩ : ∃ x, x = encF d s t y body := ⟨_, rfl⟩
  have d1 : (x.drop 0).take (6 - 0) = numL d 6 := by
    rw [hx, List.drop_zero]; unfold encF encD
    simp only [List.append_assoc]
    rw [List.take_left' (numL_len _ _)]
  have d2 : (x.drop 6).take (12 - 6) = numL s 6 := by
    rw [hx]; unfold encF encD
    simp only [List.append_assoc]
    rw [List.drop_left' (numL_len _ _), List.take_left' (numL_len _ _)]
  obtain ⟨r, hr⟩ : ∃ r, r = x.drop 12 := ⟨_, rfl⟩
  have hrl : r.length = x.length - 12 := by rw [hr, List.length_drop]
  rw [← hx] at hl60 hlen
  have hd := h.d
  have hs2 := h.s
  have ht2 := h.t
  have hy2 := h.y
  have m1 : d % 256 ^ 6 = d := Nat.mod_eq_of_lt (by omega)
  have m2 : s % 256 ^ 6 = s := Nat.mod_eq_of_lt (by omega)
  rw [← hx, size_B, if_pos (by omega), if_pos (by omega), B_extract, d1, fv_value _ (by rw [numL_len]; omega) kk (by omega), valL_num, m1]
  simp only [Option.bind_some]
  rw [if_pos (by omega), if_pos (by omega), B_extract, d2, fv_value _ (by rw [numL_len]; omega) kk (by omega), valL_num, m2]
  simp only [Option.bind_some]
  have b12 : (B x).extract 12 x.length = B r := by rw [hr, ← B_drop, size_B]
  rw [b12, size_B, if_pos (by omega), if_pos (by omega)]
  by_cases ht : 0 < t
  · have hr2 : r = numL 33024 2 ++ (numL t 2 ++ ((((numL y 2 ++ numL body.length 2) ++ body)) ++ List.replicate (60 - (encD d s t y body).length) 0)) := by
      rw [hr, hx]; unfold encF encD
      rw [if_pos ht]
      simp only [List.append_assoc]
      rw [show (12 : Nat) = 6 + 6 from rfl, ← List.drop_drop, List.drop_left' (numL_len _ _), List.drop_left' (numL_len _ _)]
    have r1 : (r.drop 0).take (2 - 0) = numL 33024 2 := by rw [hr2, List.drop_zero, List.take_left' (numL_len _ _)]
    have r2 : (r.drop 2).take (4 - 2) = numL t 2 := by rw [hr2, List.drop_left' (numL_len _ _), List.take_left' (numL_len _ _)]
    have r3 : (B r).extract 4 r.length = B ((((numL y 2 ++ numL body.length 2) ++ body)) ++ List.replicate (60 - (encD d s t y body).length) 0) := by
      rw [show r.length = (B r).size from (size_B r).symm, B_drop, hr2, ← List.append_assoc, List.drop_left' (by simp [numL_len])]
    have m3 : t % 256 ^ 2 = t := Nat.mod_eq_of_lt (by omega)
    rw [B_extract, r1, fv_value _ (by rw [numL_len]; omega) kk (by omega), valL_num]
    simp only [Option.bind_some]
    rw [if_pos (by decide), if_pos (by omega), if_pos (by omega), B_extract, r2, fv_value _ (by rw [numL_len]; omega) kk (by omega), valL_num, m3]
    simp only [Option.bind_some]
    rw [r3]
    rw [hx]
    exact fd_j0 h kk (by omega) (60 - (encD d s t y body).length) (by omega)
  · have hr2 : r = (((numL y 2 ++ numL body.length 2) ++ body)) ++ List.replicate (60 - (encD d s t y body).length) 0 := by
      rw [hr, hx]; unfold encF encD
      rw [if_neg ht]
      simp only [List.append_assoc, List.nil_append]
      rw [show (12 : Nat) = 6 + 6 from rfl, ← List.drop_drop, List.drop_left' (numL_len _ _), List.drop_left' (numL_len _ _)]
    have r1 : (r.drop 0).take (2 - 0) = numL y 2 := by rw [hr2, List.drop_zero, List.append_assoc, List.append_assoc, List.take_left' (numL_len _ _)]
    have m4 : y % 256 ^ 2 = y := Nat.mod_eq_of_lt (by omega)
    obtain rfl : t = 0 := by omega
    rw [B_extract, r1, fv_value _ (by rw [numL_len]; omega) kk (by omega), valL_num, m4]
    simp only [Option.bind_some]
    rw [if_neg (by omega)]
    have := fd_j0 h kk (by omega) (60 - (encD d s 0 y body).length) (by omega)
    rw [← hr2, ← hx] at this
    exact this
theorem tf_flip (l : List UInt8) (hl : l.length ≤ 1000000) (j : Nat) (hj : j < l.length) (hb : l.getD j 0 = 48 ∨ l.getD j 0 = 49) : bits_Flip.f (B l) (j : Int) = some (B (l.set j (l.getD j 0 ^^^ 1))) := by
  have key : ∀ b : UInt8, b = l.getD j 0 → B (l.take j) ++ strOfNums [Go.bits .xor .u8 (b.toNat : Int) 1] ++ B (l.drop (j + 1)) = B (l.set j (l.getD j 0 ^^^ 1)) := by
    intro b hbq
    have h1 := xor_u8 b 1
    rw [show (((1 : UInt8).toNat : Nat) : Int) = 1 from rfl] at h1
    rw [h1]
    have h2 := strOf_B [b ^^^ 1]
    simp only [List.map_cons, List.map_nil] at h2
    rw [h2, B_append, B_append, hbq, List.set_eq_take_append_cons_drop, if_pos hj]
    simp
  have hsz : ∀ b : UInt8, (strOfNums [Go.bits .xor .u8 (b.toNat : Int) 1]).size = 1 := fun b => by simp [strOfNums, ByteArray.size]
  unfold bits_Flip.f
  simp only [size_B]
  rw [if_neg (by omega), if_neg (by omega), if_pos (by omega), if_pos (by omega), bt_getD l j hj]
  have e : wrap64 ((j : Int) + 1) = ((j + 1 : Nat) : Int) := by rw [wrap64_id (by omega) (by omega)]; omega
  simp only [e, Int.toNat_natCast, B_take, hsz, Option.bind_some]
  have hdrop : (B l).extract (j + 1) l.length = B (l.drop (j + 1)) := by
    have := B_drop l (j + 1)
    rwa [size_B] at this
  simp only [hdrop]
  have hk := key (l.getD j 0) rfl
  rcases hb with hb | hb
  · rw [if_pos (by rw [hb]; rfl), if_pos (by omega), if_pos (by rw [size_B]; simp; omega), if_pos (by omega), if_pos (by omega), if_pos (by rw [ByteArray.size_append, size_B, size_B, hsz]; simp; omega), hk]
  · rw [if_neg (by rw [hb]; decide), if_pos (by rw [hb]; rfl), if_pos (by omega), if_pos (by rw [size_B]; simp; omega), if_pos (by omega), if_pos (by omega), if_pos (by rw [ByteArray.size_append, size_B, size_B, hsz]; simp; omega), hk]
theorem tf_bit {b : UInt8} (h : bit b) : bit (b ^^^ 1) := by
  rcases h with rfl | rfl
  · exact .inr rfl
  · exact .inl rfl
set_option maxHeartbeats 8000000 in
set_option maxRecDepth 100000 in
theorem ta_wire (w : World) (hw : WordsCell w) : Calls Tryd.prog 13 #[] w fun e w' => e = .returned (.bool true) ∧ Below w.heap.size w w' := by
  have h0 : Ok 0 0 0 0 [] := ⟨by omega, by omega, by omega, by omega, by simp⟩
  have he := fe_encode h0 20 (by omega)
  have hl : (Crc.sealL (encF 0 0 0 0 [])).length = 64 := by rw [Crc.sealL, List.length_append, Crc.trail_length, encF_len]; rfl
  generalize Crc.sealL (encF 0 0 0 0 []) = x at he hl
  have he2 : frame_Encode.f 20 0 0 0 0 (⟨#[]⟩ : ByteArray) = some (B x, 0) := he
  have HE := Aside0.mk he2
  clear he he2 h0
  have hsx : (B x).size = 64 := by rw [size_B]; exact hl
  have hse : (B (encL x)).size = 640 := by rw [size_B, encL_len, hl]
  go_enter Tryd.func13, Tryd.ntmps13
  go_wp2_with fail
  refine (frame_Encode.calls 20 0 0 0 0 _ _ _ _ HE.out).mono ?_
  rintro e w1 ⟨rfl, hb1⟩
  have HB1 := Aside0.mk hb1
  clear hb1
  go_wp2_with fail
  refine (qq_encode x _ (by omega) (hw.below HB1.out)).mono ?_
  rintro e w2 ⟨rfl, hb2⟩
  have HB2 := Aside0.mk (below_step HB1.out hb2)
  clear hb2 HB1
  go_wp2
  go_ret
  exact ⟨by first | rfl | simp, HB2.out⟩

end Go.Proofs.YtdfkejjgmippfaaDoor.M
