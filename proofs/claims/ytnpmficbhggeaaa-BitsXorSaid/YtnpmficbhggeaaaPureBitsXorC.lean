import Derived.Test.YtnpmficbhggeaaaM4
import Derived.Test.YtnpmficbhggeaaaPureBitsCommon
import Derived.Lib.Repeat
/- Plain laws of Xor. -/
namespace Go.Proofs.Ytnpmficbhggeaaa.Pure
open Go.RowKit Go.Proofs.Ytnpmficbhggeaaa.M Go.Proofs.YtnpmficbhggeaaaW.PrintWords Go.Proofs.YtnpmficbhggeaaaW.PrintMore Go.Proofs.YtnpmficbhggeaaaW.PrintLast

def Bits (l : List UInt8) : Prop := ∀ j, j < l.length → l.getD j 0 = 48 ∨ l.getD j 0 = 49
theorem bits_map (l : List UInt8) : Bits (l.map bitB) := by
  intro j hj
  simp only [List.length_map] at hj
  simp only [List.getD_eq_getElem?_getD, List.getElem?_map, List.getElem?_eq_getElem hj, Option.map_some, Option.getD_some]
  exact bitB_or _
theorem good_l0 (l : List UInt8) (hl : l.length ≤ 1000000) (hb : Bits l) : ∀ (d i : Nat), i + d = l.length → Ev (fun k => bits_good.l0 k (B l) (l.length : Int) (i : Int)) true := by
  intro d
  induction d with
  | zero =>
    intro i hi
    refine ⟨1, fun k hk => ?_⟩
    obtain ⟨k, rfl⟩ : ∃ m, k = m + 1 := ⟨k - 1, by omega⟩
    simp only [bits_good.l0]
    rw [if_neg (by omega)]
  | succ d ih =>
    intro i hi
    have hil : i < l.length := by omega
    refine Ev.step (f := fun k => bits_good.l0 k (B l) (l.length : Int) ((i + 1 : Nat) : Int)) (fun k => ?_) (ih (i + 1) (by omega))
    simp only [bits_good.l0, size_B]
    rw [if_pos (by omega), if_pos (by omega), if_pos (by omega), bt_getD l i hil, wrap64_id (by omega) (by omega)]
    rcases hb i hil with h | h
    · rw [if_pos (by rw [h]; rfl)]; rfl
    · rw [if_neg (by rw [h]; decide), if_pos (by rw [h]; rfl)]; rfl
theorem good_f (l : List UInt8) (hl : l.length ≤ 1000000) (hb : Bits l) : Ev (fun k => bits_good.f k (B l)) true := by
  have h := good_l0 l hl hb l.length 0 (by omega)
  unfold bits_good.f
  simp only [size_B]
  exact h
def xr (x y : UInt8) : UInt8 := bitB (x ^^^ y)
theorem xr_int (x y : UInt8) : (48 + Go.bits .and .u8 (Go.bits .xor .u8 (x.toNat : Int) (y.toNat : Int)) 1) % 256 = ((xr x y).toNat : Int) := by
  rw [xor_u8, bitB_int]
  have := (bitB (x ^^^ y)).toNat_lt
  unfold xr
  omega
def xorL (a b : List UInt8) : List UInt8 := (List.range a.length).map fun j => xr (a.getD j 0) (b.getD j 0)
theorem xorL_len (a b : List UInt8) : (xorL a b).length = a.length := by simp [xorL]
theorem xorL_get (a b : List UInt8) (j : Nat) (hj : j < a.length) : (xorL a b).getD j 0 = xr (a.getD j 0) (b.getD j 0) := by
  simp [xorL, List.getD_eq_getElem?_getD, hj]
theorem xorL_bits (a b : List UInt8) : Bits (xorL a b) := by
  intro j hj
  rw [xorL_len] at hj
  rw [xorL_get a b j hj]
  exact bitB_or _
theorem xor_l0 (a b : List UInt8) (hl : a.length ≤ 1000000) (he : b.length = a.length) : ∀ (d i : Nat), i + d = a.length → Ev (fun k => bits_Xor.l0 k (B a) (B b) (fillRow (fun j => xr (a.getD j 0) (b.getD j 0)) a.length i) (a.length : Int) (i : Int)) (B (xorL a b), 0) := by
  intro d
  induction d with
  | zero =>
    intro i hi
    obtain rfl : i = a.length := by omega
    refine ⟨1, fun k hk => ?_⟩
    obtain ⟨k, rfl⟩ : ∃ m, k = m + 1 := ⟨k - 1, by omega⟩
    simp only [bits_Xor.l0]
    rw [if_neg (by omega), fillRow_full, strOf_B]
    rfl
  | succ d ih =>
    intro i hi
    refine Ev.step (f := fun k => bits_Xor.l0 k (B a) (B b) (fillRow (fun j => xr (a.getD j 0) (b.getD j 0)) a.length (i + 1)) (a.length : Int) ((i + 1 : Nat) : Int)) (fun k => ?_) (ih (i + 1) (by omega))
    simp only [bits_Xor.l0, size_B, fillRow_len]
    rw [if_pos (by omega), if_pos (by omega), if_pos (by omega), if_pos (by omega), if_pos (by omega), bt_getD a i (by omega), bt_getD b i (by omega), xr_int, wrap64_id (by omega) (by omega), Int.toNat_natCast]
    rw [fillRow_set (fun j => xr (a.getD j 0) (b.getD j 0)) a.length i]
    rfl
theorem xor_f (a b : List UInt8) (hl : a.length ≤ 1000000) (he : b.length = a.length) (ha : Bits a) (hb : Bits b) : Ev (fun k => bits_Xor.f k (B a) (B b)) (B (xorL a b), 0) := by
  unfold bits_Xor.f
  refine Ev.bind (good_f a hl ha) ?_
  simp only [if_true]
  refine Ev.bind (good_f b (by omega) hb) ?_
  simp only [Bool.not_true]
  have h := xor_l0 a b hl he a.length 0 (by omega)
  refine Ev.step (f := fun k => bits_Xor.l0 k (B a) (B b) (fillRow (fun j => xr (a.getD j 0) (b.getD j 0)) a.length 0) (a.length : Int) ((0 : Nat) : Int)) (fun k => ?_) h
  simp only [bits_Xor.j0, size_B]
  rw [if_neg (by simp), if_pos (by rw [he]), if_pos (by omega), if_pos (by omega), Int.toNat_natCast, fillRow_zero]
  rfl
theorem xorL_back (a b : List UInt8) (ha : Bits a) (hb : Bits b) (he : b.length = a.length) : xorL (xorL a b) b = a := by
  apply List.ext_getElem
  · rw [xorL_len, xorL_len]
  · intro j h1 h2
    have h3 : (xorL (xorL a b) b).getD j 0 = a.getD j 0 := by
      rw [xorL_get _ _ _ (by rw [xorL_len]; exact h2), xorL_get _ _ _ h2]
      rcases ha j h2 with h | h <;> rcases hb j (by omega) with h' | h' <;> rw [h, h'] <;> decide
    simpa [List.getD_eq_getElem?_getD, h1, h2] using h3
theorem repeat_f (n : Nat) (hn : n ≤ 1000000) : ∃ z : List UInt8, z.length = n ∧ strings_Repeat.f (⟨#[48]⟩ : ByteArray) (n : Int) = some (B z) := by
  refine ⟨Lib.repeatL [48] n, by rw [Lib.repeatL_length]; simp, ?_⟩
  unfold strings_Repeat.f
  have e : (⟨#[48]⟩ : ByteArray).size = 1 := rfl
  rw [if_pos (by omega), if_pos (by omega), e, Int.toNat_natCast, if_pos (by omega)]
  rfl
theorem ones_cons (x : UInt8) (l : List UInt8) : ones (x :: l) = ones l + (if x = 49 then 1 else 0) := by
  simp only [ones, List.count_cons, beq_iff_eq]
theorem drop_cons (l : List UInt8) (i : Nat) (h : i < l.length) : l.drop i = l.getD i 0 :: l.drop (i + 1) := by
  rw [List.drop_eq_getElem_cons h]; simp [List.getD_eq_getElem?_getD, h]
end Go.Proofs.Ytnpmficbhggeaaa.Pure
