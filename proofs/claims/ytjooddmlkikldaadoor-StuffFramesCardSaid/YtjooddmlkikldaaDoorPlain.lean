import Derived.Test.YtjooddmlkikldaaDoorWWords
import Derived.Test.YtjooddmlkikldaaDoorWMore
import Derived.Laws.Strings
/- Strings as lists of bytes, and small laws for the pure statements. -/
namespace Go.Proofs.YtjooddmlkikldaaDoor
open Go.RowKit Go.Proofs.YtjooddmlkikldaaDoorW.PrintWords Go.Proofs.YtjooddmlkikldaaDoorW.PrintMore
def B (l : List UInt8) : ByteArray := ⟨l.toArray⟩
theorem B_surj (s : ByteArray) : ∃ l, s = B l := ⟨s.data.toList, by simp [B]⟩
theorem size_B (l : List UInt8) : (B l).size = l.length := by simp [B, ByteArray.size]
theorem B_data (l : List UInt8) : (B l).data.toList = l := by simp [B]
theorem B_inj {l m : List UInt8} (h : B l = B m) : l = m := by
  have := congrArg (fun s : ByteArray => s.data.toList) h
  simpa [B] using this
theorem B_toList (l : List UInt8) : (B l).toList = l := by
  rw [Go.ByteArray.toList_eq]
  exact B_data l
theorem B_append (l m : List UInt8) : B l ++ B m = B (l ++ m) := by
  apply ByteArray.ext
  simp [B]
theorem B_extract (l : List UInt8) (a b : Nat) : (B l).extract a b = B ((l.drop a).take (b - a)) := by
  apply ByteArray.ext
  apply Array.ext'
  simp [B, List.extract_eq_take_drop]
theorem B_take (l : List UInt8) (b : Nat) : (B l).extract 0 b = B (l.take b) := by
  rw [B_extract]; simp
theorem B_drop (l : List UInt8) (a : Nat) : (B l).extract a (B l).size = B (l.drop a) := by
  rw [B_extract, size_B, List.take_of_length_le (by simp)]
theorem bt_B (l : List UInt8) (i : Int) (h : i.toNat < l.length) : bt (B l) i = ((l[i.toNat]).toNat : Int) := by
  unfold bt
  rw [dif_pos (by rw [size_B]; exact h)]
  simp only [B]
  rfl
theorem strOf_B (l : List UInt8) : strOfNums (l.map fun b => (b.toNat : Int)) = B l := by
  unfold strOfNums B
  congr 2
  rw [List.map_map]
  conv => rhs; rw [← List.map_id l]
  congr 1
  funext b
  simp
theorem wrap64_id {x : Int} (h0 : -9223372036854775808 ≤ x) (h1 : x < 9223372036854775808) : wrap64 x = x := by
  unfold wrap64; omega
theorem u64_id {x : Int} (h0 : 0 ≤ x) (h1 : x < 18446744073709551616) : IntKind.u64.wrap x = x := by
  simp only [IntKind.wrap, IntKind.bits, IntKind.signed]
  simp
  omega
theorem mn_le_left (a b : Int) : mn a b ≤ a := by unfold mn; split <;> omega
theorem mn_le_right (a b : Int) : mn a b ≤ b := by unfold mn; split <;> omega
theorem mn_cases (a b : Int) : mn a b = a ∨ mn a b = b := by unfold mn; split <;> simp
theorem mn_nat (a b : Nat) : mn (a : Int) (b : Int) = ((min a b : Nat) : Int) := by unfold mn; split <;> omega
theorem bits_u8 (o : BinOp) (f : BitVec 8 → BitVec 8 → BitVec 8) (h : ∀ x y : Int, Go.bits o .u8 x y = IntKind.u8.wrap ((f (BitVec.ofInt 8 x) (BitVec.ofInt 8 y)).toNat : Int)) (a b : UInt8) :
    Go.bits o .u8 (a.toNat : Int) (b.toNat : Int) = (((UInt8.ofBitVec (f a.toBitVec b.toBitVec)).toNat : Nat) : Int) := by
  rw [h]
  have hl := (f a.toBitVec b.toBitVec).isLt
  have ea : BitVec.ofInt 8 (a.toNat : Int) = a.toBitVec := by rw [BitVec.ofInt_natCast]; simp
  have eb : BitVec.ofInt 8 (b.toNat : Int) = b.toBitVec := by rw [BitVec.ofInt_natCast]; simp
  rw [ea, eb, IntKind.wrap_u8]
  have : (UInt8.ofBitVec (f a.toBitVec b.toBitVec)).toNat = (f a.toBitVec b.toBitVec).toNat := rfl
  rw [this]
  omega
theorem xor_u8 (a b : UInt8) : Go.bits .xor .u8 (a.toNat : Int) (b.toNat : Int) = ((a ^^^ b).toNat : Int) := bits_u8 .xor (· ^^^ ·) (fun _ _ => rfl) a b
theorem and_u8 (a b : UInt8) : Go.bits .and .u8 (a.toNat : Int) (b.toNat : Int) = ((a &&& b).toNat : Int) := bits_u8 .and (· &&& ·) (fun _ _ => rfl) a b
theorem or_u8 (a b : UInt8) : Go.bits .or .u8 (a.toNat : Int) (b.toNat : Int) = ((a ||| b).toNat : Int) := bits_u8 .or (· ||| ·) (fun _ _ => rfl) a b
theorem xor_u32 (a b : BitVec 32) : Go.bits .xor .u32 (a.toNat : Int) (b.toNat : Int) = ((a ^^^ b).toNat : Int) := by
  have h : ∀ x y : Int, Go.bits .xor .u32 x y = IntKind.u32.wrap ((BitVec.ofInt 32 x ^^^ BitVec.ofInt 32 y).toNat : Int) := fun _ _ => rfl
  have hl := (a ^^^ b).isLt
  rw [h]
  simp only [BitVec.ofInt_natCast, BitVec.ofNat_toNat, BitVec.setWidth_eq]
  rw [IntKind.wrap_u32]
  omega
theorem and_u32 (a b : BitVec 32) : Go.bits .and .u32 (a.toNat : Int) (b.toNat : Int) = ((a &&& b).toNat : Int) := by
  have h : ∀ x y : Int, Go.bits .and .u32 x y = IntKind.u32.wrap ((BitVec.ofInt 32 x &&& BitVec.ofInt 32 y).toNat : Int) := fun _ _ => rfl
  have hl := (a &&& b).isLt
  rw [h]
  simp only [BitVec.ofInt_natCast, BitVec.ofNat_toNat, BitVec.setWidth_eq]
  rw [IntKind.wrap_u32]
  omega
theorem bt_getD (l : List UInt8) (i : Nat) (h : i < l.length) : bt (B l) (i : Int) = ((l.getD i 0).toNat : Int) := by
  rw [bt_B l i (by simpa using h)]
  simp [List.getD_eq_getElem?_getD, h]
theorem take_min (l : List UInt8) (n : Nat) : l.take (min l.length n) = l.take n := by
  by_cases h : l.length ≤ n
  · rw [Nat.min_eq_left h, List.take_of_length_le (Nat.le_refl _), List.take_of_length_le h]
  · rw [Nat.min_eq_right (by omega)]
/-- The bit that a character stands for. -/
def bitB (b : UInt8) : UInt8 := 48 + (b &&& 1)
theorem bitB_int (b : UInt8) : (48 : Int) + Go.bits .and .u8 (b.toNat : Int) 1 = ((bitB b).toNat : Int) := by
  have h := and_u8 b 1
  have h1 : (((1 : UInt8).toNat : Nat) : Int) = 1 := rfl
  rw [h1] at h
  rw [h]
  have h2 : (b &&& 1).toNat < 2 := by
    rw [UInt8.toNat_and, show (1 : UInt8).toNat = 1 from rfl, Nat.and_one_is_mod]
    omega
  unfold bitB
  rw [UInt8.toNat_add, show (48 : UInt8).toNat = 48 from rfl]
  omega
theorem bitB_or (b : UInt8) : bitB b = 48 ∨ bitB b = 49 := by
  have h2 : (b &&& 1).toNat < 2 := by
    rw [UInt8.toNat_and, show (1 : UInt8).toNat = 1 from rfl, Nat.and_one_is_mod]
    omega
  unfold bitB
  rcases (show (b &&& 1).toNat = 0 ∨ (b &&& 1).toNat = 1 by omega) with h | h
  · left
    have : b &&& 1 = 0 := UInt8.toNat_inj.1 h
    rw [this]; rfl
  · right
    have : b &&& 1 = 1 := UInt8.toNat_inj.1 h
    rw [this]; rfl
/-- A row of n numbers of which the first i are told by f. -/
def fillRow (f : Nat → UInt8) (n i : Nat) : List Int := (List.range n).map fun j => if j < i then ((f j).toNat : Int) else 0
theorem fillRow_len (f : Nat → UInt8) (n i : Nat) : (fillRow f n i).length = n := by simp [fillRow]
theorem fillRow_zero (f : Nat → UInt8) (n : Nat) : fillRow f n 0 = List.replicate n 0 := by
  apply List.ext_getElem
  · simp [fillRow]
  · intro j h1 h2; simp [fillRow]
theorem fillRow_set (f : Nat → UInt8) (n i : Nat) : (fillRow f n i).set i ((f i).toNat : Int) = fillRow f n (i + 1) := by
  apply List.ext_getElem
  · simp [fillRow]
  · intro j h1 h2
    rw [List.getElem_set]
    by_cases h : i = j
    · subst h; simp [fillRow]
    · rw [if_neg h]
      simp only [fillRow, List.getElem_map, List.getElem_range]
      by_cases h3 : j < i
      · rw [if_pos h3, if_pos (by omega)]
      · rw [if_neg h3, if_neg (by omega)]
theorem fillRow_full (f : Nat → UInt8) (n : Nat) : fillRow f n n = ((List.range n).map f).map fun b => (b.toNat : Int) := by
  unfold fillRow
  rw [List.map_map]
  apply List.map_congr_left
  intro j hj
  rw [if_pos (List.mem_range.1 hj)]
  rfl
end Go.Proofs.YtjooddmlkikldaaDoor
