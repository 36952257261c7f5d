/- Bit stuffing over lists of bytes. -/
namespace Go.Proofs.YtjooddmlkikldaaDoor
/-- What Stuff writes, with n ones written last. -/
def stuffL : Nat → List UInt8 → List UInt8
  | _, [] => []
  | n, b :: l => if b = 48 then b :: stuffL 0 l else if n + 1 = 5 then b :: 48 :: stuffL 0 l else b :: stuffL (n + 1) l
/-- What unstuff reads, with n ones read last: the bits, or an error: 11 (six ones), 9 (five ones at the end). -/
def unstuffL : Nat → List UInt8 → List UInt8 ⊕ Int
  | n, [] => if n = 5 then .inr 9 else .inl []
  | n, b :: l => if n = 5 then (if b = 49 then .inr 11 else unstuffL 0 l) else
      match unstuffL (if b = 48 then 0 else n + 1) l with
      | .inl t => .inl (b :: t)
      | .inr e => .inr e
def preL (acc : List UInt8) : List UInt8 ⊕ Int → List UInt8 ⊕ Int
  | .inl t => .inl (acc ++ t)
  | .inr e => .inr e
theorem preL_nil (r : List UInt8 ⊕ Int) : preL [] r = r := by cases r <;> rfl
theorem preL_snoc (acc : List UInt8) (b : UInt8) (r : List UInt8 ⊕ Int) : preL (acc ++ [b]) r = preL acc (match r with | .inl t => .inl (b :: t) | .inr e => .inr e) := by
  cases r <;> simp [preL]
end Go.Proofs.YtjooddmlkikldaaDoor
