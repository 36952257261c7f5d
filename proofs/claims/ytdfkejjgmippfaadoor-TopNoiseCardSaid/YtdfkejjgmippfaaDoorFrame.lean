import Derived.Test.YtdfkejjgmippfaaDoorBurst
import Derived.Test.YtdfkejjgmippfaaDoorQuintD
/- Frames as bytes, and a change of one byte. -/
namespace Go.Proofs.YtdfkejjgmippfaaDoor.Crc
theorem halfs_inj {n : Nat} {a b : BitVec 32} (h : halfs n a = halfs n b) : a = b := by
  have h0 : halfs n (a ^^^ b) = 0#32 := by rw [halfs_xor, h, BitVec.xor_self]
  have h1 := halfs_eq_zero h0
  have h2 := congrArg (fun v => v ^^^ b) h1
  simp only [BitVec.xor_assoc, BitVec.xor_self, BitVec.xor_zero, BitVec.zero_xor] at h2
  exact h2
theorem run_inj {c d : BitVec 32} {l : List UInt8} (h : run c l = run d l) : c = d := by
  rw [run_of_zero c l, run_of_zero d l] at h
  have h2 := congrArg (fun v => v ^^^ run 0#32 l) h
  simp only [BitVec.xor_assoc, BitVec.xor_self, BitVec.xor_zero] at h2
  exact halfs_inj h2
theorem step_inj {c : BitVec 32} {a b : UInt8} (h : step c a = step c b) : a = b := by
  rw [step_halfs, step_halfs] at h
  have h1 := halfs_inj h
  have h2 := congrArg (fun v => c ^^^ v) h1
  simp only [← BitVec.xor_assoc, BitVec.xor_self, BitVec.zero_xor] at h2
  have h3 := congrArg BitVec.toNat h2
  simp only [BitVec.toNat_setWidth] at h3
  have ha := a.toBitVec.isLt
  have hb := b.toBitVec.isLt
  apply UInt8.toBitVec_inj.1
  apply BitVec.eq_of_toNat_eq
  omega
theorem run_set {c : BitVec 32} {l : List UInt8} {q : Nat} {b : UInt8} (hq : q < l.length) (h : run c (l.set q b) = run c l) : b = l[q] := by
  have e1 : l = l.take q ++ l[q] :: l.drop (q + 1) := by rw [List.getElem_cons_drop, List.take_append_drop]
  have e2 : l.set q b = l.take q ++ b :: l.drop (q + 1) := by rw [List.set_eq_take_append_cons_drop, if_pos hq]
  rw [e2] at h
  conv at h => rhs; rw [e1]
  rw [run_append, run_append, run_cons, run_cons] at h
  exact step_inj (run_inj h)
theorem seal_one (l : List UInt8) (q : Nat) (b : UInt8) (hb : (sealL l).set q b ≠ sealL l) : sealL (((sealL l).set q b).take l.length) ≠ (sealL l).set q b := by
  intro h
  by_cases hl : q < l.length
  · have e : (sealL l).set q b = l.set q b ++ trail (sumL l) := by unfold sealL; rw [List.set_append_left _ _ hl]
    have e2 : ((sealL l).set q b).take l.length = l.set q b := by rw [e, List.take_left' (by simp)]
    rw [e2, e, sealL] at h
    have h1 := trail_inj (List.append_cancel_left h)
    rw [sumL_eq, sumL_eq] at h1
    have h2 := run_set hl (BitVec.not_inj.1 h1)
    apply hb
    rw [e, h2, List.set_getElem_self]
    rfl
  · have e2 : ((sealL l).set q b).take l.length = l := by
      unfold sealL
      rw [List.set_append_right _ _ (by omega), List.take_left]
    rw [e2] at h
    exact hb h.symm
end Go.Proofs.YtdfkejjgmippfaaDoor.Crc
namespace Go.Proofs.YtdfkejjgmippfaaDoor.Frame
open Go.Proofs.YtdfkejjgmippfaaDoor Crc
def numL (n k : Nat) : List UInt8 := (List.range k).map fun j => UInt8.ofNat (n / 256 ^ (k - 1 - j))
theorem numL_len (n k : Nat) : (numL n k).length = k := by simp [numL]
def valL (l : List UInt8) : Nat := l.foldl (fun n b => n * 256 + b.toNat) 0
theorem valL_snoc (l : List UInt8) (b : UInt8) : valL (l ++ [b]) = valL l * 256 + b.toNat := by simp [valL]
theorem numL_succ (n k : Nat) : numL n (k + 1) = numL (n / 256) k ++ [UInt8.ofNat n] := by
  unfold numL
  rw [List.range_succ, List.map_append]
  congr 1
  · apply List.map_congr_left
    intro j hj
    have hj := List.mem_range.1 hj
    rw [show k + 1 - 1 - j = (k - 1 - j) + 1 by omega, Nat.pow_succ, Nat.mul_comm, ← Nat.div_div_eq_div_mul]
  · simp
theorem valL_num (k : Nat) : ∀ n, valL (numL n k) = n % 256 ^ k := by
  induction k with
  | zero => intro n; simp [numL, valL, Nat.mod_one]
  | succ k ih =>
    intro n
    have e : n % 256 ^ (k + 1) = n % 256 + 256 * (n / 256 % 256 ^ k) := by rw [Nat.pow_succ', Nat.mod_mul]
    rw [numL_succ, valL_snoc, ih, UInt8.toNat_ofNat', e]
    omega
theorem valL_bound (l : List UInt8) : ∀ n : Nat, l.foldl (fun n b => n * 256 + b.toNat) n < (n + 1) * 256 ^ l.length := by
  induction l with
  | nil => intro n; simp
  | cons b l ih =>
    intro n
    have hb := b.toNat_lt
    simp only [List.foldl_cons, List.length_cons, Nat.pow_succ]
    refine Nat.lt_of_lt_of_le (ih _) ?_
    rw [Nat.mul_comm (256 ^ l.length) 256, ← Nat.mul_assoc]
    exact Nat.mul_le_mul_right _ (by omega)
theorem valL_lt (l : List UInt8) : valL l < 256 ^ l.length := by
  have := valL_bound l 0
  simpa [valL] using this
def encD (d s t y : Nat) (body : List UInt8) : List UInt8 :=
  ((numL d 6 ++ numL s 6) ++ if 0 < t then numL 33024 2 ++ numL t 2 else []) ++ ((numL y 2 ++ numL body.length 2) ++ body)
def encF (d s t y : Nat) (body : List UInt8) : List UInt8 := encD d s t y body ++ List.replicate (60 - (encD d s t y body).length) 0
theorem encD_len (d s t y : Nat) (body : List UInt8) : (encD d s t y body).length = (if 0 < t then 20 else 16) + body.length := by
  unfold encD
  simp only [List.length_append, numL_len]
  split <;> simp [numL_len] <;> omega
theorem encF_len (d s t y : Nat) (body : List UInt8) : (encF d s t y body).length = max 60 ((if 0 < t then 20 else 16) + body.length) := by
  unfold encF
  rw [List.length_append, List.length_replicate, encD_len]
  split <;> omega
end Go.Proofs.YtdfkejjgmippfaaDoor.Frame
namespace Go.Proofs.YtdfkejjgmippfaaDoor.Frame
open Go.Proofs.YtdfkejjgmippfaaDoor Quint
theorem decG_append (k : Nat) (v : List UInt8) : ∀ (a : Nat) (u : List UInt8), u.length = 10 * a → decG (a + k) (u ++ v) = (decG a u).bind fun l => (decG k v).map (l ++ ·)
  | 0, u, h => by
    obtain rfl : u = [] := List.eq_nil_of_length_eq_zero (by omega)
    rw [Nat.zero_add, List.nil_append, decG]
    simp
  | a + 1, u, h => by
    rw [show a + 1 + k = (a + k) + 1 by omega, decG, decG, List.take_append_of_le_length (by omega), List.drop_append_of_le_length (by omega), decG_append k v a (u.drop 10) (by simp; omega)]
    cases dec10 (u.take 10) with
    | none => rfl
    | some b =>
      simp only [Option.bind_some]
      cases decG a (u.drop 10) with
      | none => rfl
      | some l =>
        simp only [Option.bind_some, Option.map_some]
        cases decG k v <;> rfl
/-- A line that is that of x but for the group of byte q. -/
def Grp (x : List UInt8) (q : Nat) (L : List UInt8) : Prop := ∃ g : List UInt8, g.length = 10 ∧ (∀ b ∈ g, bit b) ∧ L = encL (x.take q) ++ (g ++ encL (x.drop (q + 1)))
theorem grp_start (x : List UInt8) (q : Nat) (hq : q < x.length) : Grp x q (encL x) := by
  refine ⟨encB x[q], encB_len _, encB_bits _, ?_⟩
  have e : x = x.take q ++ x[q] :: x.drop (q + 1) := by rw [List.getElem_cons_drop, List.take_append_drop]
  conv => lhs; rw [e]
  rw [encL_append]
  rfl
theorem grp_len {x : List UInt8} {q : Nat} {L : List UInt8} (h : Grp x q L) (hq : q < x.length) : L.length = 10 * x.length := by
  obtain ⟨g, h1, _, rfl⟩ := h
  simp only [List.length_append, encL_len, List.length_take, List.length_drop, h1]
  omega
theorem grp_bits {x : List UInt8} {q : Nat} {L : List UInt8} (h : Grp x q L) : ∀ b ∈ L, bit b := by
  obtain ⟨g, _, h2, rfl⟩ := h
  intro b hb
  rcases List.mem_append.1 hb with hb | hb
  · exact encL_bits _ b hb
  · rcases List.mem_append.1 hb with hb | hb
    · exact h2 b hb
    · exact encL_bits _ b hb
theorem grp_set {x : List UInt8} {q i : Nat} {L : List UInt8} {b : UInt8} (h : Grp x q L) (hq : q < x.length) (hi : i < 10) (hb : bit b) : Grp x q (L.set (10 * q + i) b) := by
  obtain ⟨g, h1, h2, rfl⟩ := h
  refine ⟨g.set i b, by simpa using h1, fun c hc => ?_, ?_⟩
  · rcases List.mem_or_eq_of_mem_set hc with hc | rfl
    · exact h2 c hc
    · exact hb
  · have hl : (encL (x.take q)).length = 10 * q := by rw [encL_len, List.length_take]; omega
    rw [List.set_append_right _ _ (by omega), hl, Nat.add_sub_cancel_left, List.set_append_left _ _ (by omega)]
theorem grp_dec {x : List UInt8} {q : Nat} {L : List UInt8} (h : Grp x q L) (hq : q < x.length) : decL L = ([], 11) ∨ ∃ b, decL L = (x.set q b, 0) := by
  have hl := grp_len h hq
  obtain ⟨g, h1, h2, rfl⟩ := h
  unfold decL
  rw [if_pos (by omega), hl, Nat.mul_div_cancel_left _ (by omega)]
  have e1 : x.length = q + (1 + (x.length - (q + 1))) := by omega
  have hlq : (encL (x.take q)).length = 10 * q := by rw [encL_len, List.length_take]; omega
  have d1 := decG_append (1 + (x.length - (q + 1))) (g ++ encL (x.drop (q + 1))) q (encL (x.take q)) hlq
  have d2 := decG_append (x.length - (q + 1)) (encL (x.drop (q + 1))) 1 g (by omega)
  have d3 := decG_enc (x.take q)
  have d4 := decG_enc (x.drop (q + 1))
  rw [List.length_take, Nat.min_eq_left (by omega)] at d3
  rw [List.length_drop] at d4
  rw [← e1] at d1
  rw [d1, d3, d2, d4]
  have tg : g.take 10 = g := List.take_of_length_le (by omega)
  simp only [Option.bind_some, decG, Option.map_some]
  rw [tg]
  cases dec10 g with
  | none => exact .inl rfl
  | some b =>
    right
    refine ⟨b, ?_⟩
    simp only [Option.bind_some, Option.map_some]
    rw [List.set_eq_take_append_cons_drop, if_pos hq]
    rfl
end Go.Proofs.YtdfkejjgmippfaaDoor.Frame
