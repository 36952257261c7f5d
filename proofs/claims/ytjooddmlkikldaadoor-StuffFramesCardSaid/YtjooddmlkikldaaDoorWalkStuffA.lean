/- Written by hand (this repository's wip/walk/StuffA.in): the calls of chapter 4 over lists of bytes. No condition beside those in the statements. -/
import Derived.Test.YtjooddmlkikldaaDoorM0
import Derived.Test.YtjooddmlkikldaaDoorM1
import Derived.Test.YtjooddmlkikldaaDoorCuts
import Derived.Test.YtjooddmlkikldaaDoorShelf
namespace Go.Proofs.YtjooddmlkikldaaDoor.M
open Go.RowKit Go.Proofs.YtjooddmlkikldaaDoorW.PrintWords Go.Proofs.YtjooddmlkikldaaDoorW.PrintLast Go.Proofs.YtjooddmlkikldaaDoorW.PrintMore
attribute [local go_sem] max2_int min2_int max_two min_two max_three min_three max_four min_four
set_option linter.unusedVariables false
set_option linter.unusedSimpArgs false
open Go.Proofs.YtjooddmlkikldaaDoor.Cuts
def MaxCell (w : World) : Prop := ∃ m : Int, w.cell? ⟨0, 0, none⟩ = some (.int .i64 m)
theorem MaxCell.below {w w' : World} (h : MaxCell w) (hb : Below w.heap.size w w') : MaxCell w' := by
  obtain ⟨m, hm⟩ := h
  exact ⟨m, (hb.cell (block_lt_of_cell hm)).trans hm⟩
theorem bits_getD (l : List UInt8) (h : Bits l) (i : Nat) (hi : i < l.length) : isBit (l.getD i 0) := by
  have : l.getD i 0 = l[i] := by simp [List.getD_eq_getElem?_getD, hi]
  rw [this]
  exact h _ (List.getElem_mem hi)
theorem good_l0 (l : List UInt8) (hl : l.length ≤ 1000000) (hb : Bits l) : ∀ (d i : Nat), i + d = l.length → Ev (fun k => stuff_good.l0 k (B l) (l.length : Int) (i : Int)) 0 := by
  intro d
  induction d with
  | zero =>
    intro i hi
    refine ⟨1, fun k hk => ?_⟩
    obtain ⟨k, rfl⟩ : ∃ m, k = m + 1 := ⟨k - 1, by omega⟩
    simp only [stuff_good.l0]
    rw [if_neg (by omega)]
  | succ d ih =>
    intro i hi
    have hil : i < l.length := by omega
    refine Ev.step (f := fun k => stuff_good.l0 k (B l) (l.length : Int) ((i + 1 : Nat) : Int)) (fun k => ?_) (ih (i + 1) (by omega))
    simp only [stuff_good.l0, size_B]
    rw [if_pos (by omega), if_pos (by omega), if_pos (by omega), bt_getD l i hil, wrap64_id (by omega) (by omega)]
    rcases bits_getD l hb i hil with h | h
    · rw [if_pos (by rw [h]; rfl)]; rfl
    · rw [if_neg (by rw [h]; decide), if_pos (by rw [h]; rfl)]; rfl
theorem good_f (l : List UInt8) (m : Nat) (hm : m ≤ 1000000) (hl : l.length ≤ m) (hb : Bits l) : Ev (fun k => stuff_good.f k (B l) (m : Int)) 0 := by
  have h := good_l0 l (by omega) hb l.length 0 (by omega)
  unfold stuff_good.f
  have e : ¬ ((l.length : Int) > (m : Int)) := by omega
  simp only [size_B, e, if_false]
  exact h
theorem stuff_f (l : List UInt8) (hl : l.length ≤ 8192) (hb : Bits l) : Ev (fun k => stuff_Stuff.f k (B l)) (B (stuffL 0 l), 0) := by
  unfold stuff_Stuff.f
  have h := good_f l 8192 (by omega) hl hb
  rw [show ((8192 : Nat) : Int) = 8192 from rfl] at h
  refine Ev.bind h ⟨0, fun k _ => ?_⟩
  rw [if_pos rfl, B_data]
theorem cut_f (l : List UInt8) (n : Nat) : patchbaykeep1_cut.f (B l) (n : Int) = some (B (l.take n)) := by
  unfold patchbaykeep1_cut.f
  have hm : mn ((B l).size : Int) (n : Int) = ((min l.length n : Nat) : Int) := by rw [size_B]; exact mn_nat _ n
  rw [hm, size_B, if_pos (by omega), if_pos (by omega), Int.toNat_natCast, B_take, take_min]
theorem bitString_f (l : List UInt8) (n : Nat) (hl : l.length ≤ 9223372036854775807) : patchbaykeep1_bitString.f (B l) (n : Int) = some (B ((l.take n).map bitB)) := by
  unfold patchbaykeep1_bitString.f
  rw [cut_f]
  simp only [Option.bind_some]
  rw [if_pos (by rw [size_B]; simp; omega), B_data]
theorem works_f : Ev (fun k => patchbaykeep1_stuffWorks.f k) true := by
  unfold patchbaykeep1_stuffWorks.f
  have hb : Bits [49, 49, 49, 49, 49, 49] := by
    intro b hb
    simp only [List.mem_cons, List.not_mem_nil, or_false, or_self] at hb
    exact .inr hb
  refine Ev.bind (a := (B (stuffL 0 [49, 49, 49, 49, 49, 49]), 0)) (stuff_f [49, 49, 49, 49, 49, 49] (by decide) hb) ⟨0, fun k _ => ?_⟩
  simp only [if_true, B_toList]
  decide
/-! ### The calls, over lists of bytes -/
theorem st_works (w : World) : Calls Tryd.prog 5 #[] w fun e w' => e = .returned (.bool true) ∧ Below w.heap.size w w' := by
  obtain ⟨k, hk⟩ := works_f
  exact patchbaykeep1_stuffWorks.calls k true w (hk k (Nat.le_refl _))
theorem st_stuff (l : List UInt8) (hl : l.length ≤ 8192) (hb : Bits l) (w : World) :
    Calls Tryd.prog 10 #[.string (B l)] w fun e w' => e = .returned (.tuple #[.string (B (stuffL 0 l)), .int .i64 0]) ∧ Below w.heap.size w w' := by
  obtain ⟨k, hk⟩ := stuff_f l hl hb
  exact stuff_Stuff.calls k _ _ _ w (hk k (Nat.le_refl _))
theorem st_good (l : List UInt8) (hl : l.length ≤ 32768) (hb : Bits l) (w : World) :
    Calls Tryd.prog 13 #[.string (B l), .int .i64 32768] w fun e w' => e = .returned (.int .i64 0) ∧ Drawn0 w w' := by
  obtain ⟨k, hk⟩ := good_f l 32768 (by omega) hl hb
  exact stuff_good.calls k _ _ _ w (hk k (Nat.le_refl _))
theorem st_unstuff (l : List UInt8) (hl : l.length ≤ 1000000) (w : World) :
    Calls Tryd.prog 15 #[.string (B l)] w fun e w' => e = .returned (.tuple #[.string (unstuffR l).1, .int .i64 (unstuffR l).2]) ∧ Below w.heap.size w w' := by
  refine stuff_unstuff.calls _ _ _ w ?_
  unfold stuff_unstuff.f
  rw [size_B, if_pos hl, B_data]
theorem st_bits (l : List UInt8) (n : Nat) (hl : l.length ≤ 9223372036854775807) (w : World) :
    Calls Tryd.prog 7 #[.string (B l), .int .i64 (n : Int)] w fun e w' => e = .returned (.string (B ((l.take n).map bitB))) ∧ Below w.heap.size w w' :=
  patchbaykeep1_bitString.calls _ _ _ w (bitString_f l n hl)
theorem splitB_eq (s sep : ByteArray) (k : Nat) : Lib.splitB sep 0 k s = (Lib.splitK sep.data.toList 0 k s.data.toList).map B := by
  rw [← Lib.splitB_data, List.map_map]
  conv => lhs; rw [← List.map_id (Lib.splitB sep 0 k s)]
  congr 1
theorem st_split (l : List UInt8) (hl : l.length ≤ 40000) (w : World) (hm : MaxCell w) (n : Nat) (hn : (Lib.split l FL).length = n) :
    Calls Tryd.prog 14 #[.string (B l), .string ⟨#[48, 49, 49, 49, 49, 49, 49, 48]⟩] w fun e w' => e = .returned (.slice (some ⟨w.heap.size, 0, none⟩) n n) ∧ w' = w.alloc (.cells ((Lib.split l FL).map fun x => Value.string (B x)).toArray 9) := by
  obtain ⟨m, hm⟩ := hm
  have h := Tryd.strings_Split (B l) ⟨#[48, 49, 49, 49, 49, 49, 49, 48]⟩ m w (by rw [size_B]; omega) hm (by decide)
  have e1 : Lib.splitB ⟨#[48, 49, 49, 49, 49, 49, 49, 48]⟩ 0 (Lib.countB (B l) ⟨#[48, 49, 49, 49, 49, 49, 49, 48]⟩) (B l) = (Lib.split l FL).map B := by
    rw [splitB_eq, B_data]
    unfold Lib.split Lib.countB
    rw [B_data]
    rfl
  have e2 := Lib.splitB_all ⟨#[48, 49, 49, 49, 49, 49, 49, 48]⟩ (by decide) 0 _ (B l) rfl
  rw [e1, List.length_map, hn] at e2
  rw [e1, List.map_map, ← e2] at h
  exact h
set_option maxHeartbeats 8000000 in
set_option maxRecDepth 100000 in
theorem st_wrap (l : List UInt8) (hl : l.length ≤ 8192) (hb : Bits l) (w : World) :
    Calls Tryd.prog 6 #[.string (B l)] w fun e w' => e = .returned (.tuple #[.string (B (FL ++ (stuffL 0 l ++ FL))), .int .i64 0]) ∧ Below w.heap.size w w' := by
  have HS := Aside0.mk (st_stuff l hl hb w)
  have hle := stuffL_len l 0 (by omega)
  have hsz : (B (stuffL 0 l)).size ≤ 20000 := by rw [size_B]; omega
  have hsz2 : ((⟨#[48, 49, 49, 49, 49, 49, 49, 48]⟩ : ByteArray) ++ B (stuffL 0 l)).size ≤ 30000 := by rw [ByteArray.size_append]; show 8 + _ ≤ _; omega
  have HEQ : Aside0 (((⟨#[48, 49, 49, 49, 49, 49, 49, 48]⟩ : ByteArray) ++ B (stuffL 0 l)) ++ (⟨#[48, 49, 49, 49, 49, 49, 49, 48]⟩ : ByteArray) = B (FL ++ (stuffL 0 l ++ FL))) := ⟨by
    show (B FL ++ B (stuffL 0 l)) ++ B FL = _
    rw [B_append, B_append, List.append_assoc]⟩
  clear hle
  generalize B (stuffL 0 l) = S at *
  go_enter Tryd.func6, Tryd.ntmps6
  go_wp2_with fail
  refine HS.out.mono ?_
  rintro e w1 ⟨rfl, hb1⟩
  have HB1 := Aside0.mk hb1
  clear hb1
  go_wp2
  go_ret2
  exact ⟨by rw [HEQ.out]; rfl, HB1.out⟩

end Go.Proofs.YtjooddmlkikldaaDoor.M
