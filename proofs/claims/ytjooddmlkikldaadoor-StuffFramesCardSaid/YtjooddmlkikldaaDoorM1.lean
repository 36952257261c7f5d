/- Written by wip/myprint.py of this repository (a driver over the kit's print; no print of print.sh) for the seat YtjooddmlkikldaaDoor: contracts of functions and rows of laws, each stated whole in its theorem; no condition beside those in the statements. -/
import Derived.Test.YtjooddmlkikldaaDoorM0
namespace Go.Proofs.YtjooddmlkikldaaDoor.M
open Go.RowKit Go.Proofs.YtjooddmlkikldaaDoorW.PrintWords Go.Proofs.YtjooddmlkikldaaDoorW.PrintLast Go.Proofs.YtjooddmlkikldaaDoorW.PrintMore
attribute [local go_sem] max2_int min2_int max_two min_two max_three min_three max_four min_four   -- for this text's walks alone
set_option linter.unusedVariables false
set_option linter.unusedSimpArgs false

/-! ### stuff_good: function 13 -/
def stuff_good.l0 : Nat → ByteArray → Int → Int → Option (Int)
  | 0, _, _, _ => none
  | k + 1, x0, x11, x12 => if x12 < x11 then (if 0 ≤ x12 then (if x12 < (x0.size : Int) then (if (bt x0 x12) = 48 then (stuff_good.l0 k x0 x11 (wrap64 (x12 + 1))) else (if (bt x0 x12) = 49 then (stuff_good.l0 k x0 x11 (wrap64 (x12 + 1))) else (some 3))) else (none)) else (none)) else (some 0)
def stuff_good.f (k : Nat) (a0 : ByteArray) (a1 : Int) : Option (Int) := if (a0.size : Int) > a1 then (some 2) else (stuff_good.l0 k a0 (a0.size : Int) 0)
theorem stuff_good.mono_l : ∀ k, (∀ y0 y1 y2, LeO (stuff_good.l0 k y0 y1 y2) (stuff_good.l0 (k + 1) y0 y1 y2))
  | 0 => fun _ _ _ r h => by simp [stuff_good.l0] at h
  | k + 1 => by
    have ih0 := stuff_good.mono_l k
    · intro y0 y1 y2
      unfold stuff_good.l0
      repeat' first
      | (with_reducible exact ih0 _ _ _)
      | (with_reducible exact LeO.refl _)
      | (with_reducible exact LeO.none _)
      | (with_reducible refine LeO.ite ?_ ?_)
      | (with_reducible refine LeO.bind ?_ (fun _ => ?_))
      | exact ih0 _ _ _
      | exact LeO.none _
      | refine LeO.ite ?_ ?_
      | refine LeO.bind ?_ (fun _ => ?_)
theorem stuff_good.mono : ∀ a0 a1 k, LeO (stuff_good.f k a0 a1) (stuff_good.f (k + 1) a0 a1) := by
  intro a0 a1 k
  have ih0 := stuff_good.mono_l k
  unfold stuff_good.f
  repeat' first
      | (with_reducible exact ih0 _ _ _)
      | (with_reducible exact LeO.refl _)
      | (with_reducible exact LeO.none _)
      | (with_reducible refine LeO.ite ?_ ?_)
      | (with_reducible refine LeO.bind ?_ (fun _ => ?_))
      | exact ih0 _ _ _
      | exact LeO.none _
      | refine LeO.ite ?_ ?_
      | refine LeO.bind ?_ (fun _ => ?_)
set_option maxHeartbeats 8000000 in
set_option maxRecDepth 100000 in
theorem stuff_good.calls (k : Nat) (a0 : ByteArray) (a1 : Int) (r : Int) (w : World) (h : stuff_good.f k a0 a1 = some r) :
    Calls Tryd.prog 13 #[.string a0, .int .i64 a1] w fun e w' => e = .returned (.int .i64 r) ∧ Drawn0 w w' := by
  have H : (if (a0.size : Int) > a1 then (some 2) else (stuff_good.l0 k a0 (a0.size : Int) 0)) = some r := h
  clear h
  by_cases c3 : (a0.size : Int) > a1
  · rw [if_pos c3] at H
    have c3b0 : decide (a1 < (a0.size : Int)) = true := decide_eq_true c3
    clear c3
    obtain rfl := Option.some.inj H
    go_enter Tryd.func13, Tryd.ntmps13
    go_wp2
    go_ret
    exact ⟨by first | rfl | (simp; done) | (simp [*]; done), by repeat (first | exact Drawn0.refl _ | apply Drawn0.step)⟩
  · rw [if_neg c3] at H
    have c3b0 : decide (a1 < (a0.size : Int)) = false := decide_eq_false c3
    clear c3
    have H' := Aside0.mk H
    clear H
    go_enter Tryd.func13, Tryd.ntmps13
    go_wp2
    go_loopg [12] k (fun kq v12 w' => ∃ (x12_1 : Int), v12 = .int .i64 x12_1 ∧ Aside0 (stuff_good.l0 kq a0 (a0.size : Int) x12_1 = some r) ∧ Aside0 (kq ≤ k) ∧ Drawn0 w w')
    case atStart => exact ⟨(0), (by first | rfl | (simp; done) | (simp [*]; done)), H', ⟨Nat.le_refl _⟩, by repeat (first | exact Drawn0.refl _ | apply Drawn0.step)⟩
    case round =>
      clear H'
      try clear c1
      try clear p2
      try clear c3
      try clear c3b0
      obtain ⟨x12_1, rfl, HA, HK1, ⟨m1, rfl⟩⟩ := hrel
      cases gk with
      | zero => exact absurd HA.out (by simp [stuff_good.l0])
      | succ k1 =>
        have H := HA.out
        clear HA
        simp only [stuff_good.l0] at H
        by_cases c4 : x12_1 < (a0.size : Int)
        · rw [if_pos c4] at H
          have c4b0 : decide (x12_1 < (a0.size : Int)) = true := decide_eq_true c4
          clear c4
          by_cases c5 : 0 ≤ x12_1
          · rw [if_pos c5] at H
            have c5b0 : decide (0 ≤ x12_1) = true := decide_eq_true c5
            clear c5
            by_cases c6 : x12_1 < (a0.size : Int)
            · rw [if_pos c6] at H
              have c6b0 : decide (x12_1 < (a0.size : Int)) = true := decide_eq_true c6
              clear c6
              by_cases c8 : (bt a0 x12_1) = 48
              · rw [if_pos c8] at H
                have c8b0 : ((bt a0 x12_1) == 48) = true := beq_iff_eq.mpr c8
                have c8b1 : ((bt a0 x12_1) != 48) = false := bne_eq_false_iff_eq.mpr c8
                clear c8
                have H' := Aside0.mk H
                clear H
                have p7 : 0 ≤ (x12_1 : Int) := of_decide_eq_true (by first | (with_reducible assumption) | assumption)
                have q7 : x12_1 < (a0.size : Int) := of_decide_eq_true (by first | (with_reducible assumption) | assumption)
                have hx7 := bt_at a0 x12_1
                replace p7 := eq_true p7
                replace q7 := eq_true q7
                go_wp2
                go_roundg k1
                case measure => have := HK1.out; omega
                case rel => exact ⟨(wrap64 (x12_1 + 1)), (by first | rfl | (simp; done) | (simp [*]; done)), H', ⟨by have := HK1.out; omega⟩, by repeat (first | exact Drawn0.refl _ | apply Drawn0.step)⟩
              · rw [if_neg c8] at H
                have c8b0 : ((bt a0 x12_1) == 48) = false := beq_eq_false_iff_ne.mpr c8
                have c8b1 : ((bt a0 x12_1) != 48) = true := bne_iff_ne.mpr c8
                by_cases c10 : (bt a0 x12_1) = 49
                · rw [if_pos c10] at H
                  have c10b0 : ((bt a0 x12_1) == 49) = true := beq_iff_eq.mpr c10
                  have c10b1 : ((bt a0 x12_1) != 49) = false := bne_eq_false_iff_eq.mpr c10
                  clear c10
                  have H' := Aside0.mk H
                  clear H
                  have p7 : 0 ≤ (x12_1 : Int) := of_decide_eq_true (by first | (with_reducible assumption) | assumption)
                  have q7 : x12_1 < (a0.size : Int) := of_decide_eq_true (by first | (with_reducible assumption) | assumption)
                  have hx7 := bt_at a0 x12_1
                  replace p7 := eq_true p7
                  replace q7 := eq_true q7
                  have p9 : 0 ≤ (x12_1 : Int) := of_decide_eq_true (by first | (with_reducible assumption) | assumption)
                  have q9 : x12_1 < (a0.size : Int) := of_decide_eq_true (by first | (with_reducible assumption) | assumption)
                  have hx9 := bt_at a0 x12_1
                  replace p9 := eq_true p9
                  replace q9 := eq_true q9
                  go_wp2
                  go_roundg k1
                  case measure => have := HK1.out; omega
                  case rel => exact ⟨(wrap64 (x12_1 + 1)), (by first | rfl | (simp; done) | (simp [*]; done)), H', ⟨by have := HK1.out; omega⟩, by repeat (first | exact Drawn0.refl _ | apply Drawn0.step)⟩
                · rw [if_neg c10] at H
                  have c10b0 : ((bt a0 x12_1) == 49) = false := beq_eq_false_iff_ne.mpr c10
                  have c10b1 : ((bt a0 x12_1) != 49) = true := bne_iff_ne.mpr c10
                  obtain rfl := Option.some.inj H
                  have p7 : 0 ≤ (x12_1 : Int) := of_decide_eq_true (by first | (with_reducible assumption) | assumption)
                  have q7 : x12_1 < (a0.size : Int) := of_decide_eq_true (by first | (with_reducible assumption) | assumption)
                  have hx7 := bt_at a0 x12_1
                  replace p7 := eq_true p7
                  replace q7 := eq_true q7
                  have p9 : 0 ≤ (x12_1 : Int) := of_decide_eq_true (by first | (with_reducible assumption) | assumption)
                  have q9 : x12_1 < (a0.size : Int) := of_decide_eq_true (by first | (with_reducible assumption) | assumption)
                  have hx9 := bt_at a0 x12_1
                  replace p9 := eq_true p9
                  replace q9 := eq_true q9
                  go_wp2
                  go_ret
                  exact ⟨by first | rfl | (simp; done) | (simp [*]; done), by repeat (first | exact Drawn0.refl _ | apply Drawn0.step)⟩
            · rw [if_neg c6] at H
              exact absurd H (by simp)
          · rw [if_neg c5] at H
            exact absurd H (by simp)
        · rw [if_neg c4] at H
          have c4b0 : decide (x12_1 < (a0.size : Int)) = false := decide_eq_false c4
          clear c4
          obtain rfl := Option.some.inj H
          go_wp2
          go_ret
          exact ⟨by first | rfl | (simp; done) | (simp [*]; done), by repeat (first | exact Drawn0.refl _ | apply Drawn0.step)⟩

/-! ### Builder_WriteByte: function 16 -/
/-! The shelf's contract of WriteByte at this program's numbers: its table and the facts that it asks. -/
open Go.Shelf in
def bldq_ren : Go.Shelf.Ren := ⟨fun | 167 => 16 | 240 => 19 | 276 => 23 | n => n,
  fun | 0 => 0 | 4 => 4 | 5 => 5 | 9 => 9 | 20 => 20 | 37 => 34 | 70 => 38 | 72 => 40 | 75 => 42 | 80 => 44 | 164 => 49 | n => n, fun | n => n⟩
theorem bldq_lays : Go.Proofs.Lays.n167 Tryd.prog bldq_ren := {
  mixed := by kernel_rfl
  f167 := by kernel_rfl
  f240 := by kernel_rfl
  f276 := by kernel_rfl
  t0 := by kernel_rfl
  a0 := fun _ => by kernel_rfl
  z0 := fun _ => by kernel_rfl
  v0 := fun _ => by kernel_rfl
  t4 := by kernel_rfl
  a4 := fun _ => by kernel_rfl
  z4 := fun _ => by kernel_rfl
  v4 := fun _ => by kernel_rfl
  t5 := by kernel_rfl
  a5 := fun _ => by kernel_rfl
  z5 := fun _ => by kernel_rfl
  v5 := fun _ => by kernel_rfl
  t9 := by kernel_rfl
  a9 := fun _ => by kernel_rfl
  z9 := fun _ => by kernel_rfl
  v9 := fun _ => by kernel_rfl
  t20 := by kernel_rfl
  a20 := fun _ => by kernel_rfl
  z20 := fun _ => by kernel_rfl
  v20 := fun _ => by kernel_rfl
  t37 := by kernel_rfl
  a37 := fun _ => by kernel_rfl
  z37 := fun _ => by kernel_rfl
  v37 := fun _ => by kernel_rfl
  t70 := by kernel_rfl
  a70 := fun _ => by kernel_rfl
  z70 := fun _ => by kernel_rfl
  v70 := fun _ => by kernel_rfl
  t72 := by kernel_rfl
  a72 := fun _ => by kernel_rfl
  z72 := fun _ => by kernel_rfl
  v72 := fun _ => by kernel_rfl
  t75 := by kernel_rfl
  a75 := fun _ => by kernel_rfl
  z75 := fun _ => by kernel_rfl
  v75 := fun _ => by kernel_rfl
  t164 := by kernel_rfl
  a164 := fun _ => by kernel_rfl
  z164 := fun _ => by kernel_rfl
  v164 := fun _ => by kernel_rfl }
theorem bldq_extra : Go.Proofs.Builder.Extra Tryd.prog bldq_ren := {
  sizeBuilder := by kernel_rfl
  liesBuilder := by kernel_rfl
  t5 := Tryd.underlying5
  a5 := Tryd.isAgg5
  z5 := Tryd.sizeOf5
  v5 := Tryd.zeroValue5
  infoByte := by kernel_rfl
  cellsByte := by kernel_rfl
  sizeByte := by kernel_rfl
  neB5 := by decide }
theorem bldq_write (B b : Nat) (bs : List Value) (c : Int) (w : World) (h : Lib.IsBuilder 40 5 B b bs w) (hlen : bs.length + 1 ≤ 140737488355328) (hBw : B ≤ w.heap.size) :
    Calls Tryd.prog 16 #[.pointer (some ⟨b, 0, none⟩), .int .u8 c] w fun e w' => e = .returned .nilIface ∧ (Lib.BuilderAt 40 5 B b (.pointer (some ⟨b, 0, none⟩)) (bs ++ [.int .u8 c]) w' ∧ Below B w w') :=
  Go.Proofs.Any.Builder_WriteByte bldq_lays bldq_extra B b bs c w h hlen hBw

/-! ### stuff_Stuff: function 10 -/
def stuff_Stuff.f (k : Nat) (a0 : ByteArray) : Option (ByteArray × Int) := (stuff_good.f k a0 8192).bind fun e => if e = 0 then some (B (stuffL 0 a0.data.toList), 0) else some ((⟨#[]⟩ : ByteArray), e)
theorem stuff_Stuff.mono : ∀ a0 k, LeO (stuff_Stuff.f k a0) (stuff_Stuff.f (k + 1) a0) := fun a0 k => LeO.bind (stuff_good.mono a0 8192 k) (fun _ => LeO.refl _)
theorem stuffq_size {k : Nat} {a0 : ByteArray} {m : Int} (h : stuff_good.f k a0 m = some 0) : (a0.size : Int) ≤ m := by
  unfold stuff_good.f at h
  by_cases hc : (a0.size : Int) > m
  · rw [if_pos hc] at h
    exact absurd h (by simp)
  · omega
theorem stuffq_cells (l : List UInt8) (b : UInt8) : Lib.byteCells l ++ [.int .u8 (b.toNat : Int)] = Lib.byteCells (l ++ [b]) := by simp [Lib.byteCells]
theorem stuffq_cells48 (l : List UInt8) : Lib.byteCells l ++ [.int .u8 48] = Lib.byteCells (l ++ [48]) := stuffq_cells l 48
theorem stuffq_len (l : List UInt8) : (Lib.byteCells l).length = l.length := by simp [Lib.byteCells]
theorem stuffq_drop (a0 : ByteArray) (k : Nat) (h : k < a0.size) : a0.data.toList.drop k = a0[k] :: a0.data.toList.drop (k + 1) := by
  rw [List.drop_eq_getElem_cons (by simpa using h)]; rfl
set_option maxHeartbeats 8000000 in
set_option maxRecDepth 100000 in
theorem stuffq_walk (k : Nat) (a0 : ByteArray) (w : World) (hg0 : stuff_good.f k a0 8192 = some 0) :
    Calls Tryd.prog 10 #[.string a0] w fun e w' => e = .returned (.tuple #[.string (B (stuffL 0 a0.data.toList)), .int .i64 0]) ∧ Below w.heap.size w w' := by
  have hs : a0.size ≤ 8192 := by have := stuffq_size hg0; omega
  have HG := Aside0.mk hg0
  clear hg0
  have hu := Tryd.underlying40
  have hzv := Tryd.zeroValue40
  go_enter Tryd.func10, Tryd.ntmps10
  go_wp2_with fail
  refine (stuff_good.calls k a0 8192 0 _ HG.out).mono ?_
  rintro e w1 ⟨rfl, ⟨nd, rfl⟩⟩
  go_wp2
  have HI : Aside0 (Lib.IsBuilder 40 5 w.heap.size w.heap.size (Lib.byteCells []) ((w.drewN nd).alloc (.cells #[.pointer none, .slice none 0 0] 40))) := ⟨Lib.fresh_isBuilder 40 5 (w.drewN nd)⟩
  have HBl : Aside0 (Below w.heap.size w ((w.drewN nd).alloc (.cells #[.pointer none, .slice none 0 0] 40))) := ⟨below_alloc (pw_below_drewN (Below.refl _ _) nd) _⟩
  generalize ((w.drewN nd).alloc (.cells #[.pointer none, .slice none 0 0] 40)) = W at *
  clear hu hzv
  go_loopw [6, 15] (fun v6 v15 wr => ∃ (i n : Nat) (acc : List UInt8), i ≤ a0.size ∧ n ≤ 4 ∧ acc.length ≤ 2 * i ∧ v6 = .int .i64 n ∧ v15 = .int .i64 i ∧ Aside0 (stuffL 0 a0.data.toList = acc ++ stuffL n (a0.data.toList.drop i)) ∧ Aside0 (Lib.IsBuilder 40 5 w.heap.size w.heap.size (Lib.byteCells acc) wr) ∧ Aside0 (Below w.heap.size w wr)) (fun _ v15 _ => a0.size - (intOf v15).toNat)
  case atStart => exact ⟨0, 0, [], by omega, by omega, by simp, rfl, rfl, ⟨by simp⟩, HI, HBl⟩
  case round =>
    obtain ⟨i, n, acc, hi, hn, hacc, rfl, rfl, HS, HI2, HB2⟩ := hrel
    clear HI HBl
    by_cases hlt : i < a0.size
    · have HD := Aside0.mk (stuffq_drop a0 i hlt)
      have hsz := HB2.out.size
      by_cases hb : a0[i] = 48
      · have hb1 : (((a0[i]).toNat : Int) == 48) = true := by rw [hb]; rfl
        have h5 : (((0 : Nat) : Int) == 5) = false := rfl
        have HS2 : Aside0 (stuffL 0 a0.data.toList = (acc ++ [a0[i]]) ++ stuffL 0 (a0.data.toList.drop (i + 1))) := ⟨by rw [HS.out, HD.out, stuffL, if_pos hb]; simp⟩
        clear hb
        go_wp2_with fail
        refine (bldq_write w.heap.size w.heap.size (Lib.byteCells acc) ((a0[i]).toNat : Int) wr HI2.out (by rw [stuffq_len]; omega) hsz).mono ?_
        rintro e w2 ⟨rfl, hb2, hbl⟩
        rw [stuffq_cells] at hb2
        have HI3 := Aside0.mk (show Lib.IsBuilder 40 5 w.heap.size w.heap.size (Lib.byteCells (acc ++ [a0[i]])) w2 from .inr hb2)
        have HB3 := Aside0.mk (HB2.out.trans hbl)
        clear hb2 hbl HI2 HB2
        go_wp2
        go_roundw
        case rel => exact ⟨i + 1, 0, acc ++ [a0[i]], by omega, by omega, by simp; omega, rfl, by go_num, HS2, HI3, HB3⟩
        case measure => simp [intOf]; omega
      · have hb1 : (((a0[i]).toNat : Int) == 48) = false := by
          rw [beq_eq_false_iff_ne]; intro h; exact hb (UInt8.toNat_inj.1 (by have : (48 : UInt8).toNat = 48 := rfl; omega))
        by_cases h4 : n = 4
        · subst h4
          have HS2 : Aside0 (stuffL 0 a0.data.toList = (acc ++ [a0[i]] ++ [48]) ++ stuffL 0 (a0.data.toList.drop (i + 1))) := ⟨by rw [HS.out, HD.out, stuffL, if_neg hb]; simp⟩
          clear hb
          go_wp2_with fail
          refine (bldq_write w.heap.size w.heap.size (Lib.byteCells acc) ((a0[i]).toNat : Int) wr HI2.out (by rw [stuffq_len]; omega) hsz).mono ?_
          rintro e w2 ⟨rfl, hb2, hbl⟩
          rw [stuffq_cells] at hb2
          have HI3 := Aside0.mk (show Lib.IsBuilder 40 5 w.heap.size w.heap.size (Lib.byteCells (acc ++ [a0[i]])) w2 from .inr hb2)
          have HB3 := Aside0.mk (HB2.out.trans hbl)
          clear hb2 hbl HI2 HB2 hsz
          have hsz := HB3.out.size
          go_wp2_with fail
          refine (bldq_write w.heap.size w.heap.size (Lib.byteCells (acc ++ [a0[i]])) 48 w2 HI3.out (by rw [stuffq_len]; simp; omega) hsz).mono ?_
          rintro e w3 ⟨rfl, hb2, hbl⟩
          rw [stuffq_cells48] at hb2
          have HI4 := Aside0.mk (show Lib.IsBuilder 40 5 w.heap.size w.heap.size (Lib.byteCells (acc ++ [a0[i]] ++ [48])) w3 from .inr hb2)
          have HB4 := Aside0.mk (HB3.out.trans hbl)
          clear hb2 hbl HI3 HB3
          go_wp2
          go_roundw
          case rel => exact ⟨i + 1, 0, acc ++ [a0[i]] ++ [48], by omega, by omega, by simp; omega, rfl, by go_num, HS2, HI4, HB4⟩
          case measure => simp [intOf]; omega
        · have h5 : (((n : Int) + 1) == 5) = false := by rw [beq_eq_false_iff_ne]; omega
          have HS2 : Aside0 (stuffL 0 a0.data.toList = (acc ++ [a0[i]]) ++ stuffL (n + 1) (a0.data.toList.drop (i + 1))) := ⟨by rw [HS.out, HD.out, stuffL, if_neg hb, if_neg (by omega)]; simp⟩
          clear hb
          go_wp2_with fail
          refine (bldq_write w.heap.size w.heap.size (Lib.byteCells acc) ((a0[i]).toNat : Int) wr HI2.out (by rw [stuffq_len]; omega) hsz).mono ?_
          rintro e w2 ⟨rfl, hb2, hbl⟩
          rw [stuffq_cells] at hb2
          have HI3 := Aside0.mk (show Lib.IsBuilder 40 5 w.heap.size w.heap.size (Lib.byteCells (acc ++ [a0[i]])) w2 from .inr hb2)
          have HB3 := Aside0.mk (HB2.out.trans hbl)
          clear hb2 hbl HI2 HB2
          go_wp2
          go_roundw
          case rel => exact ⟨i + 1, n + 1, acc ++ [a0[i]], by omega, by omega, by simp; omega, by go_num, by go_num, HS2, HI3, HB3⟩
          case measure => simp [intOf]; omega
    · have HE : Aside0 (stuffL 0 a0.data.toList = acc) := ⟨by rw [HS.out, List.drop_of_length_le (by simp; omega), stuffL, List.append_nil]⟩
      have hsz := HB2.out.size
      go_wp2_with fail
      refine (Tryd.Builder_String_any w.heap.size w.heap.size acc wr HI2.out hsz).mono ?_
      rintro e w2 ⟨rfl, hbl⟩
      have HB3 := Aside0.mk (HB2.out.trans hbl)
      clear hbl HB2
      go_wp2
      go_ret2
      exact ⟨by rw [HE.out]; rfl, HB3.out⟩
set_option maxHeartbeats 8000000 in
set_option maxRecDepth 100000 in
theorem stuff_Stuff.calls (k : Nat) (a0 : ByteArray) (r1 : ByteArray) (r2 : Int) (w : World) (h : stuff_Stuff.f k a0 = some (r1, r2)) :
    Calls Tryd.prog 10 #[.string a0] w fun e w' => e = .returned (.tuple #[.string r1, .int .i64 r2]) ∧ Below w.heap.size w w' := by
  unfold stuff_Stuff.f at h
  obtain ⟨g, hg, H⟩ := Option.bind_eq_some_iff.1 h
  clear h
  by_cases h0 : g = 0
  · subst h0
    rw [if_pos rfl] at H
    injection H with H
    injection H with H1 H2
    subst H1; subst H2
    exact stuffq_walk k a0 w hg
  · rw [if_neg h0] at H
    injection H with H
    injection H with H1 H2
    subst H1; subst H2
    have HG := Aside0.mk hg
    clear hg
    have hne : (g != 0) = true := by simpa using h0
    have hne2 : (g == 0) = false := by simpa using h0
    go_enter Tryd.func10, Tryd.ntmps10
    go_wp2_with fail
    refine (stuff_good.calls k a0 8192 g _ HG.out).mono ?_
    rintro e w1 ⟨rfl, ⟨nd, rfl⟩⟩
    go_wp2
    go_ret2
    exact ⟨rfl, pw_below_drewN (Below.refl _ _) nd⟩

/-! ### patchbaykeep1_stuffWorks: function 5 -/
def patchbaykeep1_stuffWorks.f (k : Nat)  : Option (Bool) := (stuff_Stuff.f k (⟨#[49, 49, 49, 49, 49, 49]⟩ : ByteArray)).bind fun bt101 => (if bt101.2 = 0 then (some (bt101.1.toList == ([49, 49, 49, 49, 49, 48, 49] : List UInt8))) else (some false))
theorem patchbaykeep1_stuffWorks.mono : ∀ k, LeO (patchbaykeep1_stuffWorks.f k ) (patchbaykeep1_stuffWorks.f (k + 1) ) := by
  intro  k
  unfold patchbaykeep1_stuffWorks.f
  repeat' first
      | (with_reducible exact stuff_Stuff.mono _ _)
      | (with_reducible exact LeO.refl _)
      | (with_reducible exact LeO.none _)
      | (with_reducible refine LeO.ite ?_ ?_)
      | (with_reducible refine LeO.bind ?_ (fun _ => ?_))
      | exact stuff_Stuff.mono _ _
      | exact LeO.none _
      | refine LeO.ite ?_ ?_
      | refine LeO.bind ?_ (fun _ => ?_)
set_option maxHeartbeats 8000000 in
set_option maxRecDepth 100000 in
theorem patchbaykeep1_stuffWorks.calls (k : Nat)  (r : Bool) (w : World) (h : patchbaykeep1_stuffWorks.f k  = some r) :
    Calls Tryd.prog 5 #[] w fun e w' => e = .returned (.bool r) ∧ Below w.heap.size w w' := by
  have HB := Aside0.mk (Below.refl w.heap.size w)
  have H : ((stuff_Stuff.f k (⟨#[49, 49, 49, 49, 49, 49]⟩ : ByteArray)).bind fun bt101 => (if bt101.2 = 0 then (some (bt101.1.toList == ([49, 49, 49, 49, 49, 48, 49] : List UInt8))) else (some false))) = some r := h
  clear h
  replace H := Option.bind_eq_some_iff.mp H
  obtain ⟨⟨t101, t102⟩, A10, H⟩ := H
  replace H : (if t102 = 0 then (some (t101.toList == ([49, 49, 49, 49, 49, 48, 49] : List UInt8))) else (some false)) = some r := H
  have A1 := Aside0.mk A10
  clear A10
  by_cases c2 : t102 = 0
  · rw [if_pos c2] at H
    have c2b0 : (t102 == 0) = true := beq_iff_eq.mpr c2
    have c2b1 : (t102 != 0) = false := bne_eq_false_iff_eq.mpr c2
    clear c2
    obtain rfl := Option.some.inj H
    go_enter Tryd.func5, Tryd.ntmps5
    go_wp2_with (first | ((with_reducible refine gate_callee (f := 10) rfl ?_); refine goesL_ (some 4) rfl rfl Tryd.func10 (by kernel_rfl) rfl #[.string (⟨#[49, 49, 49, 49, 49, 49]⟩ : ByteArray)] rfl (by (try simp only [List.map_toArray, List.map_cons, List.map_nil]); first | done | rfl | (simp only [List.length_drop, List.length_take]; rfl)) ?_; (with_reducible refine (stuff_Stuff.calls k (⟨#[49, 49, 49, 49, 49, 49]⟩ : ByteArray) t101 t102 _ A1.out).mono ?_); rintro e w3 ⟨rfl, hb⟩; refine ⟨_, rfl, ?_⟩; have n0_ := Aside0.mk (below_step (by repeat (first | (with_reducible first | exact HB.out | apply below_alloc | apply pw_below_drewN | apply below_drew1) | exact HB.out)) hb); clear HB; have HB := n0_; clear n0_; (try clear hb); (try clear hb2); (try clear hk); (try clear hi)))
    go_ret
    exact ⟨by first | rfl | (simp [errW_none, errW_some] <;> rfl) | (simp [*, errW_none, errW_some] <;> rfl), by repeat (first | (with_reducible first | exact HB.out | apply below_alloc | apply pw_below_drewN | apply below_drew1) | exact HB.out)⟩
  · rw [if_neg c2] at H
    have c2b0 : (t102 == 0) = false := beq_eq_false_iff_ne.mpr c2
    have c2b1 : (t102 != 0) = true := bne_iff_ne.mpr c2
    obtain rfl := Option.some.inj H
    go_enter Tryd.func5, Tryd.ntmps5
    go_wp2_with (first | ((with_reducible refine gate_callee (f := 10) rfl ?_); refine goesL_ (some 4) rfl rfl Tryd.func10 (by kernel_rfl) rfl #[.string (⟨#[49, 49, 49, 49, 49, 49]⟩ : ByteArray)] rfl (by (try simp only [List.map_toArray, List.map_cons, List.map_nil]); first | done | rfl | (simp only [List.length_drop, List.length_take]; rfl)) ?_; (with_reducible refine (stuff_Stuff.calls k (⟨#[49, 49, 49, 49, 49, 49]⟩ : ByteArray) t101 t102 _ A1.out).mono ?_); rintro e w4 ⟨rfl, hb⟩; refine ⟨_, rfl, ?_⟩; have n0_ := Aside0.mk (below_step (by repeat (first | (with_reducible first | exact HB.out | apply below_alloc | apply pw_below_drewN | apply below_drew1) | exact HB.out)) hb); clear HB; have HB := n0_; clear n0_; (try clear hb); (try clear hb2); (try clear hk); (try clear hi)))
    go_ret
    exact ⟨by first | rfl | (simp [errW_none, errW_some] <;> rfl) | (simp [*, errW_none, errW_some] <;> rfl), by repeat (first | (with_reducible first | exact HB.out | apply below_alloc | apply pw_below_drewN | apply below_drew1) | exact HB.out)⟩

/-! ### patchbaykeep1_cut: function 12 -/
def patchbaykeep1_cut.f (a0 : ByteArray) (a1 : Int) : Option (ByteArray) := if 0 ≤ (mn (a0.size : Int) a1) then (if (mn (a0.size : Int) a1) ≤ (a0.size : Int) then (some (a0.extract 0 ((mn (a0.size : Int) a1) : Int).toNat)) else (none)) else (none)
set_option maxHeartbeats 8000000 in
set_option maxRecDepth 100000 in
theorem patchbaykeep1_cut.calls (a0 : ByteArray) (a1 : Int) (r : ByteArray) (w : World) (h : patchbaykeep1_cut.f a0 a1 = some r) :
    Calls Tryd.prog 12 #[.string a0, .int .i64 a1] w fun e w' => e = .returned (.string r) ∧ Below w.heap.size w w' := by
  have HB := Aside0.mk (Below.refl w.heap.size w)
  have H : (if 0 ≤ (mn (a0.size : Int) a1) then (if (mn (a0.size : Int) a1) ≤ (a0.size : Int) then (some (a0.extract 0 ((mn (a0.size : Int) a1) : Int).toNat)) else (none)) else (none)) = some r := h
  clear h
  obtain ⟨ji3, hji3⟩ : ∃ j_ : Int, (mn (a0.size : Int) a1) = j_ := ⟨_, rfl⟩
  replace H : (if 0 ≤ (ji3) then (if (ji3) ≤ (a0.size : Int) then (some (a0.extract 0 ((ji3) : Int).toNat)) else (none)) else (none)) = some r := by first | (rw [hji3] at H; exact H) | (simp only [hji3] at H ⊢; exact H)
  have hji3_ : (if a1 < (a0.size : Int) then a1 else (a0.size : Int)) = ji3 := hji3
  by_cases c4 : 0 ≤ (ji3)
  · rw [if_pos c4] at H
    have c4b0 := eq_true c4
    have c4b1 : decide (0 ≤ (ji3)) = true := decide_eq_true c4
    clear c4
    by_cases c5 : (ji3) ≤ (a0.size : Int)
    · rw [if_pos c5] at H
      have c5b0 := eq_true c5
      have c5b1 : decide ((ji3) ≤ (a0.size : Int)) = true := decide_eq_true c5
      clear c5
      obtain rfl := Option.some.inj H
      go_enter Tryd.func12, Tryd.ntmps12
      go_wp2
      go_ret
      exact ⟨by first | rfl | (simp [errW_none, errW_some] <;> rfl) | (simp only [← hji3]; first | rfl | (simp [errW_none, errW_some] <;> rfl)) | (simp [*, errW_none, errW_some] <;> rfl), by repeat (first | (with_reducible first | exact HB.out | apply below_alloc | apply pw_below_drewN | apply below_drew1) | exact HB.out)⟩
    · rw [if_neg c5] at H
      exact absurd H (by simp)
  · rw [if_neg c4] at H
    exact absurd H (by simp)

/-! ### patchbaykeep1_bitString: function 7 -/
def bsq_row (l : List UInt8) (k : Nat) : List UInt8 := (l.take k).map bitB ++ l.drop k
theorem bsq_len (l : List UInt8) (k : Nat) : (bsq_row l k).length = l.length := by
  simp [bsq_row]; omega
theorem bsq_get (l : List UInt8) (k : Nat) (h : k < l.length) : (bsq_row l k).getD k 0 = l.getD k 0 := by
  simp only [bsq_row, List.getD_eq_getElem?_getD]
  rw [List.getElem?_append_right (by simp; omega)]
  simp only [List.length_map, List.length_take, List.getElem?_drop]
  rw [show k + (k - min k l.length) = k by omega]
theorem bsq_set (l : List UInt8) (k : Nat) (h : k < l.length) : (bsq_row l k).set k (bitB (l.getD k 0)) = bsq_row l (k + 1) := by
  unfold bsq_row
  rw [List.set_append_right _ _ (by simp; omega)]
  simp only [List.length_map, List.length_take]
  rw [show k - min k l.length = 0 by omega, List.drop_eq_getElem_cons h, List.set_cons_zero, List.take_succ_eq_append_getElem h, List.map_append]
  simp [List.getD_eq_getElem?_getD, h]
theorem bsq_full (l : List UInt8) (k : Nat) (h : l.length ≤ k) : bsq_row l k = l.map bitB := by
  unfold bsq_row
  rw [List.take_of_length_le h, List.drop_of_length_le h, List.append_nil]
def patchbaykeep1_bitString.f (a0 : ByteArray) (a1 : Int) : Option (ByteArray) := (patchbaykeep1_cut.f a0 a1).bind fun t => if t.size ≤ 9223372036854775807 then some (B (t.data.toList.map bitB)) else none
set_option maxHeartbeats 8000000 in
set_option maxRecDepth 100000 in
theorem patchbaykeep1_bitString.calls (a0 : ByteArray) (a1 : Int) (r : ByteArray) (w : World) (h : patchbaykeep1_bitString.f a0 a1 = some r) :
    Calls Tryd.prog 7 #[.string a0, .int .i64 a1] w fun e w' => e = .returned (.string r) ∧ Below w.heap.size w w' := by
  obtain ⟨t, ht0, H⟩ := Option.bind_eq_some_iff.1 h
  have ht := Aside0.mk ht0
  clear h ht0
  by_cases hs : t.size ≤ 9223372036854775807
  case neg => rw [if_neg hs] at H; exact absurd H (by simp)
  rw [if_pos hs] at H
  have HR := Aside0.mk (Option.some.inj H).symm
  clear H
  have hu9 := Tryd.underlying9
  have hu5 := Tryd.underlying5
  have hub := Tryd.underlying34
  go_enter Tryd.func7, Tryd.ntmps7
  go_wp2_with fail
  refine (patchbaykeep1_cut.calls a0 a1 t _ ht.out).mono ?_
  rintro e w1 ⟨rfl, HB1⟩
  have HC := fun W => Lib.run_convert_string_bytes (P := Tryd.prog) W 9 34 5 t hu9 hub hu5
  have HB2 := Aside0.mk (below_bytesWorld HB1 HB1.size 5 t)
  have HF := Aside0.mk (FzBytes.made w1 5 t)
  have hg : w.heap.size ≤ w1.heap.size := HB1.size
  clear HB1
  go_wp2
  generalize Lib.bytesWorld w1 5 t = W at HB2 HF ⊢
  generalize grownCap w1 t.size 0 5 = cp
  generalize w1.heap.size = g at HF hg ⊢
  clear HC hu9 hub
  go_loopw [13] (fun v13 wr => ∃ k : Nat, k ≤ t.size ∧ v13 = .int .i64 k ∧ Aside0 (FzBytes wr g 5 (bsq_row t.data.toList k)) ∧ Aside0 (Below w.heap.size w wr)) (fun v13 _ => t.size - (intOf v13).toNat)
  case atStart => exact ⟨0, by omega, rfl, ⟨by simpa [bsq_row] using HF.out⟩, HB2⟩
  case round =>
    obtain ⟨k, hk, rfl, HF1, HB3⟩ := hrel
    clear HF HB2
    by_cases hlt : k < t.size
    · have hl : k < t.data.toList.length := by simpa using hlt
      have hc := HF1.out.cell k (by rw [bsq_len]; exact hl)
      rw [bsq_get _ k hl] at hc
      have hfz := HF1.out.free k (by rw [bsq_len]; exact hl)
      have hset := Aside0.mk (bsq_set t.data.toList k hl)
      generalize t.data.toList.getD k 0 = b at hc hset
      go_wp2
      have hv : ((48 : Int) + Go.bits .and .u8 (b.toNat : Int) 1) % 256 = ((bitB b).toNat : Int) := by
        rw [bitB_int]
        have := (bitB b).toNat_lt
        omega
      rw [hv]
      refine ⟨⟨k + 1, by omega, by go_num, ⟨?_⟩, ⟨HB3.out.setCell hg _⟩⟩, by simp [intOf]; omega⟩
      have h1 := HF1.out.set k (by rw [bsq_len]; exact hl) (bitB b)
      rw [hset.out] at h1
      exact h1
    · have HL := bsq_full t.data.toList k (by simp; omega)
      have hst : (convert 34 9 (.slice (some ⟨g, 0, none⟩) t.size cp)).run Tryd.prog wr = .ok (.string (B (t.data.toList.map bitB))) wr := by
        have h1 := string_of_reads (P := Tryd.prog) (c := cp) Tryd.underlying34 hu5 Tryd.underlying9 (HF1.out.reads (by rw [bsq_len]; simpa using hs))
        rw [bsq_len, strOf_B, HL] at h1
        exact h1
      clear HL
      go_wp2
      go_ret
      exact ⟨by rw [HR.out]; rfl, HB3.out⟩

-- NOT PRINTED: function 28 (utf8_decodeRuneInStringSlow)

-- NOT PRINTED: function 25 (utf8_DecodeRuneInString)

-- NOT PRINTED: function 20 (strings_explode)

/-! ### strings_Count: function 21 -/
def strings_Count.f (a0 : ByteArray) (a1 : ByteArray) : Option (Int) := match a1.data.toList with
  | [c] => some (Lib.countByte a0.data.toList c)
  | _ => none
theorem strings_Count.calls (a0 : ByteArray) (a1 : ByteArray) (r : Int) (w : World) (h : strings_Count.f a0 a1 = some r) :
    Calls Tryd.prog 21 #[.string a0, .string a1] w fun e w' => e = .returned (.int .i64 r) ∧ Drawn0 w w' := by
  unfold strings_Count.f at h
  split at h
  · rename_i c hc
    obtain rfl := Option.some.inj h
    have e : a1 = ⟨#[c]⟩ := by
      cases a1 with
      | mk d => simp only at hc; congr 1; apply Array.ext'; simpa using hc
    rw [e]
    refine (Tryd.strings_Count_one a0 c w).mono ?_
    rintro e w' ⟨rfl, rfl⟩
    exact ⟨rfl, Drawn0.refl _⟩
  · cases h

-- NOT PRINTED: function 18 (strings_genSplit)

-- NOT PRINTED: function 14 (strings_Split)

/-! ### stuff_unstuff: function 15 -/
def unstuffR (l : List UInt8) : ByteArray × Int := match unstuffL 0 l with
  | .inl t => (B t, 0)
  | .inr e => ((⟨#[]⟩ : ByteArray), e)
def stuff_unstuff.f (a0 : ByteArray) : Option (ByteArray × Int) := if a0.size ≤ 1000000 then some (unstuffR a0.data.toList) else none
set_option maxHeartbeats 8000000 in
set_option maxRecDepth 100000 in
theorem unstuffq_walk (a0 : ByteArray) (w : World) (hs : a0.size ≤ 1000000) :
    Calls Tryd.prog 15 #[.string a0] w fun e w' => e = .returned (.tuple #[.string (unstuffR a0.data.toList).1, .int .i64 (unstuffR a0.data.toList).2]) ∧ Below w.heap.size w w' := by
  have hu := Tryd.underlying40
  have hzv := Tryd.zeroValue40
  have HR0 : ∀ t, unstuffL 0 a0.data.toList = .inl t → unstuffR a0.data.toList = (B t, 0) := fun t h => by unfold unstuffR; rw [h]
  have HR1 : ∀ e, unstuffL 0 a0.data.toList = .inr e → unstuffR a0.data.toList = ((⟨#[]⟩ : ByteArray), e) := fun t h => by unfold unstuffR; rw [h]
  have HRA := Aside0.mk HR0
  have HRB := Aside0.mk HR1
  clear HR0 HR1
  generalize unstuffR a0.data.toList = R at *
  go_enter Tryd.func15, Tryd.ntmps15
  go_wp2
  have HI : Aside0 (Lib.IsBuilder 40 5 w.heap.size w.heap.size (Lib.byteCells []) (w.alloc (.cells #[.pointer none, .slice none 0 0] 40))) := ⟨Lib.fresh_isBuilder 40 5 w⟩
  have HBl : Aside0 (Below w.heap.size w (w.alloc (.cells #[.pointer none, .slice none 0 0] 40))) := ⟨below_alloc (Below.refl _ _) _⟩
  generalize (w.alloc (.cells #[.pointer none, .slice none 0 0] 40)) = W at *
  clear hu hzv
  go_loopw [5, 9] (fun v5 v9 wr => ∃ (i n : Nat) (acc : List UInt8), i ≤ a0.size ∧ n ≤ 5 ∧ acc.length ≤ i ∧ v5 = .int .i64 n ∧ v9 = .int .i64 i ∧ Aside0 (unstuffL 0 a0.data.toList = preL acc (unstuffL n (a0.data.toList.drop i))) ∧ Aside0 (Lib.IsBuilder 40 5 w.heap.size w.heap.size (Lib.byteCells acc) wr) ∧ Aside0 (Below w.heap.size w wr)) (fun _ v9 _ => a0.size - (intOf v9).toNat)
  case atStart => exact ⟨0, 0, [], by omega, by omega, by simp, rfl, rfl, ⟨by rw [preL_nil, List.drop_zero]⟩, HI, HBl⟩
  case round =>
    obtain ⟨i, n, acc, hi, hn, hacc, rfl, rfl, HS, HI2, HB2⟩ := hrel
    clear HI HBl
    by_cases hlt : i < a0.size
    · have HD := Aside0.mk (stuffq_drop a0 i hlt)
      have hsz := HB2.out.size
      by_cases h5 : n = 5
      · subst h5
        by_cases hb : a0[i] = 49
        · have hb1 : (((a0[i]).toNat : Int) == 49) = true := by rw [hb]; rfl
          have HE : Aside0 (R = ((⟨#[]⟩ : ByteArray), 11)) := ⟨HRB.out 11 (by rw [HS.out, HD.out, unstuffL, if_pos rfl, if_pos hb]; rfl)⟩
          clear hb
          go_wp2
          go_ret2
          exact ⟨by rw [HE.out]; rfl, HB2.out⟩
        · have hb1 : (((a0[i]).toNat : Int) == 49) = false := by
            rw [beq_eq_false_iff_ne]; intro h; exact hb (UInt8.toNat_inj.1 (by have : (49 : UInt8).toNat = 49 := rfl; omega))
          have HS2 : Aside0 (unstuffL 0 a0.data.toList = preL acc (unstuffL 0 (a0.data.toList.drop (i + 1)))) := ⟨by rw [HS.out, HD.out, unstuffL, if_pos rfl, if_neg hb]⟩
          clear hb
          go_wp2
          go_roundw
          case rel => exact ⟨i + 1, 0, acc, by omega, by omega, by omega, rfl, by go_num, HS2, HI2, HB2⟩
          case measure => simp [intOf]; omega
      · have h5b : ((n : Int) == 5) = false := by rw [beq_eq_false_iff_ne]; omega
        by_cases hb : a0[i] = 48
        · have hb1 : (((a0[i]).toNat : Int) == 48) = true := by rw [hb]; rfl
          have HS2 : Aside0 (unstuffL 0 a0.data.toList = preL (acc ++ [a0[i]]) (unstuffL 0 (a0.data.toList.drop (i + 1)))) := ⟨by rw [HS.out, HD.out, unstuffL, if_neg h5, if_pos hb, preL_snoc]⟩
          clear hb
          go_wp2_with fail
          refine (bldq_write w.heap.size w.heap.size (Lib.byteCells acc) ((a0[i]).toNat : Int) wr HI2.out (by rw [stuffq_len]; omega) hsz).mono ?_
          rintro e w2 ⟨rfl, hb2, hbl⟩
          rw [stuffq_cells] at hb2
          have HI3 := Aside0.mk (show Lib.IsBuilder 40 5 w.heap.size w.heap.size (Lib.byteCells (acc ++ [a0[i]])) w2 from .inr hb2)
          have HB3 := Aside0.mk (HB2.out.trans hbl)
          clear hb2 hbl HI2 HB2
          go_wp2
          go_roundw
          case rel => exact ⟨i + 1, 0, acc ++ [a0[i]], by omega, by omega, by simp; omega, rfl, by go_num, HS2, HI3, HB3⟩
          case measure => simp [intOf]; omega
        · have hb1 : (((a0[i]).toNat : Int) == 48) = false := by
            rw [beq_eq_false_iff_ne]; intro h; exact hb (UInt8.toNat_inj.1 (by have : (48 : UInt8).toNat = 48 := rfl; omega))
          have HS2 : Aside0 (unstuffL 0 a0.data.toList = preL (acc ++ [a0[i]]) (unstuffL (n + 1) (a0.data.toList.drop (i + 1)))) := ⟨by rw [HS.out, HD.out, unstuffL, if_neg h5, if_neg hb, preL_snoc]⟩
          clear hb
          go_wp2_with fail
          refine (bldq_write w.heap.size w.heap.size (Lib.byteCells acc) ((a0[i]).toNat : Int) wr HI2.out (by rw [stuffq_len]; omega) hsz).mono ?_
          rintro e w2 ⟨rfl, hb2, hbl⟩
          rw [stuffq_cells] at hb2
          have HI3 := Aside0.mk (show Lib.IsBuilder 40 5 w.heap.size w.heap.size (Lib.byteCells (acc ++ [a0[i]])) w2 from .inr hb2)
          have HB3 := Aside0.mk (HB2.out.trans hbl)
          clear hb2 hbl HI2 HB2
          go_wp2
          go_roundw
          case rel => exact ⟨i + 1, n + 1, acc ++ [a0[i]], by omega, by omega, by simp; omega, by go_num, by go_num, HS2, HI3, HB3⟩
          case measure => simp [intOf]; omega
    · have hdr : a0.data.toList.drop i = [] := List.drop_of_length_le (by simp; omega)
      have hsz := HB2.out.size
      by_cases h5 : n = 5
      · subst h5
        have HE : Aside0 (R = ((⟨#[]⟩ : ByteArray), 9)) := ⟨HRB.out 9 (by rw [HS.out, hdr]; rfl)⟩
        clear hdr
        go_wp2
        go_ret2
        exact ⟨by rw [HE.out]; rfl, HB2.out⟩
      · have h5b : ((n : Int) == 5) = false := by rw [beq_eq_false_iff_ne]; omega
        have HE : Aside0 (R = (B acc, 0)) := ⟨HRA.out acc (by rw [HS.out, hdr, unstuffL, if_neg h5]; simp [preL])⟩
        clear hdr
        go_wp2_with fail
        refine (Tryd.Builder_String_any w.heap.size w.heap.size acc wr HI2.out hsz).mono ?_
        rintro e w2 ⟨rfl, hbl⟩
        have HB3 := Aside0.mk (HB2.out.trans hbl)
        clear hbl HB2
        go_wp2
        go_ret2
        exact ⟨by rw [HE.out]; rfl, HB3.out⟩
theorem stuff_unstuff.calls (a0 : ByteArray) (r1 : ByteArray) (r2 : Int) (w : World) (h : stuff_unstuff.f a0 = some (r1, r2)) :
    Calls Tryd.prog 15 #[.string a0] w fun e w' => e = .returned (.tuple #[.string r1, .int .i64 r2]) ∧ Below w.heap.size w w' := by
  unfold stuff_unstuff.f at h
  by_cases hs : a0.size ≤ 1000000
  · rw [if_pos hs] at h
    injection h with h
    have h1 := congrArg Prod.fst h
    have h2 := congrArg Prod.snd h
    simp only at h1 h2
    subst h1; subst h2
    exact unstuffq_walk a0 w hs
  · rw [if_neg hs] at h
    cases h

-- NOT PRINTED: function 8 (stuff_Split)

/-! ### patchbaykeep1_within: function 9 -/
def patchbaykeep1_within.f (a0 : Int) (a1 : Int) : Option (Int) := if (IntKind.u64.wrap (a1)) = 0 then (none) else (some (wrap64 (Int.tmod (IntKind.u64.wrap (a0)) (IntKind.u64.wrap (a1)))))
set_option maxHeartbeats 8000000 in
set_option maxRecDepth 100000 in
theorem patchbaykeep1_within.calls (a0 : Int) (a1 : Int) (r : Int) (w : World) (h : patchbaykeep1_within.f a0 a1 = some r) :
    Calls Tryd.prog 9 #[.int .i64 a0, .int .i64 a1] w fun e w' => e = .returned (.int .i64 r) ∧ Drawn0 w w' := by
  have H : (if (IntKind.u64.wrap (a1)) = 0 then (none) else (some (wrap64 (Int.tmod (IntKind.u64.wrap (a0)) (IntKind.u64.wrap (a1)))))) = some r := h
  clear h
  by_cases c3 : (IntKind.u64.wrap (a1)) = 0
  · rw [if_pos c3] at H
    exact absurd H (by simp)
  · rw [if_neg c3] at H
    have c3b0 : ((IntKind.u64.wrap (a1)) == 0) = false := beq_eq_false_iff_ne.mpr c3
    have c3b1 : ((IntKind.u64.wrap (a1)) != 0) = true := bne_iff_ne.mpr c3
    obtain rfl := Option.some.inj H
    go_enter Tryd.func9, Tryd.ntmps9
    go_wp2
    go_ret
    exact ⟨by first | rfl | (simp; done) | (simp [*]; done), by repeat (first | exact Drawn0.refl _ | apply Drawn0.step)⟩

-- NOT PRINTED: function 3 (patchbaykeep1_StuffCut)

/-! ### slices_Equal_string_string: function 11 -/
def slices_Equal_string_string.l0 : Nat → List ByteArray → List ByteArray → Int → Int → Option (Bool)
  | 0, _, _, _, _ => none
  | k + 1, x0, x1, x12, x13 => if x13 < x12 then (if 0 ≤ x13 then (if x13 < (x0.length : Int) then (if x13 < (x1.length : Int) then (if (rdOf ByteArray.empty x0 x13).toList = (rdOf ByteArray.empty x1 x13).toList then (slices_Equal_string_string.l0 k x0 x1 x12 (wrap64 (x13 + 1))) else (some false)) else (none)) else (none)) else (none)) else (some true)
def slices_Equal_string_string.f (k : Nat) (l0 : List ByteArray) (l1 : List ByteArray) : Option (Bool) := if (l0.length : Int) = (l1.length : Int) then (slices_Equal_string_string.l0 k l0 l1 (l0.length : Int) 0) else (some false)
theorem slices_Equal_string_string.mono_l : ∀ k, (∀ y0 y1 y2 y3, LeO (slices_Equal_string_string.l0 k y0 y1 y2 y3) (slices_Equal_string_string.l0 (k + 1) y0 y1 y2 y3))
  | 0 => fun _ _ _ _ r h => by simp [slices_Equal_string_string.l0] at h
  | k + 1 => by
    have ih0 := slices_Equal_string_string.mono_l k
    · intro y0 y1 y2 y3
      unfold slices_Equal_string_string.l0
      repeat' first
      | (with_reducible exact ih0 _ _ _ _)
      | (with_reducible exact LeO.refl _)
      | (with_reducible exact LeO.none _)
      | (with_reducible refine LeO.ite ?_ ?_)
      | (with_reducible refine LeO.bind ?_ (fun _ => ?_))
      | exact ih0 _ _ _ _
      | exact LeO.none _
      | refine LeO.ite ?_ ?_
      | refine LeO.bind ?_ (fun _ => ?_)
theorem slices_Equal_string_string.mono : ∀ a0 a1 k, LeO (slices_Equal_string_string.f k a0 a1) (slices_Equal_string_string.f (k + 1) a0 a1) := by
  intro a0 a1 k
  have ih0 := slices_Equal_string_string.mono_l k
  unfold slices_Equal_string_string.f
  repeat' first
      | (with_reducible exact ih0 _ _ _ _)
      | (with_reducible exact LeO.refl _)
      | (with_reducible exact LeO.none _)
      | (with_reducible refine LeO.ite ?_ ?_)
      | (with_reducible refine LeO.bind ?_ (fun _ => ?_))
      | exact ih0 _ _ _ _
      | exact LeO.none _
      | refine LeO.ite ?_ ?_
      | refine LeO.bind ?_ (fun _ => ?_)
set_option maxHeartbeats 8000000 in
set_option maxRecDepth 100000 in
theorem slices_Equal_string_string.calls (k : Nat) (A0 : Option Addr) (c0 : Nat) (l0 : List ByteArray) (A1 : Option Addr) (c1 : Nat) (l1 : List ByteArray) (r : Bool) (w : World) (hr0 : Kd.C Kd.string w A0 l0.length l0) (hc0 : l0.length ≤ c0) (hr1 : Kd.C Kd.string w A1 l1.length l1) (hc1 : l1.length ≤ c1) (h : slices_Equal_string_string.f k l0 l1 = some r) :
    Calls Tryd.prog 11 #[.slice A0 l0.length c0, .slice A1 l1.length c1] w fun e w' => e = .returned (.bool r) ∧ Drawn0 w w' := by
  have HR0 := Aside0.mk hr0
  have HC0 := Aside0.mk hc0
  clear hr0 hc0
  have HR1 := Aside0.mk hr1
  have HC1 := Aside0.mk hc1
  clear hr1 hc1
  have H : (if (l0.length : Int) = (l1.length : Int) then (slices_Equal_string_string.l0 k l0 l1 (l0.length : Int) 0) else (some false)) = some r := h
  clear h
  by_cases c3 : (l0.length : Int) = (l1.length : Int)
  · rw [if_pos c3] at H
    have c3b0 : ((l0.length : Int) == (l1.length : Int)) = true := beq_iff_eq.mpr c3
    have c3b1 : ((l0.length : Int) != (l1.length : Int)) = false := bne_eq_false_iff_eq.mpr c3
    have c3b2 : (l0.length == l1.length) = true := by first | simpa using c3 | (simp at c3 ⊢; omega)
    clear c3
    have H' := Aside0.mk H
    clear H
    go_enter Tryd.func11, Tryd.ntmps11
    go_wp2
    repeat (go_quiet (fail); try go_wp2)
    go_loopg [13] k (fun kq v13 w' => ∃ (x13_1 : Int), v13 = .int .i64 x13_1 ∧ Aside0 (slices_Equal_string_string.l0 kq l0 l1 (l0.length : Int) x13_1 = some r) ∧ Aside0 (kq ≤ k) ∧ Drawn0 w w')
    case atStart => exact ⟨(0), (by first | rfl | (simp; done) | (simp [*]; done)), H', ⟨Nat.le_refl _⟩, by repeat (first | exact Drawn0.refl _ | apply Drawn0.step)⟩
    case round =>
      clear H'
      try clear c1
      try clear p2
      try clear c3
      try clear c3b0
      try clear c3b1
      try clear c3b2
      obtain ⟨x13_1, rfl, HA, HK1, ⟨m1, rfl⟩⟩ := hrel
      cases gk with
      | zero => exact absurd HA.out (by simp [slices_Equal_string_string.l0])
      | succ k1 =>
        have H := HA.out
        clear HA
        simp only [slices_Equal_string_string.l0] at H
        by_cases c4 : x13_1 < (l0.length : Int)
        · rw [if_pos c4] at H
          have c4b0 : decide (x13_1 < (l0.length : Int)) = true := decide_eq_true c4
          clear c4
          by_cases c5 : 0 ≤ x13_1
          · rw [if_pos c5] at H
            have c5b0 : decide (0 ≤ x13_1) = true := decide_eq_true c5
            clear c5
            by_cases c6 : x13_1 < (l0.length : Int)
            · rw [if_pos c6] at H
              have c6b0 : decide (x13_1 < (l0.length : Int)) = true := decide_eq_true c6
              clear c6
              by_cases c7 : x13_1 < (l1.length : Int)
              · rw [if_pos c7] at H
                have c7b0 : decide (x13_1 < (l1.length : Int)) = true := decide_eq_true c7
                clear c7
                by_cases c8 : (rdOf ByteArray.empty l0 x13_1).toList = (rdOf ByteArray.empty l1 x13_1).toList
                · rw [if_pos c8] at H
                  have c8b0 : ((rdOf ByteArray.empty l0 x13_1).toList == (rdOf ByteArray.empty l1 x13_1).toList) = true := beq_iff_eq.mpr c8
                  have c8b1 : ((rdOf ByteArray.empty l0 x13_1).toList != (rdOf ByteArray.empty l1 x13_1).toList) = false := bne_eq_false_iff_eq.mpr c8
                  clear c8
                  have H' := Aside0.mk H
                  clear H
                  have p106 : 0 ≤ (x13_1 : Int) := of_decide_eq_true (by first | (with_reducible assumption) | assumption)
                  have q106 : x13_1 < (l0.length : Int) := of_decide_eq_true (by first | (with_reducible assumption) | assumption)
                  obtain ⟨ad106, e106, hx106_0⟩ := Kd.at_string HR0.out x13_1 p106 q106
                  cases e106
                  replace p106 := eq_true p106
                  replace q106 := eq_true q106
                  have p107 : 0 ≤ (x13_1 : Int) := of_decide_eq_true (by first | (with_reducible assumption) | assumption)
                  have q107 : x13_1 < (l1.length : Int) := of_decide_eq_true (by first | (with_reducible assumption) | assumption)
                  obtain ⟨ad107, e107, hx107_0⟩ := Kd.at_string HR1.out x13_1 p107 q107
                  cases e107
                  replace p107 := eq_true p107
                  replace q107 := eq_true q107
                  go_wp2
                  repeat (go_quiet (fail); try go_wp2)
                  go_roundg k1
                  case measure => have := HK1.out; omega
                  case rel => exact ⟨(wrap64 (x13_1 + 1)), (by first | rfl | (simp; done) | (simp [*]; done)), H', ⟨by have := HK1.out; omega⟩, by repeat (first | exact Drawn0.refl _ | apply Drawn0.step)⟩
                · rw [if_neg c8] at H
                  have c8b0 : ((rdOf ByteArray.empty l0 x13_1).toList == (rdOf ByteArray.empty l1 x13_1).toList) = false := beq_eq_false_iff_ne.mpr c8
                  have c8b1 : ((rdOf ByteArray.empty l0 x13_1).toList != (rdOf ByteArray.empty l1 x13_1).toList) = true := bne_iff_ne.mpr c8
                  obtain rfl := Option.some.inj H
                  have p106 : 0 ≤ (x13_1 : Int) := of_decide_eq_true (by first | (with_reducible assumption) | assumption)
                  have q106 : x13_1 < (l0.length : Int) := of_decide_eq_true (by first | (with_reducible assumption) | assumption)
                  obtain ⟨ad106, e106, hx106_0⟩ := Kd.at_string HR0.out x13_1 p106 q106
                  cases e106
                  replace p106 := eq_true p106
                  replace q106 := eq_true q106
                  have p107 : 0 ≤ (x13_1 : Int) := of_decide_eq_true (by first | (with_reducible assumption) | assumption)
                  have q107 : x13_1 < (l1.length : Int) := of_decide_eq_true (by first | (with_reducible assumption) | assumption)
                  obtain ⟨ad107, e107, hx107_0⟩ := Kd.at_string HR1.out x13_1 p107 q107
                  cases e107
                  replace p107 := eq_true p107
                  replace q107 := eq_true q107
                  go_wp2
                  repeat (go_quiet (fail); try go_wp2)
                  go_ret
                  exact ⟨by first | rfl | (simp; done) | (simp [*]; done), by repeat (first | exact Drawn0.refl _ | apply Drawn0.step)⟩
              · rw [if_neg c7] at H
                exact absurd H (by simp)
            · rw [if_neg c6] at H
              exact absurd H (by simp)
          · rw [if_neg c5] at H
            exact absurd H (by simp)
        · rw [if_neg c4] at H
          have c4b0 : decide (x13_1 < (l0.length : Int)) = false := decide_eq_false c4
          clear c4
          obtain rfl := Option.some.inj H
          go_wp2
          repeat (go_quiet (fail); try go_wp2)
          go_ret
          exact ⟨by first | rfl | (simp; done) | (simp [*]; done), by repeat (first | exact Drawn0.refl _ | apply Drawn0.step)⟩
  · rw [if_neg c3] at H
    have c3b0 : ((l0.length : Int) == (l1.length : Int)) = false := beq_eq_false_iff_ne.mpr c3
    have c3b1 : ((l0.length : Int) != (l1.length : Int)) = true := bne_iff_ne.mpr c3
    have c3b2 : (l0.length == l1.length) = false := by first | simpa using c3 | (simp at c3 ⊢; omega)
    obtain rfl := Option.some.inj H
    go_enter Tryd.func11, Tryd.ntmps11
    go_wp2
    repeat (go_quiet (fail); try go_wp2)
    go_ret
    exact ⟨by first | rfl | (simp; done) | (simp [*]; done), by repeat (first | exact Drawn0.refl _ | apply Drawn0.step)⟩

-- NOT PRINTED: function 4 (patchbaykeep1_StuffFrames)

end Go.Proofs.YtjooddmlkikldaaDoor.M
