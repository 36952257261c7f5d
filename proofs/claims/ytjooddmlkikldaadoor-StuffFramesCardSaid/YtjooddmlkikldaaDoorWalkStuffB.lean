/- Written by hand (this repository's wip/walk/StuffB.in): stuff.Split walked over lists of bytes. No condition beside those in the statements. -/
import Derived.Test.YtjooddmlkikldaaDoorM1
import Derived.Test.YtjooddmlkikldaaDoorWalkStuffA
namespace Go.Proofs.YtjooddmlkikldaaDoor.M
open Go.RowKit Go.Proofs.YtjooddmlkikldaaDoorW.PrintWords Go.Proofs.YtjooddmlkikldaaDoorW.PrintLast Go.Proofs.YtjooddmlkikldaaDoorW.PrintMore
attribute [local go_sem] max2_int min2_int max_two min_two max_three min_three max_four min_four
set_option linter.unusedVariables false
set_option linter.unusedSimpArgs false
open Go.Proofs.YtjooddmlkikldaaDoor.Cuts
set_option maxHeartbeats 8000000 in
set_option maxRecDepth 100000 in
theorem sp_few (l : List UInt8) (hl : l.length ≤ 32768) (hb : Bits l) (hn : (Lib.split l FL).length ≤ 2) (w : World) (hm : MaxCell w) :
    Calls Tryd.prog 8 #[.string (B l)] w fun e w' => e = .returned (.tuple #[.slice none 0 0, .int .i64 0, .int .i64 0]) ∧ Below w.heap.size w w' := by
  have HG := Aside0.mk (st_good l hl hb w)
  have HM := Aside0.mk hm
  obtain ⟨n, hq⟩ : ∃ n, (Lib.split l FL).length = n := ⟨_, rfl⟩
  have HQ := Aside0.mk hq
  rw [hq] at hn
  clear hb hm hq
  have hlt : (n : Int) < 3 := by omega
  go_enter Tryd.func8, Tryd.ntmps8
  go_wp2_with fail
  refine HG.out.mono ?_
  rintro e w1 ⟨rfl, hd1⟩
  obtain ⟨q, rfl⟩ := hd1
  go_wp2_with fail
  refine (st_split l (by omega) _ (MaxCell.below HM.out (pw_below_drewN (Below.refl _ _) q)) n HQ.out).mono ?_
  rintro e w2 ⟨rfl, rfl⟩
  go_wp2
  exact bodyPost_ret (v := .tuple #[.slice none 0 0, .int .i64 0, .int .i64 0]) (by simp [results, Tryd.results8, go_sem]) rfl ⟨rfl, below_alloc (pw_below_drewN (Below.refl _ _) q) _⟩
theorem ne_own {W : World} {v v1 : Value} {g : Nat} (h : v.ownBlock ≠ some g) (hat : v1.ownBlock = v.ownBlock ∨ ∃ b, v1.ownBlock = some b ∧ W.heap.size ≤ b) (hg : g < W.heap.size) : v1.ownBlock ≠ some g := by
  rcases hat with hat | ⟨b, hb, hl⟩
  · rw [hat]; exact h
  · rw [hb]
    intro e
    have := Option.some.inj e
    omega
def GotPost (w : World) (L : List (List UInt8)) (bad : Nat) (e : Ending) (w' : World) : Prop :=
  ∃ v, e = .returned (.tuple #[v, .int .i64 (bad : Int), .int .i64 0]) ∧ w'.ownsRow w.heap.size 9 1 v (L.map B).length (encs Value.string (L.map B)) ∧ Below w.heap.size w w'
theorem unstuff_err : ∀ (l : List UInt8) (n : Nat) (e : Int), unstuffL n l = .inr e → (e == 0) = false
  | [], n, e, h => by
    simp only [unstuffL] at h
    split at h
    · cases h; rfl
    · cases h
  | b :: l, n, e, h => by
    simp only [unstuffL] at h
    split at h
    · split at h
      · cases h; rfl
      · exact unstuff_err l 0 e h
    · split at h
      · cases h
      · rename_i e' he
        cases h
        exact unstuff_err l _ e he
set_option maxHeartbeats 8000000 in
set_option maxRecDepth 100000 in
theorem sp_many (l : List UInt8) (hl : l.length ≤ 32768) (hb : Bits l) (x y : List UInt8) (M : List (List UInt8)) (hM : 0 < M.length) (hM2 : M.length ≤ 1000) (hMs : ∀ s ∈ M, s.length ≤ 1000) (hsp : Lib.split l FL = x :: (M ++ [y])) (w : World) (hm : MaxCell w) :
    Calls Tryd.prog 8 #[.string (B l)] w fun e w' => GotPost w (got M) (badN M) e w' := by
  have HG := Aside0.mk (st_good l hl hb w)
  have HM := Aside0.mk hm
  obtain ⟨m, hq⟩ : ∃ m, M.length = m := ⟨_, rfl⟩
  have HQ := Aside0.mk hq
  have hn2 : (Lib.split l FL).length = m + 2 := by rw [hsp]; simp; omega
  have HN := Aside0.mk hn2
  have HSp := Aside0.mk hsp
  have HMs := Aside0.mk hMs
  rw [hq] at hM hM2
  clear hb hm hq hn2 hsp hMs
  have hd1 : decide ((m : Int) + 2 < 3) = false := by simp; omega
  go_enter Tryd.func8, Tryd.ntmps8
  go_wp2_with fail
  refine HG.out.mono ?_
  rintro e w1 ⟨rfl, hd1⟩
  obtain ⟨q, rfl⟩ := hd1
  go_wp2_with fail
  refine (st_split l (by omega) _ (MaxCell.below HM.out (pw_below_drewN (Below.refl _ _) q)) (m + 2) HN.out).mono ?_
  rintro e w2 ⟨rfl, rfl⟩
  have BK := Aside0.mk (blk_new (w.drewN q) (.cells ((Lib.split l FL).map fun x => Value.string (B x)).toArray 9))
  have HB := Aside0.mk (below_alloc (pw_below_drewN (Below.refl w.heap.size w) q) (.cells ((Lib.split l FL).map fun x => Value.string (B x)).toArray 9))
  have hgz : (w.drewN q).heap.size = w.heap.size := rfl
  have hws : Aside0 (w.heap.size < ((w.drewN q).alloc (.cells ((Lib.split l FL).map fun x => Value.string (B x)).toArray 9)).heap.size) := ⟨by simp⟩
  generalize (w.drewN q).alloc (.cells ((Lib.split l FL).map fun x => Value.string (B x)).toArray 9) = W at BK HB hws ⊢
  rw [hgz, HSp.out] at BK
  clear hgz
  go_wp2
  have e27 : m + 2 - 1 - 1 = m := by omega
  have e26 : (m : Int) + 2 - 1 = (m : Int) + 1 := by omega
  simp only [e27, e26]
  clear e27 e26
  go_loopw [7, 8, 29] (fun v7 v8 v29 wr => ∃ (k : Nat) (v : Value), k ≤ m ∧ v7 = v ∧ v8 = .int .i64 ((badN (M.take k) : Nat) : Int) ∧ v29 = .int .i64 k ∧ Aside0 (wr.ownsRow w.heap.size 9 1 v ((got (M.take k)).map B).length (encs Value.string ((got (M.take k)).map B))) ∧ Aside0 (Below w.heap.size w wr) ∧ Aside0 (wr.heap[w.heap.size]? = some (.cells ((x :: (M ++ [y])).map fun x => Value.string (B x)).toArray 9)) ∧ Aside0 (v.ownBlock ≠ some w.heap.size)) (fun _ _ v29 _ => m - (intOf v29).toNat)
  case atStart => exact ⟨0, .slice none 0 0, by omega, rfl, rfl, rfl, ⟨World.ownsRow_nil _ _ _ _⟩, HB, BK, ⟨by simp [Value.ownBlock]⟩⟩
  case round =>
    obtain ⟨k, v, hk, rfl, rfl, rfl, HO, HB1, BK1, HNE⟩ := hrel
    clear HB BK
    by_cases hlt : k < m
    · have hkl : k < M.length := by rw [HQ.out]; exact hlt
      obtain ⟨s, hs⟩ : ∃ s, M[k] = s := ⟨_, rfl⟩
      have hsl : s.length ≤ 1000 := HMs.out s (hs ▸ List.getElem_mem hkl)
      have HT : Aside0 (M.take (k + 1) = M.take k ++ [s]) := ⟨by rw [List.take_succ_eq_append_getElem hkl, hs]⟩
      have HGo := Aside0.mk (got_snoc (M.take k) s)
      have HBa := Aside0.mk (bad_snoc (M.take k) s)
      rw [← HT.out] at HGo HBa
      have hbk : badN (M.take k) ≤ 1000 := by have := bad_le (M.take k); rw [List.length_take] at this; omega
      have hgk : (got (M.take k)).length ≤ 1000 := by have := got_le (M.take k); rw [List.length_take] at this; omega
      have hc : wr.cell? ⟨w.heap.size, 1 + k, none⟩ = some (.string (B s)) := by
        rw [blk_cell BK1.out]
        rw [Nat.add_comm, List.getElem?_toArray, List.map_cons, List.getElem?_cons_succ, List.getElem?_map, List.getElem?_append_left hkl, List.getElem?_eq_getElem hkl, hs]
        rfl
      clear hs hkl
      by_cases hse : s = []
      · subst hse
        have he1 : (B ([] : List UInt8)).toList.isEmpty = true := by rw [B_toList]; rfl
        go_wp2_with fail
        have hG : got (M.take (k + 1)) = got (M.take k) := by rw [HGo.out]; simp
        have hBd : badN (M.take (k + 1)) = badN (M.take k) := by rw [HBa.out]; simp
        exact ⟨⟨k + 1, _, by omega, rfl, by rw [hBd], by go_num, by rw [hG]; exact HO, HB1, BK1, HNE⟩, by simp [intOf]; omega⟩
      · have he1 : (B s).toList.isEmpty = false := by rw [B_toList]; cases s with
          | nil => exact absurd rfl hse
          | cons _ _ => rfl
        have HU0 := fun W => st_unstuff s (by omega) W
        rw [if_neg hse] at HGo HBa
        unfold unstuffR at HU0
        cases hu : unstuffL 0 s with
        | inl t =>
          simp only [hu] at HU0 HGo HBa
          have HU := Aside0.mk HU0
          clear HU0 hu hse
          go_wp2_with fail
          refine (HU.out _).mono ?_
          rintro e w3 ⟨rfl, hb3⟩
          have HO3 := Aside0.mk (pw_own_below HO.out hb3)
          have BK3 := Aside0.mk (blk_below BK1.out hb3)
          have HB3 := Aside0.mk (below_step HB1.out hb3)
          clear HO HB1 BK1 hb3
          go_wp2_with (at_builtin; refine print_append_of (w0 := w) Value.string w.heap.size rfl (.tmp 42) (.tmp 44) 27 9 (.string ByteArray.empty) 16 rfl Tryd.underlying27 (by kernel_rfl) rfl (by omega) _ ((got (M.take k)).map B) (B t) rfl rfl rfl HO3.out HB3.out HB3.out.size (by rw [List.length_map]; omega) ?_; intro v4 w4 ho4 hb4 hg4 hat4)
          have hne4 := ne_own HNE.out hat4 (blk_lt BK3.out)
          have bk4 := blk_grown BK3.out hg4 (fun e => HNE.out e.symm)
          have hG : got (M.take (k + 1)) = got (M.take k) ++ [t] := HGo.out
          have hBd : badN (M.take (k + 1)) = badN (M.take k) := by rw [HBa.out]; rfl
          have ho5 : w4.ownsRow w.heap.size 9 1 v4 ((got (M.take (k + 1))).map B).length (encs Value.string ((got (M.take (k + 1))).map B)) := by
            rw [hG, List.map_append]
            exact ho4
          have HO5 := Aside0.mk ho5
          have HB5 := Aside0.mk hb4
          have BK5 := Aside0.mk bk4
          have HNE5 := Aside0.mk hne4
          have HBd := Aside0.mk hBd
          clear ho4 hb4 hg4 hat4 hne4 bk4 hG hBd ho5
          go_wp2_with fail
          go_roundw
          case rel => exact ⟨k + 1, _, by omega, rfl, by rw [HBd.out], by go_num, HO5, HB5, BK5, HNE5⟩
          case measure => simp [intOf]; omega
        | inr e0 =>
          have he0 := unstuff_err _ _ _ hu
          simp only [hu] at HU0 HGo HBa
          have HU := Aside0.mk HU0
          clear HU0 hu hse
          go_wp2_with fail
          refine (HU.out _).mono ?_
          rintro e w3 ⟨rfl, hb3⟩
          have HO3 := Aside0.mk (pw_own_below HO.out hb3)
          have BK3 := Aside0.mk (blk_below BK1.out hb3)
          have HB3 := Aside0.mk (below_step HB1.out hb3)
          clear HO HB1 BK1 hb3
          go_wp2_with fail
          have hG : got (M.take (k + 1)) = got (M.take k) := by rw [HGo.out, List.append_nil]
          have hBd : badN (M.take (k + 1)) = badN (M.take k) + 1 := HBa.out
          have HG2 := Aside0.mk hG
          have HBd := Aside0.mk hBd
          clear hG hBd
          go_roundw
          case rel => exact ⟨k + 1, _, by omega, rfl, by rw [HBd.out]; go_num, by go_num, by rw [HG2.out]; exact HO3, HB3, BK3, HNE⟩
          case measure => simp [intOf]; omega
    · obtain rfl : k = m := by omega
      go_wp2_with fail
      have hTm : M.take k = M := List.take_of_length_le (by rw [HQ.out]; omega)
      rw [hTm] at HO ⊢
      exact bodyPost_ret (v := .tuple #[_, .int .i64 ((badN M : Nat) : Int), .int .i64 0]) (by simp [results, Tryd.results8, go_sem]) rfl ⟨_, rfl, HO.out, HB1.out⟩

end Go.Proofs.YtjooddmlkikldaaDoor.M
