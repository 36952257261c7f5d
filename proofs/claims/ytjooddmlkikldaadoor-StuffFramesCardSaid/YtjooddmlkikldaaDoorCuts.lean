import Derived.Test.YtjooddmlkikldaaDoorStuffL
import Derived.Test.YtjooddmlkikldaaDoorPlain
import Derived.Lib.Split
import Derived.Lib.SplitLaws
/- Streams of stuffed frames, cut at their flags. -/
namespace Go.Proofs.YtjooddmlkikldaaDoor.Cuts
open Go.Proofs.YtjooddmlkikldaaDoor
/-! ### Stuffed bits -/
def isBit (b : UInt8) : Prop := b = 48 ∨ b = 49
def Bits (l : List UInt8) : Prop := ∀ b ∈ l, isBit b
theorem bits_map (l : List UInt8) : Bits (l.map bitB) := by
  intro b hb
  obtain ⟨c, _, rfl⟩ := List.mem_map.1 hb
  exact bitB_or c
theorem stuffL_bits : ∀ (l : List UInt8) (n : Nat), Bits l → Bits (stuffL n l) := by
  intro l
  induction l with
  | nil => intro n _ c hc; cases hc
  | cons b l ih =>
    intro n h
    have hb : isBit b := h b (List.mem_cons_self ..)
    have hl : Bits l := fun c hc => h c (List.mem_cons_of_mem _ hc)
    simp only [stuffL]
    split
    · intro c hc
      rcases List.mem_cons.1 hc with rfl | hc
      · exact hb
      · exact ih 0 hl c hc
    · split
      · intro c hc
        rcases List.mem_cons.1 hc with rfl | hc
        · exact hb
        · rcases List.mem_cons.1 hc with rfl | hc
          · exact .inl rfl
          · exact ih 0 hl c hc
      · intro c hc
        rcases List.mem_cons.1 hc with rfl | hc
        · exact hb
        · exact ih (n + 1) hl c hc
theorem stuffL_len : ∀ (l : List UInt8) (n : Nat), n ≤ 4 → (stuffL n l).length ≤ l.length + (n + l.length) / 5 := by
  intro l
  induction l with
  | nil => intro n _; simp [stuffL]
  | cons b l ih =>
    intro n hn
    simp only [stuffL]
    split
    · have := ih 0 (by omega)
      simp only [List.length_cons]; omega
    · split
      · have := ih 0 (by omega)
        simp only [List.length_cons]; omega
      · have := ih (n + 1) (by omega)
        simp only [List.length_cons]; omega
theorem unstuff_stuff : ∀ (l : List UInt8) (n : Nat), n ≤ 4 → unstuffL n (stuffL n l) = .inl l := by
  intro l
  induction l with
  | nil => intro n hn; simp only [stuffL, unstuffL]; rw [if_neg (by omega)]
  | cons b l ih =>
    intro n hn
    simp only [stuffL]
    split
    · rename_i h
      simp only [unstuffL]
      rw [if_neg (by omega), if_pos h, ih 0 (by omega)]
    · rename_i h
      split
      · rename_i h5
        simp only [unstuffL]
        rw [if_neg (by omega), if_neg h, if_pos h5, if_neg (by decide), ih 0 (by omega)]
      · rename_i h5
        simp only [unstuffL]
        rw [if_neg (by omega), if_neg h, ih (n + 1) (by omega)]
theorem stuff_nil {l : List UInt8} {n : Nat} (h : stuffL n l = []) : l = [] := by
  cases l with
  | nil => rfl
  | cons b l =>
    simp only [stuffL] at h
    split at h
    · cases h
    · split at h <;> cases h
/-! ### No six ones -/
/-- No six ones in a row, wherever one looks. -/
def Free (x : List UInt8) : Prop := ∀ j, ∃ t, t < 6 ∧ x[j + t]? ≠ some 49
def noSix : Nat → List UInt8 → Prop
  | _, [] => True
  | n, b :: l => if b = 49 then n + 1 ≤ 5 ∧ noSix (n + 1) l else noSix 0 l
theorem stuff_noSix : ∀ (l : List UInt8) (n : Nat), Bits l → n ≤ 4 → noSix n (stuffL n l) := by
  intro l
  induction l with
  | nil => intro n _ _; exact trivial
  | cons b l ih =>
    intro n h hn
    have hl : Bits l := fun c hc => h c (List.mem_cons_of_mem _ hc)
    rcases h b (List.mem_cons_self ..) with rfl | rfl
    · have e : stuffL n (48 :: l) = 48 :: stuffL 0 l := by rw [stuffL, if_pos rfl]
      rw [e, noSix, if_neg (by decide)]
      exact ih 0 hl (by omega)
    · by_cases h5 : n + 1 = 5
      · have e : stuffL n (49 :: l) = 49 :: 48 :: stuffL 0 l := by rw [stuffL, if_neg (by decide), if_pos h5]
        rw [e, noSix, if_pos rfl, noSix, if_neg (by decide)]
        exact ⟨by omega, ih 0 hl (by omega)⟩
      · have e : stuffL n (49 :: l) = 49 :: stuffL (n + 1) l := by rw [stuffL, if_neg (by decide), if_neg h5]
        rw [e, noSix, if_pos rfl]
        exact ⟨by omega, ih (n + 1) hl (by omega)⟩
theorem noSix_drop : ∀ (x : List UInt8) (n j : Nat), noSix n x → ∃ m, noSix m (x.drop j) := by
  intro x
  induction x with
  | nil => intro n j _; exact ⟨0, by simp [noSix]⟩
  | cons b x ih =>
    intro n j h
    rcases j with _ | j
    · exact ⟨n, h⟩
    · simp only [noSix] at h
      rw [List.drop_succ_cons]
      split at h
      · exact ih _ j h.2
      · exact ih _ j h
theorem noSix_run : ∀ (k n : Nat) (x : List UInt8), noSix n x → (∀ t, t < k → x[t]? = some 49) → n ≤ 5 → n + k ≤ 5 := by
  intro k
  induction k with
  | zero => intro n x _ _ h; omega
  | succ k ih =>
    intro n x h ht hn
    cases x with
    | nil =>
      have := ht 0 (by omega)
      cases this
    | cons b x =>
      have h0 := ht 0 (by omega)
      obtain rfl : b = 49 := by simpa using h0
      simp only [noSix, if_true] at h
      have := ih (n + 1) x h.2 (fun t h => by have := ht (t + 1) (by omega); simpa using this) h.1
      omega
theorem free_of (x : List UInt8) (h : noSix 0 x) : Free x := by
  intro j
  apply Classical.byContradiction
  intro hc
  have hall : ∀ t, t < 6 → x[j + t]? = some 49 := fun t ht => Classical.byContradiction fun e => hc ⟨t, ht, e⟩
  obtain ⟨m, hm⟩ := noSix_drop x 0 j h
  have hd : ∀ t, t < 6 → (x.drop j)[t]? = some 49 := fun t ht => by rw [List.getElem?_drop]; exact hall t ht
  have h0 : noSix 0 (x.drop j) := by
    have e := hd 0 (by omega)
    generalize x.drop j = y at *
    cases y with
    | nil => exact trivial
    | cons b y =>
      obtain rfl : b = 49 := by simpa using e
      simp only [noSix, if_true] at hm ⊢
      refine ⟨by omega, ?_⟩
      have : ∀ (y : List UInt8) (a b : Nat), b ≤ a → noSix a y → noSix b y := by
        intro y
        induction y with
        | nil => intro a b _ _; exact trivial
        | cons c y ih =>
          intro a b hab h
          simp only [noSix] at h ⊢
          split
          · rename_i hc
            rw [if_pos hc] at h
            exact ⟨by omega, ih _ _ (by omega) h.2⟩
          · rename_i hc
            rw [if_neg hc] at h
            exact h
      exact this y _ _ (by omega) hm.2
  have := noSix_run 6 0 (x.drop j) h0 hd (by omega)
  omega
theorem free_stuff (l : List UInt8) (h : Bits l) : Free (stuffL 0 l) := free_of _ (stuff_noSix l 0 h (by omega))
theorem free_nil : Free [] := fun j => ⟨0, by omega, by simp⟩
theorem free_drop {x : List UInt8} (h : Free x) (k : Nat) : Free (x.drop k) := by
  intro j
  obtain ⟨t, h1, h2⟩ := h (k + j)
  exact ⟨t, h1, by rw [List.getElem?_drop, ← Nat.add_assoc]; exact h2⟩
/-! ### Flags -/
def FL : List UInt8 := [48, 49, 49, 49, 49, 49, 49, 48]
theorem occ_get {s : List UInt8} {i : Nat} (h : Lib.occAt s FL i = true) : ∀ t, t < 8 → s[i + t]? = FL[t]? := by
  intro t ht
  unfold Lib.occAt at h
  rw [List.isPrefixOf_iff_prefix] at h
  obtain ⟨r, hr⟩ := h
  rw [← List.getElem?_drop, ← hr, List.getElem?_append_left (by simpa [FL] using ht)]
theorem FL_one (t : Nat) (h1 : 1 ≤ t) (h2 : t ≤ 6) : FL[t]? = some 49 := by
  have : t = 1 ∨ t = 2 ∨ t = 3 ∨ t = 4 ∨ t = 5 ∨ t = 6 := by omega
  rcases this with rfl | rfl | rfl | rfl | rfl | rfl <;> rfl
/-- A flag behind bits without six ones begins nowhere ahead of the flag that stands there. -/
theorem no_early {s r : List UInt8} (h : Free s) {p : Nat} (hp : p < s.length) : Lib.occAt (s ++ (FL ++ r)) FL p = false := by
  cases ho : Lib.occAt (s ++ (FL ++ r)) FL p with
  | false => rfl
  | true =>
    have hg := occ_get ho
    by_cases hl : s.length ≤ p + 6
    · have e := hg (s.length - p) (by omega)
      rw [show p + (s.length - p) = s.length by omega, List.getElem?_append_right (Nat.le_refl _), Nat.sub_self, FL_one _ (by omega) (by omega)] at e
      cases e
    · obtain ⟨t, h1, h2⟩ := h (p + 1)
      have e := hg (t + 1) (by omega)
      rw [FL_one _ (by omega) (by omega), List.getElem?_append_left (by omega)] at e
      exact absurd (by rw [show p + 1 + t = p + (t + 1) by omega]; exact e) h2
theorem idx_flag {s : List UInt8} (h : Free s) (r : List UInt8) : Lib.index (s ++ (FL ++ r)) FL = s.length := by
  refine Lib.index_first (by simp) ?_ fun j hj => no_early h hj
  unfold Lib.occAt
  rw [List.isPrefixOf_iff_prefix, List.drop_left]
  exact ⟨r, rfl⟩
theorem idx_none {x : List UInt8} (h : Free x) : Lib.index x FL = -1 := by
  refine Lib.index_none fun j _ => ?_
  cases ho : Lib.occAt x FL j with
  | false => rfl
  | true =>
    have hg := occ_get ho
    obtain ⟨t, h1, h2⟩ := h (j + 1)
    have e := hg (t + 1) (by omega)
    rw [FL_one _ (by omega) (by omega)] at e
    exact absurd (by rw [show j + 1 + t = j + (t + 1) by omega]; exact e) h2
theorem idx_short {x : List UInt8} (h : x.length < 8) : Lib.index x FL = -1 := by
  rcases Lib.index_spec x FL with ⟨h1, _⟩ | ⟨i, h1, _, _, _⟩
  · exact h1
  · have := Lib.index_room x FL (by omega)
    have h8 : FL.length = 8 := rfl
    omega
theorem idx_cut {s : List UInt8} (h : Free s) {m : Nat} (hm : m < s.length + 8) : Lib.index ((s ++ FL).take m) FL = -1 := by
  refine Lib.index_none fun j _ => ?_
  cases ho : Lib.occAt ((s ++ FL).take m) FL j with
  | false => rfl
  | true =>
    have hg := occ_get ho
    have hj : j + 7 < m := by
      apply Classical.byContradiction
      intro hc
      have e := hg 7 (by omega)
      rw [List.getElem?_eq_none (by simp; omega)] at e
      cases e
    have ho2 : Lib.occAt (s ++ (FL ++ [])) FL j = true := by
      unfold Lib.occAt
      rw [List.isPrefixOf_iff_prefix, List.prefix_iff_eq_take]
      apply List.ext_getElem?
      intro t
      rw [List.append_nil]
      by_cases ht : t < 8
      · rw [← hg t ht, List.getElem?_take, if_pos (by omega), List.getElem?_take, if_pos (by exact ht), List.getElem?_drop]
      · rw [List.getElem?_eq_none (show FL.length ≤ t by show 8 ≤ t; omega), List.getElem?_eq_none (by rw [List.length_take]; show min 8 _ ≤ t; omega)]
    rw [no_early h (by omega)] at ho2
    cases ho2
/-- Two runs of stuffed bits side by side hold one flag at most, across the seam. -/
theorem idx_two {x y : List UInt8} (hx : Free x) : Lib.index (x ++ y) FL = -1 ∨ ∃ i : Nat, Lib.index (x ++ y) FL = i ∧ x.length ≤ i + 8 := by
  rcases Lib.index_spec (x ++ y) FL with ⟨h1, _⟩ | ⟨i, h1, _, ho, _⟩
  · exact .inl h1
  · right
    refine ⟨i, h1, ?_⟩
    apply Classical.byContradiction
    intro hc
    have hg := occ_get ho
    obtain ⟨t, h2, h3⟩ := hx (i + 1)
    have e := hg (t + 1) (by omega)
    rw [FL_one _ (by omega) (by omega), List.getElem?_append_left (by omega)] at e
    exact absurd (by rw [show i + 1 + t = i + (t + 1) by omega]; exact e) h3
/-! ### Cutting -/
theorem split_miss {s : List UInt8} (h : Lib.index s FL = -1) : Lib.split s FL = [s] := by
  unfold Lib.split
  rw [Lib.count_miss h]
  rfl
theorem split_hit {s : List UInt8} {i : Nat} (h : Lib.index s FL = i) : Lib.split s FL = s.take i :: Lib.split (s.drop (i + 8)) FL := by
  unfold Lib.split
  rw [Lib.count_hit (by decide) h, Nat.add_comm]
  have hm : ¬ (Lib.index s FL == -1) = true := fun e => by have := beq_iff_eq.1 e; omega
  rw [Lib.splitK, if_neg hm, h]
  rfl
theorem split_flag {s : List UInt8} (h : Free s) (r : List UInt8) : Lib.split (s ++ (FL ++ r)) FL = s :: Lib.split r FL := by
  rw [split_hit (idx_flag h r), List.take_left, show s.length + 8 = (s ++ FL).length by simp [FL], ← List.append_assoc, List.drop_left]
theorem split_two {x y : List UInt8} (hx : Free x) (hy : Free y) : (Lib.split (x ++ y) FL).length ≤ 2 := by
  rcases idx_two (y := y) hx with h | ⟨i, h, hl⟩
  · rw [split_miss h]; simp
  · rw [split_hit h, List.drop_append, List.drop_eq_nil_of_le hl, List.nil_append, split_miss (idx_none (free_drop hy _))]
    simp
theorem split_cut {s : List UInt8} (h : Free s) {m : Nat} (hm : m < s.length + 16) : (Lib.split ((FL ++ (s ++ FL)).take m) FL).length ≤ 2 := by
  by_cases h8 : m < 8
  · rw [split_miss (idx_short (by simp; omega))]; simp
  · have e : (FL ++ (s ++ FL)).take m = [] ++ (FL ++ (s ++ FL).take (m - 8)) := by
      rw [List.take_append, List.take_of_length_le (show FL.length ≤ m by show 8 ≤ m; omega)]
      rfl
    rw [e, split_flag free_nil, split_miss (idx_cut h (by omega))]
    simp
def frs : List (List UInt8) → List UInt8
  | [] => []
  | b :: bs => FL ++ (stuffL 0 b ++ (FL ++ frs bs))
def mid : List (List UInt8) → List (List UInt8)
  | [] => []
  | [b] => [stuffL 0 b]
  | b :: c :: bs => stuffL 0 b :: [] :: mid (c :: bs)
theorem frs_snoc (bs : List (List UInt8)) (b : List UInt8) : frs (bs ++ [b]) = frs bs ++ (FL ++ (stuffL 0 b ++ FL)) := by
  induction bs with
  | nil => simp [frs]
  | cons c bs ih => simp only [List.cons_append, frs, ih, List.append_assoc]
theorem split_frs {y : List UInt8} (hy : Free y) : ∀ (bs : List (List UInt8)) (x : List UInt8), Free x → bs ≠ [] → (∀ b ∈ bs, Bits b) → Lib.split (x ++ (frs bs ++ y)) FL = x :: (mid bs ++ [y])
  | [], _, _, h, _ => absurd rfl h
  | [b], x, hx, _, hb => by
    have h1 := free_stuff b (hb b (List.mem_cons_self ..))
    simp only [frs, mid, List.append_assoc, List.append_nil]
    rw [split_flag hx, split_flag h1, split_miss (idx_none hy)]
    rfl
  | b :: c :: bs, x, hx, _, hb => by
    have h1 := free_stuff b (hb b (List.mem_cons_self ..))
    have ih := split_frs hy (c :: bs) [] free_nil (by simp) (fun d hd => hb d (List.mem_cons_of_mem _ hd))
    rw [List.nil_append] at ih
    rw [frs, mid]
    simp only [List.append_assoc]
    rw [split_flag hx, split_flag h1, ih]
    rfl
/-- What the pieces between the flags bring: the bits of those that read, and how many do not. -/
def got : List (List UInt8) → List (List UInt8)
  | [] => []
  | s :: l => if s = [] then got l else match unstuffL 0 s with
    | .inl t => t :: got l
    | .inr _ => got l
def badN : List (List UInt8) → Nat
  | [] => 0
  | s :: l => if s = [] then badN l else match unstuffL 0 s with
    | .inl _ => badN l
    | .inr _ => badN l + 1
theorem got_snoc (l : List (List UInt8)) (s : List UInt8) : got (l ++ [s]) = got l ++ (if s = [] then [] else match unstuffL 0 s with | .inl t => [t] | .inr _ => []) := by
  induction l with
  | nil =>
    by_cases h : s = []
    · simp [got, h]
    · simp only [List.nil_append, got, if_neg h]
  | cons c l ih =>
    simp only [List.cons_append, got, ih]
    by_cases h : c = []
    · rw [if_pos h, if_pos h]
    · rw [if_neg h, if_neg h]
      cases unstuffL 0 c <;> simp
theorem bad_snoc (l : List (List UInt8)) (s : List UInt8) : badN (l ++ [s]) = badN l + (if s = [] then 0 else match unstuffL 0 s with | .inl _ => 0 | .inr _ => 1) := by
  induction l with
  | nil =>
    by_cases h : s = []
    · simp [badN, h]
    · simp only [List.nil_append, badN, if_neg h]
      cases unstuffL 0 s <;> simp
  | cons c l ih =>
    simp only [List.cons_append, badN, ih]
    by_cases h : c = []
    · rw [if_pos h, if_pos h]
    · rw [if_neg h, if_neg h]
      cases unstuffL 0 c <;> simp <;> omega
theorem bad_le (l : List (List UInt8)) : badN l ≤ l.length := by
  induction l with
  | nil => simp [badN]
  | cons c l ih =>
    simp only [badN, List.length_cons]
    split
    · omega
    · split <;> omega
theorem got_le (l : List (List UInt8)) : (got l).length ≤ l.length := by
  induction l with
  | nil => simp [got]
  | cons c l ih =>
    simp only [got, List.length_cons]
    split
    · omega
    · split
      · simp only [List.length_cons]; omega
      · omega
def want (bs : List (List UInt8)) : List (List UInt8) := bs.filter fun b => decide (b ≠ [])
theorem got_mid : ∀ bs : List (List UInt8), got (mid bs) = want bs ∧ badN (mid bs) = 0
  | [] => ⟨rfl, rfl⟩
  | [b] => by
    by_cases h : b = []
    · subst h
      exact ⟨rfl, rfl⟩
    · have hs : stuffL 0 b ≠ [] := fun e => h (stuff_nil e)
      simp only [mid, got, badN, if_neg hs, unstuff_stuff b 0 (by omega), want]
      simp [h]
  | b :: c :: bs => by
    obtain ⟨i1, i2⟩ := got_mid (c :: bs)
    by_cases h : b = []
    · subst h
      have e : stuffL 0 [] = [] := rfl
      rw [mid, e]
      simp only [got, badN, if_true]
      exact ⟨by rw [i1]; simp [want], i2⟩
    · have hs : stuffL 0 b ≠ [] := fun e => h (stuff_nil e)
      rw [mid]
      simp only [got, badN, if_neg hs, unstuff_stuff b 0 (by omega), if_true]
      exact ⟨by rw [i1]; simp [want, h], i2⟩
end Go.Proofs.YtjooddmlkikldaaDoor.Cuts
