import Derived.Test.YtdfkejjgmippfaaDoorPlain
import Derived.Below
/- The code words of chapter 3, plainly. -/
namespace Go.Proofs.YtdfkejjgmippfaaDoor.Quint
open Go.Proofs.YtdfkejjgmippfaaDoor Go.RowKit
def wordsN : List Nat := [9, 10, 11, 13, 14, 15, 18, 19, 21, 22, 23, 25, 26, 27, 29, 30]
def word5 (n : Nat) : List UInt8 := [48 + UInt8.ofNat (n / 16 % 2), 48 + UInt8.ofNat (n / 8 % 2), 48 + UInt8.ofNat (n / 4 % 2), 48 + UInt8.ofNat (n / 2 % 2), 48 + UInt8.ofNat (n % 2)]
def wordL (j : Nat) : List UInt8 := word5 (wordsN.getD j 0)
def encB (b : UInt8) : List UInt8 := wordL (b.toNat / 16) ++ wordL (b.toNat % 16)
def encL (l : List UInt8) : List UInt8 := l.flatMap encB
theorem word_len (j : Nat) : (wordL j).length = 5 := rfl
theorem encB_len (b : UInt8) : (encB b).length = 10 := rfl
theorem encL_len (l : List UInt8) : (encL l).length = 10 * l.length := by
  induction l with
  | nil => rfl
  | cons b l ih => simp only [encL, List.flatMap_cons, List.length_append, List.length_cons] at *; rw [ih, encB_len]; omega
theorem encL_append (l m : List UInt8) : encL (l ++ m) = encL l ++ encL m := by simp [encL]
def WordsCell (w : World) : Prop := ∀ j, j < 16 → w.cell? ⟨0, j, none⟩ = some (.int .i64 ((wordsN.getD j 0 : Nat) : Int))
theorem WordsCell.pos {w : World} (h : WordsCell w) : 0 < w.heap.size := by
  have h0 := h 0 (by omega)
  rcases Nat.lt_or_ge 0 w.heap.size with h' | h'
  · exact h'
  · simp [World.cell?, Array.getElem?_eq_none h'] at h0
theorem WordsCell.below {w w1 : World} (h : WordsCell w) (hb : Below w.heap.size w w1) : WordsCell w1 := fun j hj => (hb.cell (p := ⟨0, j, none⟩) h.pos).trans (h j hj)
end Go.Proofs.YtdfkejjgmippfaaDoor.Quint
namespace Go.Proofs.YtdfkejjgmippfaaDoor.Quint
open Go.Proofs.YtdfkejjgmippfaaDoor Go.RowKit
/-- Longest row of zeros so far, and the present one. -/
def gapStep (s : Nat × Nat) (c : UInt8) : Nat × Nat := if c = 48 then (max s.1 (s.2 + 1), s.2 + 1) else (s.1, 0)
def gapF (s : Nat × Nat) (l : List UInt8) : Nat × Nat := l.foldl gapStep s
theorem gapF_word : ∀ (j : Fin 16) (n : Fin 2) (g : Fin 3), (gapF (g.1, n.1) (wordL j.1)).1 ≤ 2 ∧ (gapF (g.1, n.1) (wordL j.1)).2 ≤ 1 := by decide +kernel
theorem gapF_enc (l : List UInt8) : ∀ s : Nat × Nat, s.1 ≤ 2 → s.2 ≤ 1 → (gapF s (encL l)).1 ≤ 2 := by
  induction l with
  | nil => intro s h _; exact h
  | cons b l ih =>
    intro s h1 h2
    have hb := b.toNat_lt
    have e : gapF s (encL (b :: l)) = gapF (gapF (gapF s (wordL (b.toNat / 16))) (wordL (b.toNat % 16))) (encL l) := by
      simp only [encL, List.flatMap_cons, encB, gapF, List.foldl_append]
    rw [e]
    obtain ⟨g, n⟩ := s
    have a1 := gapF_word ⟨b.toNat / 16, by omega⟩ ⟨n, by simp at h2; omega⟩ ⟨g, by simp at h1; omega⟩
    simp only at a1
    generalize gapF (g, n) (wordL (b.toNat / 16)) = s1 at a1 ⊢
    obtain ⟨g1, n1⟩ := s1
    have a2 := gapF_word ⟨b.toNat % 16, by omega⟩ ⟨n1, by have := a1.2; simp at this; omega⟩ ⟨g1, by have := a1.1; simp at this; omega⟩
    exact ih _ a2.1 a2.2
theorem works : encL [65] = [48, 49, 49, 49, 48, 48, 49, 48, 49, 48] := by decide +kernel
end Go.Proofs.YtdfkejjgmippfaaDoor.Quint
