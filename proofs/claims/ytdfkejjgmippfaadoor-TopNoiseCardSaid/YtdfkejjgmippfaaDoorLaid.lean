import Derived.Test.YtdfkejjgmippfaaDoorRows
import Derived.Test.YtdfkejjgmippfaaDoorQuint
import Derived.ProofKit
import Derived.OpenShut
import Derived.LaidMore
import Derived.Lay
import Derived.Stop.Joined
/- What the laid table of code words says of the world. -/
namespace Go.Proofs.YtdfkejjgmippfaaDoor
open Go.ChangeShapes Go.WideShapes Go.ChangeAt Go.RowKit Quint
def laidQ : List (String × DataW Unit) := [("patchbay/quint.words", Rows.laid_patchbay_quint_words)]
theorem words_cell {W : World} (h : laidMetH Tryd.prog laidQ W) : WordsCell W := by
  intro r hr
  rw [MakeChecks.laidMetH_plain _ _ _ (by kernel_rfl)] at h
  obtain ⟨ps, ⟨g, t, cs, fuel, p, q, hg, ht, hv, hd, _, _⟩, _, _⟩ := h
  obtain rfl := Option.some.inj ((show Tryd.prog.globalNamed "patchbay/quint.words" = some 0 by kernel_rfl).symm.trans hg)
  obtain rfl := Option.some.inj ((show (Tryd.prog.globals[0]?).map (·.type) = some 39 by kernel_rfl).symm.trans ht)
  obtain ⟨xs, m, _, ex, _, hl, hel⟩ := DataW.trod_array Tryd.underlying39 hd
  have c3 : Tryd.prog.cellsOf 3 = 1 := by kernel_rfl
  have hE := hel r hr
  rw [c3, Nat.mul_one, List.getElem?_eq_getElem (by omega)] at hE
  obtain ⟨z, e1, e2, _⟩ := DataW.trod_int Tryd.underlying3 hE
  have hlen : wordsN.length = 16 := by kernel_rfl
  have e3 : (xs.map (·.1)) = wordsN.map fun n : Nat => .lit (.int .i64 (n : Int)) := (DataW.agg.inj (Prod.mk.inj ex).1).symm
  have e4 : (xs.map (·.1))[r]? = (wordsN.map fun n : Nat => (DataW.lit (.int .i64 (n : Int)) : DataW Unit))[r]? := by rw [e3]
  rw [List.getElem?_map, List.getElem?_map, List.getElem?_eq_getElem (by omega : r < xs.length), List.getElem?_eq_getElem (by omega : r < wordsN.length), e2] at e4
  have hz : z = ((wordsN.getD r 0 : Nat) : Int) := by
    simp only [Option.map_some, Option.some.injEq, DataW.lit.injEq, Lit.int.injEq, true_and] at e4
    rw [e4, List.getD, List.getElem?_eq_getElem (by omega : r < wordsN.length)]; rfl
  rw [World.var?_cell hg hv r, ← hz]
  have : cs.toList[r]? = some (.int .i64 z) := by
    have h0 : ((cs.toList.drop r).take 1)[0]? = some (.int .i64 z) := by rw [e1]; rfl
    simpa using h0
  simpa using this
end Go.Proofs.YtdfkejjgmippfaaDoor
