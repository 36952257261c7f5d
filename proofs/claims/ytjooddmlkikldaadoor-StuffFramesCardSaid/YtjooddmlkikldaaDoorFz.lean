import Derived.Test.YtjooddmlkikldaaDoorWWords
import Derived.Lib.ConvBytes
import Derived.Laws.Rows
import Derived.Laws.Strings
/- A row that a conversion of a string made: its bytes, spare zeros, one mark behind them. -/
namespace Go.Proofs.YtjooddmlkikldaaDoor
open Go.RowKit Go.Proofs.YtjooddmlkikldaaDoorW.PrintWords
def FzCells (l : List UInt8) (m : Nat) : Array Value := (l.map (fun b : UInt8 => Value.int .u8 (b.toNat : Int)) ++ List.replicate m (Value.int .u8 0)).toArray
def FzBytes (w : World) (g : Nat) (e : TypeId) (l : List UInt8) : Prop :=
  ∃ m : Nat, w.heap[g]? = some (.cells (FzCells l m) e (l.length + m, l.length + m + 1))
theorem FzCells_get (l : List UInt8) (m j : Nat) (h : j < l.length) : (FzCells l m)[j]? = some (Value.int .u8 ((l.getD j 0).toNat : Int)) := by
  simp [FzCells, List.getElem?_append, h, List.getD_eq_getElem?_getD]
theorem FzCells_set (l : List UInt8) (m j : Nat) (b : UInt8) (h : j < l.length) : (FzCells l m).setIfInBounds j (.int .u8 (b.toNat : Int)) = FzCells (l.set j b) m := by
  simp only [FzCells, List.setIfInBounds_toArray]
  congr 1
  rw [List.set_append_left _ _ (by simpa using h), List.map_set]
theorem FzBytes.cell {w : World} {g : Nat} {e : TypeId} {l : List UInt8} (h : FzBytes w g e l) (j : Nat) (hj : j < l.length) : w.cell? ⟨g, j, none⟩ = some (.int .u8 ((l.getD j 0).toNat : Int)) := by
  obtain ⟨m, hm⟩ := h
  exact (cell_of_row w g j _ e _ hm).trans (FzCells_get l m j hj)
theorem FzBytes.free {w : World} {g : Nat} {e : TypeId} {l : List UInt8} (h : FzBytes w g e l) (j : Nat) (hj : j < l.length) : w.frozen? ⟨g, j, none⟩ = false := by
  obtain ⟨m, hm⟩ := h
  simp only [World.frozen?, hm]
  rw [Bool.and_eq_false_iff]
  left
  rw [decide_eq_false_iff_not]
  omega
theorem FzBytes.set {w : World} {g : Nat} {e : TypeId} {l : List UInt8} (h : FzBytes w g e l) (j : Nat) (hj : j < l.length) (b : UInt8) : FzBytes (w.setCell ⟨g, j, none⟩ (.int .u8 (b.toNat : Int))) g e (l.set j b) := by
  obtain ⟨m, hm⟩ := h
  refine ⟨m, ?_⟩
  rw [setCell_eq_setRow w g j _ e _ _ hm, setRow_heap w g _ _ e _ hm, FzCells_set l m j b hj, List.length_set]
theorem FzBytes.step {w w1 : World} {g : Nat} {e : TypeId} {l : List UInt8} (h : FzBytes w g e l) (hb : w1.heap[g]? = w.heap[g]?) : FzBytes w1 g e l := by
  obtain ⟨m, hm⟩ := h
  exact ⟨m, hb.trans hm⟩
theorem FzBytes.lt {w : World} {g : Nat} {e : TypeId} {l : List UInt8} (h : FzBytes w g e l) : g < w.heap.size := by
  obtain ⟨m, hm⟩ := h
  rcases Nat.lt_or_ge g w.heap.size with h' | h'
  · exact h'
  · simp [Array.getElem?_eq_none h'] at hm
theorem FzBytes.below {w w1 : World} {g : Nat} {e : TypeId} {l : List UInt8} (h : FzBytes w g e l) (hb : Below w.heap.size w w1) : FzBytes w1 g e l := h.step (hb.block g h.lt)
theorem FzBytes.reads {w : World} {g : Nat} {e : TypeId} {l : List UInt8} (h : FzBytes w g e l) (hl : l.length ≤ 9223372036854775807) : ReadsInt w .u8 (some ⟨g, 0, none⟩) l.length (l.map fun b => (b.toNat : Int)) := by
  refine ⟨by simp, hl, fun _ => ⟨_, rfl, fun j hj => ?_⟩⟩
  have hadd : (⟨g, 0, none⟩ : Addr).add j = ⟨g, j, none⟩ := by unfold Addr.add; split <;> simp_all
  rw [hadd, h.cell j hj]
  simp [List.getD_eq_getElem?_getD, hj]
theorem FzBytes.made (w : World) (e : TypeId) (s : ByteArray) : FzBytes (Lib.bytesWorld w e s) w.heap.size e s.data.toList := by
  refine ⟨grownCap w s.size 0 e - s.size, ?_⟩
  have h := Lib.bytesWorld_at_new w e s
  have ec : Lib.bytesCells w e s = FzCells s.data.toList (grownCap w s.size 0 e - s.size) := by
    apply Array.ext'
    simp [Lib.bytesCells, FzCells]
  rw [h, ec]
  have hn : (FzCells s.data.toList (grownCap w s.size 0 e - s.size)).size = s.data.toList.length + (grownCap w s.size 0 e - s.size) := by simp [FzCells]
  rw [hn]
theorem below_bytesWorld {B : Nat} {w0 w : World} (h : Below B w0 w) (hB : B ≤ w.heap.size) (e : TypeId) (s : ByteArray) : Below B w0 (Lib.bytesWorld w e s) := by
  refine h.trans ⟨?_, ?_, ?_, ?_, ?_⟩
  · simp [Lib.bytesWorld, World.freeze]; rfl
  · simp [Lib.bytesWorld, World.freeze]
  · simp [Lib.bytesWorld, World.freeze]; rfl
  · rw [Lib.bytesWorld_size]; omega
  · intro k hk
    exact Lib.bytesWorld_at_old w e s k (by omega)
end Go.Proofs.YtjooddmlkikldaaDoor
