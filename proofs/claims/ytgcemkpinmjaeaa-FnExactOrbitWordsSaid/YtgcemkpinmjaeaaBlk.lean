/- One block of the call's own, its cells written out. -/
import Derived.Test.YtgcemkpinmjaeaaArcs
namespace Go.Proofs.Ytgcemkpinmjaeaa
open Go.RowKit
set_option linter.all false
def Blk (w : World) (b : Nat) (t : TypeId) (us : Array Value) : Prop := w.heap[b]? = some (.cells us t (0, 0))
section
variable {w w' : World} {b : Nat} {t : TypeId} {us : Array Value}
theorem Blk.lt (h : Blk w b t us) : b < w.heap.size := (Array.getElem?_eq_some_iff.1 h).1
theorem Blk.cell (h : Blk w b t us) (i : Nat) : w.cell? ⟨b, i, none⟩ = us[i]? := cell_of_row w b i us t (0, 0) h
theorem Blk.frozen (h : Blk w b t us) (i : Nat) : w.frozen? ⟨b, i, none⟩ = false := frozen_of_row w b i us t h
theorem Blk.keep (h : Blk w b t us) (hb : Below w.heap.size w w') : Blk w' b t us := (hb.block b h.lt).trans h
theorem Blk.drewN (h : Blk w b t us) (n : Nat) : Blk (w.drewN n) b t us := h
theorem Blk.alloc (h : Blk w b t us) (o : Obj) : Blk (w.alloc o) b t us := h.keep ((Below.refl _ _).alloc (Nat.le_refl _) o)
theorem Blk.new (w : World) (t : TypeId) (us : Array Value) : Blk (w.alloc (.cells us t)) w.heap.size t us := heap_alloc_new w _
theorem Blk.within {lo hi : Nat} (h : Blk w b t us) (hw : Within lo hi w w') (hb : b < lo ∨ hi ≤ b) : Blk w' b t us := (hw.block b h.lt hb).trans h
theorem Blk.grown {row : Option Nat} (h : Blk w b t us) (hg : w.grownBy w' row) (hb : some b ≠ row) : Blk w' b t us := (hg.block b h.lt hb).trans h
theorem Blk.other (h : Blk w b t us) {p : Addr} (hp : b ≠ p.block) (u : Value) : Blk (w.setCell p u) b t us := (heap_setCell_other w p b u hp).trans h
theorem Blk.set (h : Blk w b t us) (i : Nat) (u : Value) : Blk (w.setCell ⟨b, i, none⟩ u) b t (us.setIfInBounds i u) := heap_setCell_same w b i us t u h
end
section
variable {w : World} {b : Nat} {t : TypeId} {u0 u1 u2 : Value}
theorem Blk.c0 (h : Blk w b t #[u0, u1, u2]) : w.cell? ⟨b, 0, none⟩ = some u0 := h.cell 0
theorem Blk.c1 (h : Blk w b t #[u0, u1, u2]) : w.cell? ⟨b, 1, none⟩ = some u1 := h.cell 1
theorem Blk.c2 (h : Blk w b t #[u0, u1, u2]) : w.cell? ⟨b, 2, none⟩ = some u2 := h.cell 2
end
theorem below_lab {B : Nat} {a w : World} (h : Below B a w) {g : Nat} (hg : B ≤ g) (u0 u1 u2 : Value) : Below B a (((w.setCell ⟨g, 0, none⟩ u0).setCell ⟨g, 1, none⟩ u1).setCell ⟨g, 2, none⟩ u2) :=
  ((h.setCell (p := ⟨g, _, none⟩) hg u0).setCell (p := ⟨g, _, none⟩) hg u1).setCell (p := ⟨g, _, none⟩) hg u2
theorem below1 (w : World) (o : Obj) : Below w.heap.size w (w.alloc o) := (Below.refl _ _).alloc (Nat.le_refl _) o
theorem below2 (w : World) (o p : Obj) : Below w.heap.size w ((w.alloc o).alloc p) := (below1 w o).alloc (by simp) p
theorem below3 (w : World) (o p q : Obj) : Below w.heap.size w (((w.alloc o).alloc p).alloc q) := (below2 w o p).alloc (by simp; omega) q
end Go.Proofs.Ytgcemkpinmjaeaa
