/- What lies in the blocks from lo to hi has not changed. -/
import Derived.Test.YtlhognagaknhcaaMarks
import Derived.Test.YtlhognagaknhcaaPush
namespace Go.Proofs.Ytlhognagaknhcaa
open Go.RowKit
set_option linter.all false
structure Since (lo hi : Nat) (w w' : World) : Prop where
  size : w.heap.size ≤ w'.heap.size
  block : ∀ k, lo ≤ k → k < hi → w'.heap[k]? = w.heap[k]?
theorem Since.refl (lo hi : Nat) (w : World) : Since lo hi w w := ⟨Nat.le_refl _, fun _ _ _ => rfl⟩
theorem Since.below {lo hi : Nat} {a b c : World} (h : Since lo hi a b) (k : Below b.heap.size b c) (hs : hi ≤ b.heap.size) : Since lo hi a c :=
  ⟨Nat.le_trans h.size k.size, fun i h1 h2 => (k.block i (by omega)).trans (h.block i h1 h2)⟩
theorem Since.older {lo hi l r : Nat} {a b c : World} (h : Since lo hi a b) (k : Within l r b c) (hl : hi ≤ l) (hs : hi ≤ b.heap.size) : Since lo hi a c :=
  ⟨Nat.le_trans h.size k.size, fun i h1 h2 => (k.block i (by omega) (.inl (by omega))).trans (h.block i h1 h2)⟩
theorem Since.newer {lo hi l r : Nat} {a b c : World} (h : Since lo hi a b) (k : Within l r b c) (hl : r ≤ lo) (hs : hi ≤ b.heap.size) : Since lo hi a c :=
  ⟨Nat.le_trans h.size k.size, fun i h1 h2 => (k.block i (by omega) (.inr (by omega))).trans (h.block i h1 h2)⟩
theorem own_since {w w' : World} {lo e size n : Nat} {v : Value} {xs : List Value} (h : w.ownsRow lo e size v n xs) (hw : Since lo w.heap.size w w') : w'.ownsRow lo e size v n xs := by
  refine ⟨h.1, ?_⟩
  rcases h.2 with h2 | ⟨g, cap, cur, hv, hg, hh, r⟩
  · exact .inl h2
  · refine .inr ⟨g, cap, cur, hv, hg, ?_, r⟩
    rw [hw.block g hg (Array.getElem?_eq_some_iff.1 hh).1]; exact hh
theorem OInts.since {w w' : World} {lo n : Nat} {v : Value} {xs : List Int} (h : OInts w lo v n xs) (hw : Since lo w.heap.size w w') : OInts w' lo v n xs := ⟨h.1, own_since h.2 hw⟩
theorem OIntss.since {w w' : World} {lo n : Nat} {v : Value} {xss : List (List Int)} (h : OIntss w lo v n xss) (hw : Since lo w.heap.size w w') : OIntss w' lo v n xss := by
  obtain ⟨h1, h2, vs, ho, hr, hd⟩ := h
  exact ⟨h1, h2, vs, own_since ho hw, fun i u r hu hr' => (hr i u r hu hr').since hw, hd⟩
theorem OInts.read {w : World} {lo n cap : Nat} {ao : Option Addr} {xs : List Int} (h : OInts w lo (.slice ao n cap) n xs) : Ints w ao n xs := by
  obtain ⟨ao', cap', e, hi⟩ := h.form
  injection e with e1
  subst e1
  exact hi
theorem OIntss.read {w : World} {lo n cap : Nat} {ao : Option Addr} {xss : List (List Int)} (h : OIntss w lo (.slice ao n cap) n xss) : Intss w ao n xss := by
  obtain ⟨ao', cap', e, hi⟩ := h.form
  injection e with e1
  subst e1
  exact hi
theorem Below.past {a b c : World} {l r : Nat} (h : Below a.heap.size a b) (k : Within l r b c) (h1 : l ≤ b.heap.size) (h2 : a.heap.size ≤ l) : Below a.heap.size a c :=
  h.trans ((k.below h1).mono h2)
end Go.Proofs.Ytlhognagaknhcaa
