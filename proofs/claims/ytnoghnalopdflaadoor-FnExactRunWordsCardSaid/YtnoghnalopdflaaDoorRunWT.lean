/- The words of a length that keep bounds. -/
import Derived.Test.YtnoghnalopdflaaDoorWordsT
import Derived.Test.YtnoghnalopdflaaDoorKeepsT
import Derived.Test.YtnoghnalopdflaaDoorFiltT
namespace Go.Proofs.YtnoghnalopdflaaDoor
open Go.RowKit
set_option linter.all false
def runP (d k : Int) (s : ByteArray) : Bool := keepsL d k (lens s)
def runWV (d k n : Int) : List ByteArray := if fitsR d k && inR n 0 8 then (allW 2 n.toNat).filter (runP d k) else []
theorem keepsB_word {d k : Int} {n i : Nat} (h : fitsR d k = true) (hn : n ≤ 16) : keepsB d k (wordN 2 n i) = runP d k (wordN 2 n i) := by
  have h2 : isWd ((2 : Nat) : Int) (wordN 2 n i) = true := isWd_word (by omega) (by omega) hn
  have h3 : isWd 2 (wordN 2 n i) = true := h2
  simp [keepsB, h, h3, runP]
theorem runWV_len (d k n : Int) : (runWV d k n).length ≤ 6561 := by
  unfold runWV
  split
  · rename_i h
    simp only [Bool.and_eq_true] at h
    have h1 := inR_true h.2
    have h2 := List.length_filter_le (runP d k) (allW 2 n.toNat)
    rw [allW_len] at h2
    exact Nat.le_trans h2 (pow_le_of (by omega) (by omega))
  · simp
end Go.Proofs.YtnoghnalopdflaaDoor
