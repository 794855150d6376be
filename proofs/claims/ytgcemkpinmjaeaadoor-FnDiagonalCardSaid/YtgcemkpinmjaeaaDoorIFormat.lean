/- IFormat: a part of the proofs of this seat. -/
import Derived.Test.YtgcemkpinmjaeaaDoorShelf
import Derived.Lib.AppendIntMem
import Derived.Lib.LaidU8
import Derived.MakeChecks
import Derived.Test.YtgcemkpinmjaeaaDoorProg
import Derived.Test.YtgcemkpinmjaeaaDoorTxtT
namespace Go.Proofs.YtgcemkpinmjaeaaDoor
open Go.RowKit
set_option linter.all false
/-- The library's table of powers of 10 is as it was laid. -/
def PowV (w : World) : Prop := Lib.TabIs Tryd.prog w "internal/strconv.uint64pow10" .u64 Lib.pow10Tab
theorem PowV.keep {w w' : World} (h : PowV w) (hb : Below w.heap.size w w') : PowV w' := by
  have hgn : (Tryd.prog).globalNamed "internal/strconv.uint64pow10" = some 1 := by kernel_rfl
  unfold PowV Lib.TabIs World.var? at h ⊢
  rw [hgn] at h ⊢
  simp only [Option.bind_some] at h ⊢
  have hlt : 1 < w.heap.size := by
    rcases Nat.lt_or_ge 1 w.heap.size with h' | h'
    · exact h'
    · rw [Array.getElem?_eq_none h'] at h; cases h
  rw [hb.block _ hlt]
  exact h
theorem powV_of {w : World} {l : List (String × DataW Unit)} (hn : (l.all fun x => x.2.handleName?.isNone) = true) (hm : ("internal/strconv.uint64pow10", Lib.tabData .u64 Lib.pow10Tab) ∈ l) (h : laidMetH Tryd.prog l w) : PowV w := by
  rw [MakeChecks.laidMetH_plain _ _ _ hn] at h
  obtain ⟨g', t', cs, fuel, p, hg', ht', hvar, hd⟩ := Lib.laidMet.reads h hm
  have hgn : (Tryd.prog).globalNamed "internal/strconv.uint64pow10" = some 1 := by kernel_rfl
  obtain rfl := Option.some.inj (hgn.symm.trans hg')
  unfold PowV Lib.TabIs
  have hty : (((Tryd.prog).globals[1]?).map (·.type)) = some 83 := by kernel_rfl
  obtain rfl := Option.some.inj (hty.symm.trans ht')
  rw [hvar, ← Lib.cells_of_tab Tryd.underlying83 Tryd.underlying77 (by kernel_rfl) (by kernel_rfl) hd]
theorem iFormat_any (u : Nat) (w : World) (hu : u ≤ 9223372036854775807) (ht : PowV w) :
    Calls Tryd.prog 36 #[.int .i64 u] w fun e w' => e = .returned (.string (decB u)) ∧ Below w.heap.size w w' := by
  have hc := Tryd.strconv_Itoa (u : Int) (by omega) (by omega) w ht
  rw [Lib.itoa_nonneg] at hc
  have HC := Lib.hid hc
  clear hc ht
  go_enter Tryd.func36, Tryd.ntmps36
  go_wp2_with (go_at_call 49; refine HC.out.mono ?_; rintro e w' ⟨rfl, k, os, rfl⟩)
  go_ret
  exact ⟨rfl, Lib.below_grow _ _ (Nat.le_refl _) _ _⟩
end Go.Proofs.YtgcemkpinmjaeaaDoor
