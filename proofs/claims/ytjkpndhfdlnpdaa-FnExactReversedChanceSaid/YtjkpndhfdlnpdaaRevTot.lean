/- How many numbers it holds. -/
import Derived.Test.YtjkpndhfdlnpdaaRevT
import Derived.Test.YtjkpndhfdlnpdaaBase
namespace Go.Proofs.Ytjkpndhfdlnpdaa
open Go.RowKit
set_option linter.all false
theorem revV_tot {t : List (List Int)} : tot (revV t) ≤ 1000000000 := by
  unfold revV
  split
  · rename_i h
    simp only [revOk, restOk, Bool.and_eq_true] at h
    have hf := chance_facts h.1.1
    refine Int.le_trans (tot_rows (n := 4) (fun r hr => ?_)) ?_
    · simp only [revT, List.mem_map, List.mem_range] at hr
      obtain ⟨i, hi, rfl⟩ := hr
      rw [revRow_len]; omega
    · rw [revT_len]; omega
  · simp [tot]
end Go.Proofs.Ytjkpndhfdlnpdaa
