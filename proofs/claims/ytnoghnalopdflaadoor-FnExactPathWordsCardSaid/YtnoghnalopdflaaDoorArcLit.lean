/- A literal of two numbers. -/
import Derived.Test.YtnoghnalopdflaaDoorPathT
namespace Go.Proofs.YtnoghnalopdflaaDoor
open Go.RowKit
set_option linter.all false
theorem OInts.lit2 (w : World) (lo : Nat) (x y : Int) (hlo : lo ≤ w.heap.size) : OInts (w.alloc (.cells #[.int .i64 x, .int .i64 y] 3)) lo (.slice (some ⟨w.heap.size, 0, none⟩) 2 2) 2 [x, y] :=
  ⟨by omega, World.ownsRow_lit (base := lo) (e := 3) (size := 1) w #[.int .i64 x, .int .i64 y] 2 hlo (by unfold maxLen; omega) (by simp)⟩
theorem arcs_low {m : List (List Int)} (hm : isMat m = true) {i j : Nat} {r : List Int} {x : Int} (hr : m[i]? = some r) (hx : r[j]? = some x) : 0 ≤ x ∧ x ≤ 1000000 := allIn_get (isMat_row hm hr).2 hx
end Go.Proofs.YtnoghnalopdflaaDoor
