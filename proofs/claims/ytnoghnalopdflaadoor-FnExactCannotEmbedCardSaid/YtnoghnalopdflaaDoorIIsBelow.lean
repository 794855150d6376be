/- IIsBelow: a part of the proofs of this seat. -/
import Derived.Test.YtnoghnalopdflaaDoorProg
import Derived.Test.YtnoghnalopdflaaDoorIIsSmall
import Derived.Test.YtnoghnalopdflaaDoorIBelow
namespace Go.Proofs.YtnoghnalopdflaaDoor
open Go.RowKit
set_option linter.all false
set_option maxRecDepth 20000 in
set_option maxHeartbeats 1600000 in
theorem iIsBelow_in (p : Option Addr) (n c : Nat) (m : List (List Int)) (q : Int) (w : World) (h : Intss w p n m) (hs : isSmallM m = true) (hq : 0 ≤ q) (hq2 : q ≤ 3600) :
    Calls Tryd.prog 75 #[.slice p n c, .int .i64 q, .int .i64 100] w fun e w' => e = .returned (.bool (belowM m q 100)) ∧ Below w.heap.size w w' := by
  have H := Lib.hid h
  have HS := Lib.hid hs
  clear h hs
  go_enter Tryd.func75, Tryd.ntmps75
  go_wp2_with fail
  refine (iIsSmall_any _ _ _ m _ H.out).mono ?_
  rw [HS.out]
  rintro e w' ⟨rfl, rfl⟩
  go_wp2_with fail
  refine (iBelow_any _ _ _ m q 100 _ H.out HS.out hq (by omega) (by omega) (by omega)).mono ?_
  rintro e w' ⟨rfl, hb⟩
  have HB := Lib.hid hb
  clear hb
  go_wp2_with fail
  go_ret
  exact ⟨rfl, HB.out⟩
end Go.Proofs.YtnoghnalopdflaaDoor
