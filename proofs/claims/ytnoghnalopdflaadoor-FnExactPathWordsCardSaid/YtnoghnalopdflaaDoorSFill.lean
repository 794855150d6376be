/- SFill: a part of the proofs of this seat. -/
import Derived.Test.YtnoghnalopdflaaDoorProg
import Derived.Test.YtnoghnalopdflaaDoorSFillP
namespace Go.Proofs.YtnoghnalopdflaaDoor
open Go.RowKit
set_option linter.all false
set_option maxRecDepth 20000 in
set_option maxHeartbeats 3200000 in
theorem sFill_zero (p : Option Addr) (N c t lo : Nat) (A : List (List Int)) (W wr : World) (hv ov : Value) (hd : List Int) (out : List (List Int)) (hlen : hd.length = t) (ho : OIntss wr lo ov out.length out) (hlo : lo ≤ wr.heap.size)
    (hW : Below wr.heap.size wr W) (hh : OInts W wr.heap.size hv hd.length hd) (hM : (out ++ fillL A 0 hd).length ≤ 1099511627776) :
    Calls Tryd.prog 105 #[.slice p N c, .int .i64 t, hv, ov] W (fillPost W lo ov (out ++ fillL A 0 hd)) := by
  have HO := Lib.hid ho
  have HW := Lib.hid hW
  have HH := Lib.hid hh
  obtain ⟨ah, ch, rfl, _⟩ := hh.form
  have hm : out.length + 1 ≤ 1099511627776 := by simpa [fillL] using hM
  have HR : Hid (out ++ fillL A 0 hd = out ++ [hd]) := rfl
  subst hlen
  clear ho hW hh hM
  go_enter Tryd.func105, Tryd.ntmps105
  go_wp2_with (first | (at_builtin; refine wpList_push_rowAt _ _ wr rfl (.tmp 14) (.tmp 16) rfl lo _ out.length out rfl HO.out (by omega) hlo HW.out _ hd HH.out _ ?_ rfl ?_; (first | rfl | simp); intro v4 w4 ho4 hg4 hn4; have Ho4 := Lib.hid ho4; have Hg4 := Lib.hid hg4; have Hn4 := Lib.hid hn4; clear ho4 hg4 hn4))
  go_ret
  rw [HR.out]
  exact ⟨_, rfl, by simpa using Ho4.out, Hg4.out, Hn4.out⟩
end Go.Proofs.YtnoghnalopdflaaDoor
