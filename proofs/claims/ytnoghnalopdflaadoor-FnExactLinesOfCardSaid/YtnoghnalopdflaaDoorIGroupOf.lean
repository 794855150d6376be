/- IGroupOf: a part of the proofs of this seat. -/
import Derived.Test.YtnoghnalopdflaaDoorProg
import Derived.Test.YtnoghnalopdflaaDoorGroup
import Derived.Test.YtnoghnalopdflaaDoorIDiagonal
import Derived.Test.YtnoghnalopdflaaDoorILess
import Derived.Test.YtnoghnalopdflaaDoorIIsSmall
namespace Go.Proofs.YtnoghnalopdflaaDoor
open Go.RowKit
set_option linter.all false
set_option maxHeartbeats 1600000 in
theorem iGroupOf_any (ao : Option Addr) (n cap : Nat) (m : List (List Int)) (w : World) (h : Intss w ao n m) :
    Calls Tryd.prog 80 #[.slice ao n cap] w fun e w' => ∃ v, e = .returned v ∧ OInts w' w.heap.size v (groupV m).length (groupV m) ∧ Below w.heap.size w w' := by
  have HL : Hid (m.length = n) := h.1
  have H := Lib.hid h
  clear h
  cases hs : isSmallM m
  · have hg : Hid (groupV m = []) := by show groupV m = _; simp [groupV, hs]
    go_enter Tryd.func80, Tryd.ntmps80
    go_wp2_with (first | (go_at_call 73; refine (iIsSmall_any _ _ _ m _ H.out).mono ?_; rintro e w' ⟨rfl, rfl⟩))
    go_ret
    rw [hg.out]
    exact ⟨_, rfl, OInts.none_ _ _, Below.refl _ _⟩
  have hsm := isSmallM_mat hs
  have HR := Lib.hid (isMat_rowsLen hsm.1 HL.out)
  have hn4 : n ≤ 4 := by have := HL.out; omega
  have HS := Lib.hid (less_smith hs)
  have HG : Hid (groupV m = (diagN (lessT 1 1 m)).filter ne1) := by show _ = _; simp [groupV, hs]
  clear hsm
  go_enter Tryd.func80, Tryd.ntmps80
  go_wp2_with (first
    | (go_at_call 73; refine (iIsSmall_any _ _ _ m _ H.out).mono ?_; rintro e w' ⟨rfl, rfl⟩)
    | (go_at_call 122; refine (iLess_any _ _ _ m 1 1 _ H.out HR.out (by omega) (by omega) (by omega) (by omega) (by omega)).mono ?_; rintro e w1 ⟨v1, rfl, ho1, hb1⟩; obtain ⟨ao1, cap1, rfl, hi1⟩ := ho1.form; have Hi1 := Lib.hid hi1; have Hb1 := Lib.hid hb1; clear ho1 hb1 hi1)
    | (go_at_call 121; refine (iDiagonal_any _ _ _ (lessT 1 1 m) _ Hi1.out HS.out).mono ?_; rintro e w2 ⟨v2, rfl, ho2, hb2⟩; have Ho2 := Lib.hid ho2; have Hb2 := Lib.hid (step2 Hb1.out hb2); clear ho2 hb2)
    | (go_at_call 120; refine (delOne_any _ _ w1.heap.size _ _ Ho2.out).mono ?_; rintro e w3 ⟨v3, rfl, ho3, hb3⟩; have Ho3 := Lib.hid (ho3.mono Hb1.out.size); have Hb3 := Lib.hid (Hb2.out.trans (hb3.mono Hb1.out.size)); clear ho3 hb3))
  go_ret
  rw [HG.out]
  exact ⟨_, rfl, Ho3.out, Hb3.out⟩
end Go.Proofs.YtnoghnalopdflaaDoor
