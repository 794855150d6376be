/- SArcsOf: a part of the proofs of this seat. -/
import Derived.Test.YtnoghnalopdflaaDoorProg
import Derived.Test.YtnoghnalopdflaaDoorSArcs5
import Derived.Test.YtnoghnalopdflaaDoorSIsGraph
namespace Go.Proofs.YtnoghnalopdflaaDoor
open Go.RowKit
set_option linter.all false
theorem graph_arcs {m : List (List Int)} (h : isGraph m = true) : isMat m = true ∧ sumOf m ≤ 60 ∧ ((arcsL m).length : Int) = sumOf m := by
  have hm : isMat m = true := by
    cases e : isMat m
    · simp [isGraph, e] at h
    · rfl
  simp [isGraph, hm] at h
  exact ⟨hm, h, arcsL_len hm⟩
def arcsV (m : List (List Int)) : List (List Int) := if isGraph m then arcsL m else []
set_option maxHeartbeats 800000 in
theorem sArcsOf_any (p : Option Addr) (n c : Nat) (m : List (List Int)) (w : World) (h : Intss w p n m) :
    Calls Tryd.prog 63 #[.slice p n c] w fun e w' => ∃ v, e = .returned v ∧ OIntss w' w.heap.size v (arcsV m).length (arcsV m) ∧ Below w.heap.size w w' := by
  have H := Lib.hid h
  clear h
  cases hg : isGraph m
  · have hv : Hid (arcsV m = []) := by show _ = _; simp [arcsV, hg]
    go_enter Tryd.func63, Tryd.ntmps63
    go_wp2_with (go_at_call 102; refine (sIsGraph_any _ _ _ m _ H.out).mono ?_; rw [hg]; rintro e w' ⟨rfl, rfl⟩)
    go_ret
    rw [hv.out]
    exact ⟨_, rfl, OIntss.empty _ _ (Nat.le_refl _), (Below.refl _ _).alloc (Nat.le_refl _) _⟩
  · have hv : Hid (arcsV m = arcsL m) := by show _ = _; simp [arcsV, hg]
    have HA := Lib.hid (graph_arcs hg)
    have HG := Lib.hid hg
    clear hg
    go_enter Tryd.func63, Tryd.ntmps63
    go_wp2_with fail
    refine (sIsGraph_any _ _ _ m _ H.out).mono ?_
    rw [HG.out]
    rintro e w' ⟨rfl, rfl⟩
    go_wp2_with fail
    refine (sArcs5_any _ _ _ m _ H.out HA.out.1 (by have := HA.out; omega)).mono ?_
    rintro e w1 ⟨v1, rfl, ho1, hb1⟩
    have Ho1 := Lib.hid ho1
    have Hb1 := Lib.hid hb1
    clear ho1 hb1
    go_wp2_with fail
    go_ret
    rw [hv.out]
    exact ⟨_, rfl, Ho1.out, Hb1.out⟩
end Go.Proofs.YtnoghnalopdflaaDoor
