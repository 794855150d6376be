/- SCntP: a part of the proofs of this seat. -/
import Derived.Test.YtnoghnalopdflaaDoorProg
import Derived.Test.YtnoghnalopdflaaDoorPathT
import Derived.Test.YtnoghnalopdflaaDoorSPowM
import Derived.Test.YtnoghnalopdflaaDoorSSumOf
namespace Go.Proofs.YtnoghnalopdflaaDoor
open Go.RowKit
set_option linter.all false
set_option maxHeartbeats 1600000 in
theorem sCntP_any (p : Option Addr) (n c : Nat) (m : List (List Int)) (t : Int) (w : World) (h : Intss w p n m) :
    Calls Tryd.prog 104 #[.slice p n c, .int .i64 t] w fun e w' => e = .returned (.int .i64 (cntP m t)) ∧ Below w.heap.size w w' := by
  have H := Lib.hid h
  clear h
  go_enter Tryd.func104, Tryd.ntmps104
  cases hp : powM m t with
  | none =>
    have hg : Hid (cntP m t = -1) := by show _ = _; simp [cntP, hp]
    go_wp2_with fail
    refine (sPowM_any _ _ _ m t _ H.out).mono ?_
    rw [hp]
    rintro e w1 ⟨v1, rfl, ho1, hb1⟩
    go_wp2_with fail
    go_ret
    exact ⟨ret_int hg.out.symm, hb1⟩
  | some q =>
    have hg : Hid (cntP m t = sumOf q) := by show _ = _; simp [cntP, hp]
    go_wp2_with fail
    refine (sPowM_any _ _ _ m t _ H.out).mono ?_
    rw [hp]
    rintro e w1 ⟨v1, rfl, ho1, hb1⟩
    obtain ⟨a1, c1, rfl, hi1⟩ := ho1.form
    go_wp2_with fail
    refine (sSumOf_any _ _ _ q _ hi1).mono ?_
    rintro e w' ⟨rfl, rfl⟩
    go_wp2_with fail
    go_ret
    exact ⟨ret_int hg.out.symm, hb1⟩
end Go.Proofs.YtnoghnalopdflaaDoor
