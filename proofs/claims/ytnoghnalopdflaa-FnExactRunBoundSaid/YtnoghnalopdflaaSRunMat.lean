/- SRunMat: a part of the proofs of this seat. -/
import Derived.Test.YtnoghnalopdflaaProg
import Derived.Test.YtnoghnalopdflaaRunMatT
import Derived.Test.YtnoghnalopdflaaSRunLab
import Derived.Test.YtnoghnalopdflaaSMatOf
namespace Go.Proofs.Ytnoghnalopdflaa
open Go.RowKit
set_option linter.all false
set_option maxRecDepth 20000 in
set_option maxHeartbeats 3200000 in
theorem sRunMatrix_any (d k : Int) (w : World) : Calls Try.prog 81 #[.int .i64 d, .int .i64 k] w fun e w' => ∃ v, e = .returned (.tuple #[v, .bool (runMO d k)]) ∧ OIntss w' w.heap.size v (runMV d k).length (runMV d k) ∧ Below w.heap.size w w' := by
  cases hf : fitsR d k
  · have HF := Lib.hid hf
    have HV : Hid (runMV d k = [] ∧ runMO d k = false ∧ runX d k = [] ∧ runL d k = 0 ∧ runS d k = 0) := by show _ ∧ _; simp [runMV, runMO, runX, runL, runS, hf, matV, matOk, isLab, inR]
    clear hf
    rw [HV.out.1, HV.out.2.1]
    go_enter Try.func81, Try.ntmps81
    go_wp2_with fail
    refine (sRunLabels_any d k _).mono ?_
    rw [HF.out, HV.out.2.2.1, HV.out.2.2.2.1, HV.out.2.2.2.2]
    rintro e w1 ⟨v1, rfl, ho1, hb1⟩
    obtain ⟨a1, c1, rfl, _⟩ := ho1.form
    have HB2 := Lib.hid (step2 hb1 (below1 w1 (.cells #[.int .i64 0, .int .i64 0, .slice a1 ([] : List Ar).length c1] 28)))
    have HZ : Hid ((w1.alloc (.cells #[.int .i64 0, .int .i64 0, .slice a1 ([] : List Ar).length c1] 28)).heap.size = w1.heap.size + 1) := by show _ = _; simp
    clear ho1 hb1
    go_wp2_with fail
    generalize w1.alloc (.cells #[.int .i64 0, .int .i64 0, .slice a1 ([] : List Ar).length c1] 28) = w2 at HB2 HZ ⊢
    have HE := Lib.hid (OIntss.empty w2 _ (Nat.le_refl _))
    have HBE := Lib.hid (below1 w2 (.cells #[] 68))
    have HE2 := HE.out.mono HB2.out.size
    rw [HZ.out] at HE2
    go_wp2_with fail
    go_ret2
    exact ⟨_, rfl, HE2, step2 HB2.out HBE.out⟩
  · have HF := Lib.hid hf
    clear hf
    go_enter Try.func81, Try.ntmps81
    go_wp2_with fail
    refine (sRunLabels_any d k _).mono ?_
    rw [HF.out]
    rintro e w1 ⟨v1, rfl, ho1, hb1⟩
    obtain ⟨a1, c1, rfl, _⟩ := ho1.form
    have HB2 := Lib.hid (step2 hb1 (below1 w1 (.cells #[.int .i64 (runL d k), .int .i64 (runS d k), .slice a1 (runX d k).length c1] 28)))
    have HI := Lib.hid (ho1.alloc (.cells #[.int .i64 (runL d k), .int .i64 (runS d k), .slice a1 (runX d k).length c1] 28)).read
    clear ho1 hb1
    go_wp2_with fail
    generalize w1.alloc (.cells #[.int .i64 (runL d k), .int .i64 (runS d k), .slice a1 (runX d k).length c1] 28) = w2 at HB2 HI ⊢
    refine (sMatrixOf_any _ _ _ _ _ (runX d k) _ HI.out).mono ?_
    rintro e w3 ⟨v3, rfl, ho3, hb3⟩
    have HO3 := Lib.hid ho3
    clear ho3
    go_wp2_with fail
    go_ret2
    exact ⟨_, rfl, HO3.out.mono HB2.out.size, step2 HB2.out hb3⟩
end Go.Proofs.Ytnoghnalopdflaa
