/- SplitRuns on both sides. -/
import Derived.Test.YtaomoahcdlkifaaDoorProg
import Derived.Test.YtaomoahcdlkifaaDoorIKeeps
import Derived.Test.YtaomoahcdlkifaaDoorSKeeps
namespace Go.Proofs.YtaomoahcdlkifaaDoor
open Go.RowKit
set_option linter.all false
def splitR (d k : Int) (s : ByteArray) : List Int := if keepsB d k s then lens s else []
theorem iSplitRuns_any (d k : Int) (s : ByteArray) (w : World) (hs : s.size ≤ 1048576) (hm : MaxL w) : Calls Tryd.prog 9 #[.int .i64 d, .int .i64 k, .string s] w fun e w' => ∃ v, e = .returned v ∧ OInts w' w.heap.size v (splitR d k s).length (splitR d k s) ∧ Below w.heap.size w w' := by
  have HM := Lib.hid hm
  clear hm
  cases b1 : keepsB d k s
  · have B1 := Lib.hid b1
    have HR : Hid (splitR d k s = []) := by show _ = _; simp [splitR, b1]
    clear b1
    go_enter Tryd.func9, Tryd.ntmps9
    go_wp2_with fail
    refine (iKeepsRuns_any _ _ _ _ hs HM.out).mono ?_
    rw [B1.out]
    rintro e w' ⟨rfl, hb⟩
    have HB := Lib.hid hb
    clear hb
    go_wp2_with fail
    go_ret
    exact ⟨_, rfl, by rw [HR.out]; exact ⟨by decide, by simp, .inl ⟨rfl, rfl⟩⟩, HB.out⟩
  have B1 := Lib.hid b1
  have HR : Hid (splitR d k s = lens s) := by show _ = _; simp [splitR, b1]
  clear b1
  go_enter Tryd.func9, Tryd.ntmps9
  go_wp2_with fail
  refine (iKeepsRuns_any _ _ _ _ hs HM.out).mono ?_
  rw [B1.out]
  rintro e w1 ⟨rfl, hb⟩
  have HB := Lib.hid hb
  clear hb
  go_wp2_with fail
  refine (iRuns_any s _ hs (HM.out.keep HB.out)).mono ?_
  rintro e w2 ⟨v2, rfl, ho2, hb2⟩
  have HO := Lib.hid (ho2.mono HB.out.size)
  have HB2 := Lib.hid hb2
  obtain ⟨a2, c2, rfl, _⟩ := ho2.form
  clear ho2 hb2
  go_wp2_with fail
  go_ret
  exact ⟨_, rfl, by rw [HR.out]; exact HO.out, step2 HB.out HB2.out⟩
theorem sSplitRuns_any (d k : Int) (s : ByteArray) (w : World) (hs : s.size ≤ 1048576) : Calls Tryd.prog 8 #[.int .i64 d, .int .i64 k, .string s] w fun e w' => ∃ v, e = .returned v ∧ OInts w' w.heap.size v (splitR d k s).length (splitR d k s) ∧ Below w.heap.size w w' := by
  cases b1 : keepsB d k s
  · have B1 := Lib.hid b1
    have HR : Hid (splitR d k s = []) := by show _ = _; simp [splitR, b1]
    clear b1
    go_enter Tryd.func8, Tryd.ntmps8
    go_wp2_with fail
    refine (sKeepsRuns_any _ _ _ _ hs).mono ?_
    rw [B1.out]
    rintro e w' ⟨rfl, hb⟩
    have HB := Lib.hid hb
    have HO := Lib.hid ((OInts.empty w' w'.heap.size (Nat.le_refl _)).mono HB.out.size)
    have HB2 := Lib.hid ((Below.refl w'.heap.size w').alloc (Nat.le_refl _) (.cells #[] 3))
    clear hb
    go_wp2_with fail
    go_ret
    exact ⟨_, rfl, by rw [HR.out]; exact HO.out, step2 HB.out HB2.out⟩
  have B1 := Lib.hid b1
  have HR : Hid (splitR d k s = lens s) := by show _ = _; simp [splitR, b1]
  clear b1
  go_enter Tryd.func8, Tryd.ntmps8
  go_wp2_with fail
  refine (sKeepsRuns_any _ _ _ _ hs).mono ?_
  rw [B1.out]
  rintro e w1 ⟨rfl, hb⟩
  have HB := Lib.hid hb
  clear hb
  go_wp2_with fail
  refine (sLens_any s _ hs).mono ?_
  rintro e w2 ⟨v2, rfl, ho2, hb2⟩
  have HO := Lib.hid (ho2.mono HB.out.size)
  have HB2 := Lib.hid hb2
  obtain ⟨a2, c2, rfl, _⟩ := ho2.form
  clear ho2 hb2
  go_wp2_with fail
  go_ret
  exact ⟨_, rfl, by rw [HR.out]; exact HO.out, step2 HB.out HB2.out⟩
end Go.Proofs.YtaomoahcdlkifaaDoor
