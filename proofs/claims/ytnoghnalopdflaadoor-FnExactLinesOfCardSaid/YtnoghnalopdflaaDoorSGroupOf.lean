/- SGroupOf: a part of the proofs of this seat. -/
import Derived.Test.YtnoghnalopdflaaDoorProg
import Derived.Test.YtnoghnalopdflaaDoorGroup
import Derived.Test.YtnoghnalopdflaaDoorSDiagonalOf
import Derived.Test.YtnoghnalopdflaaDoorSL23Table
import Derived.Test.YtnoghnalopdflaaDoorSIsSmall
import Derived.Test.YtnoghnalopdflaaDoorBase
namespace Go.Proofs.YtnoghnalopdflaaDoor
open Go.RowKit
set_option linter.all false
set_option maxHeartbeats 1600000 in
theorem sGroupOf_any (ao : Option Addr) (n cap : Nat) (m : List (List Int)) (w : World) (h : Intss w ao n m) :
    Calls Tryd.prog 78 #[.slice ao n cap] w fun e w' => ∃ v, e = .returned v ∧ OInts w' w.heap.size v (groupV m).length (groupV m) ∧ Below w.heap.size w w' := by
  have HL : Hid (m.length = n) := h.1
  have Hempty := Lib.hid (OInts.empty w w.heap.size (Nat.le_refl _))
  have Hbe : Hid (Below w.heap.size w (w.alloc (.cells #[] 3))) := (Below.refl _ _).alloc (Nat.le_refl _) _
  have H := Lib.hid (h.keep Hbe.out)
  clear h
  cases hs : isSmallM m
  · have hg : Hid (groupV m = []) := by show groupV m = _; simp [groupV, hs]
    go_enter Tryd.func78, Tryd.ntmps78
    go_wp2_with (first | (go_at_call 70; refine (sIsSmall_any _ _ _ m _ H.out).mono ?_; rintro e w' ⟨rfl, rfl⟩))
    go_ret
    rw [hg.out]
    exact ⟨_, rfl, Hempty.out, Hbe.out⟩
  have hsm := isSmallM_mat hs
  have HR := Lib.hid (isMat_rowsLen hsm.1 HL.out)
  have hn4 : n ≤ 4 := by have := HL.out; omega
  have HTL : Hid ((tabT m).length = n) := by show (tabT m).length = n; rw [tabT_len, HL.out]
  have HV : Hid (diagV (tabT m) = diagN (lessT 1 1 m)) := by show _ = _; rw [tab_less hs, diagV_less hs]
  have HG : Hid (groupV m = (diagN (lessT 1 1 m)).filter ne1) := by show _ = _; simp [groupV, hs]
  have hDL : (diagN (lessT 1 1 m)).length = n := by rw [diagN_len, lessT_len, HL.out]
  clear hsm
  generalize diagN (lessT 1 1 m) = L at *
  have HDL := Lib.hid hDL
  clear hDL
  go_enter Tryd.func78, Tryd.ntmps78
  go_wp2_with (first
    | (go_at_call 70; refine (sIsSmall_any _ _ _ m _ H.out).mono ?_; rintro e w' ⟨rfl, rfl⟩)
    | (go_at_call 117; refine (sL23Table_any _ _ _ m _ H.out HR.out (by omega)).mono ?_; rintro e w1 ⟨v1, rfl, ho1, hb1⟩; obtain ⟨ao1, cap1, rfl, hi1⟩ := ho1.form; have Hi1 := Lib.hid hi1; have Hb1 := Lib.hid hb1; clear ho1 hb1 hi1)
    | (go_at_call 116; refine (sDiagonalOf_any _ _ _ (tabT m) _ Hi1.out).mono ?_; rintro e w2 ⟨v2, rfl, ho2, hb2⟩; rw [HV.out, HDL.out] at ho2; obtain ⟨ao2, cap2, rfl, hi2⟩ := ho2.form; have Ho2 := Lib.hid ho2; have Hb2 := Lib.hid hb2; clear ho2 hb2 hi2))
  go_loopw [3, 6] (fun v x wr => ∃ (k : Nat) (ys : List Int), k ≤ n ∧ x = .int .i64 k ∧ ys.length ≤ k ∧ OInts wr w.heap.size v ys.length ys ∧ OInts wr w.heap.size (.slice ao2 n cap2) n L ∧ Apart (.slice ao2 n cap2) v ∧ Hid (ys ++ (L.drop k).filter ne1 = L.filter ne1) ∧ Below w.heap.size w wr) (fun _ x _ => n - (intOf x).toNat)
  case atStart =>
    have hb12 := step2 Hb1.out Hb2.out
    refine ⟨0, [], Nat.zero_le _, rfl, Nat.le_refl _, Hempty.out.keep hb12, Ho2.out.mono (Nat.le_trans Hbe.out.size Hb1.out.size), ?_, rfl, step2 Hbe.out hb12⟩
    intro b hb e
    have h1 := (Ho2.out.ltAll b hb).1
    have h2 := (Hempty.out.ltAll b e).2
    have := Hb1.out.size
    omega
  case round =>
    obtain ⟨k, ys, hk, rfl, hyk, hown, hL, hap, hr, hbl⟩ := hrel
    obtain ⟨ao5, cap5, e5, _⟩ := hown.form
    subst e5
    have Hown := Lib.hid hown
    have HLo := Lib.hid hL
    have Hap := Lib.hid hap
    have Hbl := Lib.hid hbl
    clear hown hL hap hbl
    by_cases hlt : k < n
    · obtain ⟨b, o, x, rfl, hcell, hget⟩ := (OInts.read HLo.out).at_ (k := k) hlt
      have Hst := Lib.hid (filter_push hget.out hr.out)
      clear hget hr
      by_cases he : x = 1
      · have he1 : (x != 1) = false := by simp [he]
        have HS := Lib.hid (Hst.out.1 he)
        clear he Hst
        go_wp2_with fail
        go_roundw
        case rel => exact ⟨k + 1, ys, hlt, by go_num, by omega, Hown.out, HLo.out, Hap.out, HS.out, Hbl.out⟩
        case measure => simp [intOf]; omega
      · have he1 : (x != 1) = true := by simp [he]
        have HS := Lib.hid (Hst.out.2 he)
        clear he Hst
        go_wp2_with (first | (at_builtin; refine wpList_push_at _ _ rfl _ _ rfl w.heap.size _ _ _ rfl Hown.out (by omega) Hbl.out.size _ rfl rfl ?_; intro v1 w3 ho1 hg3 hn3; have Ho1 := Lib.hid ho1; have Hg3 := Lib.hid hg3; have Hn3 := Lib.hid hn3; clear ho1 hg3 hn3))
        go_roundw
        case rel =>
          refine ⟨k + 1, ys ++ [x], hlt, by go_num, by simp; omega, by simpa using Ho1.out, HLo.out.far Hg3.out Hap.out, Hn3.out.apart Hap.out (fun b hb => (HLo.out.ltAll b hb).2), HS.out, Hbl.out.grown Hg3.out Hbl.out.size (fun b hb => (Hown.out.ltAll b hb).1)⟩
        case measure => simp [intOf]; omega
    · have e : k = n := by omega
      have HE : Hid (ys = groupV m) := by
        show ys = _
        have := hr.out
        rw [drop_all L k (by rw [HDL.out]; omega)] at this
        rw [HG.out, ← this]; simp
      clear hr
      go_wp2_with fail
      go_ret
      rw [← HE.out]
      exact ⟨_, rfl, Hown.out, Hbl.out⟩
end Go.Proofs.YtnoghnalopdflaaDoor
