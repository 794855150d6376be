/- IDiagonal: a part of the proofs of this seat. -/
import Derived.Test.YtgcemkpinmjaeaaDoorProg
import Derived.Test.YtgcemkpinmjaeaaDoorThA
import Derived.Test.YtgcemkpinmjaeaaDoorIMinors
import Derived.Test.YtgcemkpinmjaeaaDoorBase
namespace Go.Proofs.YtgcemkpinmjaeaaDoor
open Go.RowKit
set_option linter.all false
theorem iMinors_succ (p : Option Addr) (n c : Nat) (t : List (List Int)) (j : Nat) (w : World) (h : Intss w p n t) (hs : smith t = true) (hj : j < n) :
    Calls Tryd.prog 30 #[.slice p n c, .int .i64 ((j : Int) + 1)] w fun e w' => e = .returned (.int .i64 (minorsI t (j + 1))) ∧ Below w.heap.size w w' := by
  have := iMinors_any p n c t (j + 1) w h hs hj
  simpa using this
set_option maxHeartbeats 1600000 in
theorem iDiagonal_any (p : Option Addr) (n c : Nat) (t : List (List Int)) (w : World) (h : Intss w p n t) (hs : smith t = true) :
    Calls Tryd.prog 24 #[.slice p n c] w fun e w' => ∃ v, e = .returned v ∧ OInts w' w.heap.size v (diagN t).length (diagN t) ∧ Below w.heap.size w w' := by
  have hm := h.2.1
  have HL : Hid (t.length = n) := h.1
  have H := Lib.hid h
  clear h
  have hn4 : n ≤ 4 := by have := smith_len hs; have := HL.out; omega
  have HD : Hid (diagL t n 1 1 = (diagN t).drop 0) := by show _ = _; rw [← HL.out]; rfl
  have HSm := Lib.hid hs
  have HS : Hid (∀ j : Nat, j < n → 0 ≤ minorsI t (j + 1) ∧ Small62 (minorsI t (j + 1))) := fun j hj => minorsI_small (smith_bnd hs) (by omega)
  have HN : Hid ((diagN t).length = n) := (diagN_len t).trans HL.out
  go_enter Tryd.func24, Tryd.ntmps24
  go_wp2_with fail
  go_loopw [3, 4, 5] (fun v u x wr => ∃ (j : Nat) (b : Int), j ≤ n ∧ u = .int .i64 b ∧ x = .int .i64 ((j : Int) + 1) ∧ OInts wr w.heap.size v j ((diagN t).take j) ∧ Below w.heap.size w wr ∧ 0 < b ∧ b ≤ 4611686018427387904 ∧ Hid (diagL t (n - j) (j + 1) b = (diagN t).drop j)) (fun _ _ x _ => n + 1 - (intOf x).toNat)
  case atStart => exact ⟨0, 1, Nat.zero_le _, rfl, rfl, OInts.empty w _ (Nat.le_refl _), (Below.refl _ _).alloc (Nat.le_refl _) _, by omega, by omega, HD.out⟩
  case round =>
    obtain ⟨j, b, hj, rfl, rfl, hown, hbl, hb1, hb2, hd⟩ := hrel
    obtain ⟨ao5, cap5, e5, _⟩ := hown.form
    subst e5
    by_cases hlt : j < n
    · have Hown := Lib.hid hown
      have Hbl := Lib.hid hbl
      clear hown hbl
      have hd' : diagL t (n - (j + 1) + 1) (j + 1) b = (diagN t).drop j := by rw [show n - (j + 1) + 1 = n - j by omega]; exact hd.out
      have hS := HS.out j hlt
      by_cases hz : minorsI t (j + 1) = 0
      · have HE := Lib.hid (diag_zero hd' hz)
        have HZ := Lib.hid hz
        clear hd hd' hz hS
        go_wp2_with (first | (go_at_call 30; refine (iMinors_succ _ _ _ t j _ (H.out.keep Hbl.out) HSm.out hlt).mono ?_; rintro e w1 ⟨rfl, hb1⟩; have Hb1 := Lib.hid hb1; rw [HZ.out]; clear hb1) | (at_builtin; refine wpList_push_one _ _ rfl _ _ rfl w.heap.size _ _ _ rfl (Hown.out.keep (Hb1.out.mono (Nat.le_refl _))) (by omega) (Nat.le_trans Hbl.out.size Hb1.out.size) _ rfl rfl ?_; intro v1 w3 ho1 hb3; have Ho1 := Lib.hid ho1; have Hb3 := Lib.hid hb3; clear ho1 hb3))
        go_roundw
        case rel =>
          have ho1 := Ho1.out
          rw [push_take HE.out.1] at ho1
          exact ⟨j + 1, b, hlt, rfl, by go_num, ho1, (Hbl.out.trans (Hb1.out.mono Hbl.out.size)).trans Hb3.out, by omega, by omega, HE.out.2⟩
        case measure => simp [intOf]; omega
      · have HE := Lib.hid (diag_step hd' hz)
        generalize hgg : minorsI t (j + 1) = g at *
        have hg1 : 0 < g := by omega
        have hg2 : g ≤ 4611686018427387904 := hS.2.2
        have hne : (g == 0) = false := by simp; omega
        have hne2 : (b == 0) = false := by simp; omega
        clear hd hd' hz hS
        go_wp2_with (first | (go_at_call 30; refine (iMinors_succ _ _ _ t j _ (H.out.keep Hbl.out) HSm.out hlt).mono ?_; rintro e w1 ⟨rfl, hb1⟩; have Hb1 := Lib.hid hb1; rw [hgg]; clear hb1) | (at_builtin; refine wpList_push_one _ _ rfl _ _ rfl w.heap.size _ _ _ rfl (Hown.out.keep (Hb1.out.mono (Nat.le_refl _))) (by omega) (Nat.le_trans Hbl.out.size Hb1.out.size) _ rfl rfl ?_; intro v1 w3 ho1 hb3; have Ho1 := Lib.hid ho1; have Hb3 := Lib.hid hb3; clear ho1 hb3))
        go_roundw
        case rel =>
          have ho1 := Ho1.out
          rw [show g / b = g.tdiv b from (Int.tdiv_eq_ediv_of_nonneg (by omega)).symm, push_take HE.out.1] at ho1
          exact ⟨j + 1, g, hlt, rfl, by go_num, ho1, (Hbl.out.trans (Hb1.out.mono Hbl.out.size)).trans Hb3.out, by omega, by omega, HE.out.2⟩
        case measure => simp [intOf]; omega
    · have e : j = n := by omega
      subst e
      rw [List.take_of_length_le (by rw [HN.out]; omega)] at hown
      have hown' : OInts wr w.heap.size (.slice ao5 j cap5) (diagN t).length (diagN t) := by rw [HN.out]; exact hown
      have Hown := Lib.hid hown'
      have Hbl := Lib.hid hbl
      clear hown hown' hbl
      go_wp2_with fail
      go_ret
      exact ⟨_, rfl, Hown.out, Hbl.out⟩
end Go.Proofs.YtgcemkpinmjaeaaDoor
