/- IOrb: a part of the proofs of this seat. -/
import Derived.Test.YtnoghnalopdflaaDoorProg
import Derived.Test.YtnoghnalopdflaaDoorOrbT
import Derived.Test.YtnoghnalopdflaaDoorILeastP
namespace Go.Proofs.YtnoghnalopdflaaDoor
open Go.RowKit
set_option linter.all false
set_option maxHeartbeats 1600000 in
theorem iOrb_nil (pm : Option Addr) (nm cm : Nat) (m : List (List Int)) (n : Int) (w : World) (h : Intss w pm nm m) :
    Calls Tryd.prog 74 #[.slice pm nm cm, .int .i64 n] w fun e w' => ∃ v, e = .returned v ∧ OInts w' w.heap.size v (orbV m n).length (orbV m n) ∧ Below w.heap.size w w' ∧ (orbV m n = [] → v = .slice none 0 0) := by
  have H := Lib.hid h
  clear h
  by_cases hl : n < 1
  · have hg : Hid (orbV m n = []) := by show _ = _; simp [orbV, inR_no (x := n) (lo := 1) (hi := 10) (.inl hl)]
    go_enter Tryd.func74, Tryd.ntmps74
    go_wp2_with fail
    go_ret
    rw [hg.out]
    exact ⟨_, rfl, OInts.none_ _ _, Below.refl _ _, fun _ => rfl⟩
  by_cases hh : 10 < n
  · have hg : Hid (orbV m n = []) := by show _ = _; simp [orbV, inR_no (x := n) (lo := 1) (hi := 10) (.inr hh)]
    have hd1 : decide (n < 1) = false := by simpa using hl
    go_enter Tryd.func74, Tryd.ntmps74
    go_wp2_with fail
    go_ret
    rw [hg.out]
    exact ⟨_, rfl, OInts.none_ _ _, Below.refl _ _, fun _ => rfl⟩
  have h1 : inR n 1 10 = true := inR_mk ⟨by omega, by omega⟩
  have hd1 : decide (n < 1) = false := by simpa using hl
  have hd2 : decide (10 < n) = false := by simpa using hh
  have hr := inR_true h1
  obtain ⟨n0, rfl⟩ := Int.eq_ofNat_of_zero_le (show 0 ≤ n by omega)
  have hn0 : n0 ≤ 10 := by omega
  have hn1 : 1 ≤ n0 := by omega
  have HG : Hid (orbL m (n0 + 1 - 1) 1 [] = orbV m (n0 : Int)) := by show _ = _; simp [orbV, h1]
  clear hr
  go_enter Tryd.func74, Tryd.ntmps74
  go_wp2_with fail
  clear h1
  go_loopw [5, 6] (fun v x wr => ∃ (k : Nat) (ys : List Int), 1 ≤ k ∧ k ≤ n0 + 1 ∧ x = .int .i64 k ∧ ys.length + 1 = k ∧ OInts wr w.heap.size v ys.length ys ∧ Below w.heap.size w wr ∧ Hid (orbL m (n0 + 1 - k) k ys = orbV m (n0 : Int))) (fun _ x _ => n0 + 1 - (intOf x).toNat)
  case atStart => exact ⟨1, [], by omega, by omega, rfl, rfl, OInts.empty _ _ (Nat.le_refl _), (Below.refl _ _).alloc (Nat.le_refl _) _, HG.out⟩
  case round =>
    obtain ⟨k, ys, hk1, hk2, rfl, hyl, hown, hbl, hl⟩ := hrel
    obtain ⟨ao5, cap5, e5, _⟩ := hown.form
    subst e5
    have hyb : ys.length ≤ 10 := by omega
    have HYL := Lib.hid hyl
    have Hown := Lib.hid hown
    have Hbl := Lib.hid hbl
    have HM := Lib.hid (H.out.keep hbl)
    clear hown hbl hyl
    by_cases hle : k ≤ n0
    · have HS := Lib.hid (orb_step hle hl)
      clear hl
      by_cases hneg : lp m k < 0
      · have hdn : decide (lp m k < 0) = true := by simpa using hneg
        have HR := Lib.hid (HS.out.1 hneg)
        clear HS hneg
        go_wp2_with (go_at_call 114; refine (iLp_any _ _ _ m _ _ HM.out).mono ?_; rintro e w1 ⟨rfl, hb1⟩; have Hb1 := Lib.hid hb1; clear hb1)
        go_ret
        rw [HR.out]
        exact ⟨_, rfl, OInts.none_ _ _, step2 Hbl.out Hb1.out, fun _ => rfl⟩
      · have hdn : decide (lp m k < 0) = false := by simpa using hneg
        have HR := HS.out.2 hneg
        clear HS hneg
        go_wp2_with (first
          | (go_at_call 114; refine (iLp_any _ _ _ m _ _ HM.out).mono ?_; rintro e w1 ⟨rfl, hb1⟩; have Hb1 := Lib.hid hb1; clear hb1)
          | (at_builtin; refine wpList_push_one _ _ rfl _ _ rfl w.heap.size _ _ _ rfl (Hown.out.keep Hb1.out) (by omega) (Nat.le_trans Hbl.out.size Hb1.out.size) _ rfl rfl ?_; intro v1 w3 ho1 hb3; have Ho1 := Lib.hid ho1; have Hb3 := Lib.hid hb3; clear ho1 hb3))
        go_roundw
        case rel => exact ⟨k + 1, ys ++ [lp m k], by omega, by omega, by go_num, by have := HYL.out; simp; omega, by simpa using Ho1.out, (step2 Hbl.out Hb1.out).trans Hb3.out, HR⟩
        case measure => simp [intOf]; omega
    · have HE : Hid (ys = orbV m (n0 : Int)) := by have := hl.out; rw [show n0 + 1 - k = 0 by omega] at this; exact this
      have hne : ys.length + 1 = k := HYL.out
      have HNE : Hid (ys ≠ []) := fun e => by rw [e] at hne; simp at hne; omega
      clear hl hne
      go_wp2_with fail
      go_ret
      rw [← HE.out]
      exact ⟨_, rfl, Hown.out, Hbl.out, fun e => absurd e HNE.out⟩
theorem iOrb_any (pm : Option Addr) (nm cm : Nat) (m : List (List Int)) (n : Int) (w : World) (h : Intss w pm nm m) :
    Calls Tryd.prog 74 #[.slice pm nm cm, .int .i64 n] w fun e w' => ∃ v, e = .returned v ∧ OInts w' w.heap.size v (orbV m n).length (orbV m n) ∧ Below w.heap.size w w' :=
  (iOrb_nil pm nm cm m n w h).mono fun _ _ ⟨v, h1, h2, h3, _⟩ => ⟨v, h1, h2, h3⟩
end Go.Proofs.YtnoghnalopdflaaDoor
