/- STurned: a part of the proofs of this seat. -/
import Derived.Test.YtnoghnalopdflaaProg
import Derived.Test.YtnoghnalopdflaaSMin7
import Derived.Test.YtnoghnalopdflaaSCut
import Derived.Test.YtnoghnalopdflaaSIsSmall
namespace Go.Proofs.Ytnoghnalopdflaa
open Go.RowKit
set_option linter.all false
set_option maxRecDepth 20000 in
set_option maxHeartbeats 3200000 in
theorem sTurned_any (p : Option Addr) (n c : Nat) (m : List (List Int)) (w : World) (h : Intss w p n m) :
    Calls Try.prog 171 #[.slice p n c] w fun e w' => ∃ v, e = .returned v ∧ OInts w' w.heap.size v (turnedP m).length (turnedP m) ∧ Below w.heap.size w w' := by
  have HL : Hid (m.length = n) := h.1
  have Hem := Lib.hid (OInts.empty w w.heap.size (Nat.le_refl _))
  have Hb0 : Hid (Below w.heap.size w (w.alloc (.cells #[] 3))) := (Below.refl _ _).alloc (Nat.le_refl _) _
  have H := Lib.hid h
  clear h
  cases hs : isSmallM m
  · have hg : Hid (turnedP m = []) := by show _ = _; simp [turnedP, hs]
    rw [hg.out]
    go_enter Try.func171, Try.ntmps171
    go_wp2_with (first | (go_at_call 101; refine (sIsSmall_any _ _ _ m _ H.out).mono ?_; rintro e w' ⟨rfl, rfl⟩))
    go_ret
    exact ⟨_, rfl, Hem.out, Hb0.out⟩
  have hsm := isSmallM_mat hs
  have HR := Lib.hid (isMat_rowsLen hsm.1 HL.out)
  have hn4 : n ≤ 4 := by have := HL.out; omega
  have HG : Hid (turnedP m = cutZ (polyL m)) := by show _ = _; simp [turnedP, hs]
  have HPL : Hid ((polyL m).length = n + 1) := by show _ = _; rw [polyL_len, HL.out]
  have HS := Lib.hid hs
  rw [HG.out]
  clear hsm hs
  go_enter Try.func171, Try.ntmps171
  go_wp2_with (first | (go_at_call 101; refine (sIsSmall_any _ _ _ m _ H.out).mono ?_; rw [HS.out]; rintro e w' ⟨rfl, rfl⟩))
  go_loopw [3, 4, 5] (fun v s x wr => ∃ (k : Nat) (g : Int), k ≤ n + 1 ∧ x = .int .i64 k ∧ s = .int .i64 g ∧ -1 ≤ g ∧ g ≤ 1 ∧ Hid (sg k = g) ∧ OInts wr w.heap.size v k ((polyL m).take k) ∧ Below w.heap.size w wr) (fun _ _ x _ => n + 1 - (intOf x).toNat)
  case atStart => exact ⟨0, 1, Nat.zero_le _, rfl, rfl, by omega, by omega, rfl, by simpa using Hem.out, Hb0.out⟩
  case round =>
    obtain ⟨k, g, hk, rfl, rfl, hg1, hg2, hg, hown, hbl⟩ := hrel
    obtain ⟨ao5, cap5, rfl, hi5⟩ := hown.form
    have hcap := hown.capLe rfl
    have Hown := Lib.hid hown
    have Hbl := Lib.hid hbl
    clear hown hbl
    by_cases hlt : k < n + 1
    · have hle : k ≤ n := by omega
      have hd : decide ((k : Int) ≤ (n : Int)) = true := decide_eq_true (by omega)
      have hgx := polyL_get (t := m) (k := k) (by rw [HL.out]; exact hlt)
      have HP : Hid ((polyL m)[k]? = some (wrap64 (g * minTo m n k (2 ^ n)))) := by show _ = _; rw [hgx, HL.out]; unfold pE; rw [hg.out]
      have HSG : Hid (sg (k + 1) = -g) := by show _ = _; rw [sg_next, hg.out]
      obtain ⟨z, hz⟩ : ∃ z, minTo m n k (2 ^ n) = z := ⟨_, rfl⟩
      have HZ := Lib.hid hz
      rw [hz] at HP
      clear hgx hg hz hi5
      go_wp2_with (first
        | (go_at_call 219; refine (sMin7_any _ _ _ m k _ (H.out.keep (Hbl.out.mono (Nat.le_refl _))) HR.out hn4 (by omega)).mono ?_; rw [HZ.out]; rintro e w3 ⟨rfl, hb3⟩; have Hb3 := Lib.hid (Hbl.out.trans (hb3.mono Hbl.out.size)); have HO3 := Lib.hid (Hown.out.keep hb3); clear hb3)
        | (at_builtin; refine wpList_push_one _ _ rfl _ _ rfl w.heap.size _ _ _ rfl HO3.out (by omega) Hb3.out.size _ rfl rfl ?_; intro v1 w4 ho1 hb4; have Ho1 := Lib.hid ho1; have Hb4 := Lib.hid hb4; clear ho1 hb4))
      go_roundw
      case rel => exact ⟨k + 1, -g, hlt, by go_num, rfl, by omega, by omega, HSG.out, by have h := Ho1.out; rw [push_take HP.out] at h; exact h, Hb3.out.trans Hb4.out⟩
      case measure => simp [intOf]; omega
    · have e : k = n + 1 := by omega
      have hd : decide ((k : Int) ≤ (n : Int)) = false := decide_eq_false (by omega)
      subst e
      have HI : Hid (Ints wr ao5 (n + 1) (polyL m)) := by
        have h := hi5
        rw [List.take_of_length_le (by rw [HPL.out]; omega)] at h
        exact h
      clear hi5 Hown
      go_wp2_with (first
        | (go_at_call 220; refine (sCut_any _ _ _ (polyL m) _ HI.out hcap (by omega)).mono ?_; rintro e w5 ⟨v5, rfl, ho5, hb5⟩; have HO5 := Lib.hid ho5; have HB5 := Lib.hid (step2 Hbl.out hb5); clear ho5 hb5))
      go_ret
      exact ⟨_, rfl, HO5.out.mono Hbl.out.size, HB5.out⟩
end Go.Proofs.Ytnoghnalopdflaa
