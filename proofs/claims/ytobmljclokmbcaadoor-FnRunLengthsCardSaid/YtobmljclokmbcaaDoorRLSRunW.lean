/- SRunW: a part of the proofs of this seat. -/
import Derived.Test.YtobmljclokmbcaaDoorProg
import Derived.Test.YtobmljclokmbcaaDoorRLG1
namespace Go.Proofs.YtobmljclokmbcaaDoor
open Go.RowKit
set_option linter.all false
theorem apart_new {w w' : World} {lo n m : Nat} {u v : Value} {ss tt : List ByteArray} (hv : OStrs w lo v n ss) (hb : Below w.heap.size w w') (hu : OStrs w' w.heap.size u m tt) : Apart u v := by
  intro b h1 h2
  have e1 := (hu.ownlt b h1).1
  have e2 := (hv.ownlt b h2).2
  omega
set_option maxRecDepth 20000 in
set_option maxHeartbeats 3200000 in
theorem sRunWords_any (d k n : Int) (w : World) : Calls Tryd.prog 16 #[.int .i64 d, .int .i64 k, .int .i64 n] w fun e w' => ∃ v, e = .returned v ∧ OStrs w' w.heap.size v (runWV d k n).length (runWV d k n) ∧ Below w.heap.size w w' := by
  have HE := Lib.hid (OStrs.empty w w.heap.size (Nat.le_refl _))
  have HBE := Lib.hid (belowA w (.cells #[] 9))
  cases b1 : fitsR d k
  · have B1 := Lib.hid b1
    have hg : Hid (runWV d k n = []) := by show _ = _; simp [runWV, b1]
    clear b1
    go_enter Tryd.func16, Tryd.ntmps16
    go_wp2_with (go_at_call 53; refine (l25Fits_any _ _ _).mono ?_; rw [B1.out]; rintro e w' ⟨rfl, rfl⟩)
    go_ret
    rw [hg.out]
    exact ⟨_, rfl, HE.out, HBE.out⟩
  have B1 := Lib.hid b1
  cases b2 : inR n 0 8
  · have B2 := Lib.hid b2
    have hg : Hid (runWV d k n = []) := by show _ = _; simp [runWV, b2]
    clear b1 b2
    go_enter Tryd.func16, Tryd.ntmps16
    go_wp2_with (first | (go_at_call 53; refine (l25Fits_any _ _ _).mono ?_; rw [B1.out]; rintro e w' ⟨rfl, rfl⟩) | (go_at_call 57; refine (l1In_any _ _ _ _).mono ?_; rw [B2.out]; rintro e w' ⟨rfl, rfl⟩))
    go_ret
    rw [hg.out]
    exact ⟨_, rfl, HE.out, HBE.out⟩
  have B2 := Lib.hid b2
  have hn := inR_true b2
  obtain ⟨m, rfl⟩ : ∃ m : Nat, n = (m : Int) := ⟨n.toNat, by omega⟩
  have hg : Hid (runWV d k m = (allW 2 m).filter (runP d k)) := by show _ = _; simp [runWV, b1, b2]
  have hm8 : m ≤ 8 := by omega
  rw [hg.out]
  clear b1 b2 hn
  obtain ⟨L, hL⟩ : ∃ L, allW 2 m = L := ⟨_, rfl⟩
  have HC := fun W => sAllW_any 2 m W (by omega) (by omega) hm8
  have hLB : L.length ≤ 6561 := by rw [← hL, allW_len]; exact pow_le_of (by omega) hm8
  have HKB : Hid (∀ (i : Nat) (s : ByteArray), L[i]? = some s → s.size ≤ 1048576 ∧ keepsB d k s = runP d k s) := by
    show ∀ (i : Nat) (s : ByteArray), _
    intro i s hs
    rw [← hL] at hs
    have hil : i < 2 ^ m := by have := (List.getElem?_eq_some_iff.1 hs).1; rw [allW_len] at this; exact this
    rw [allW_get hil] at hs
    injection hs with hs
    subst hs
    exact ⟨by rw [wordN_size]; omega, keepsB_word B1.out (by omega)⟩
  rw [hL] at HC ⊢
  have HC := Lib.hid HC
  clear hL
  go_enter Tryd.func16, Tryd.ntmps16
  go_wp2_with (first
    | (go_at_call 53; refine (l25Fits_any _ _ _).mono ?_; rw [B1.out]; rintro e w' ⟨rfl, rfl⟩)
    | (go_at_call 57; refine (l1In_any _ _ _ _).mono ?_; rw [B2.out]; rintro e w' ⟨rfl, rfl⟩)
    | (go_at_call 58; refine (HC.out _).mono ?_; rintro e w1 ⟨v1, rfl, ho1, hb1⟩; obtain ⟨a1, c1, rfl, hi1⟩ := ho1.form; have HA := Lib.hid (apart_new HE.out hb1 ho1); have HO1 := Lib.hid (ho1.mono HBE.out.size); have HB1 := Lib.hid (step2 HBE.out hb1); have HE1 := Lib.hid (HE.out.keep hb1); clear ho1 hi1 hb1))
  go_loopw [7, 9] (fun v x wr => ∃ (i : Nat) (acc : List ByteArray), i ≤ L.length ∧ acc.length ≤ i ∧ x = .int .i64 i ∧ OStrs wr w.heap.size v acc.length acc ∧ OStrs wr w.heap.size (.slice a1 L.length c1) L.length L ∧ Apart (.slice a1 L.length c1) v ∧ Hid (acc ++ (L.drop i).filter (runP d k) = L.filter (runP d k)) ∧ Below w.heap.size w wr) (fun _ x _ => L.length - (intOf x).toNat)
  case atStart => exact ⟨0, [], Nat.zero_le _, Nat.le_refl _, rfl, HE1.out, HO1.out, HA.out, rfl, HB1.out⟩
  case round =>
    obtain ⟨i, acc, hi, hal, rfl, hown, hst, hap, hr, hbl⟩ := hrel
    obtain ⟨a7, c7, rfl, _⟩ := hown.form
    have HO := Lib.hid hown
    have HB := Lib.hid hbl
    have HST := Lib.hid hst
    have HAP := Lib.hid hap
    clear hown hbl hst HE1 hap
    by_cases hlt : i < L.length
    · obtain ⟨b, o, s, rfl, hc, hs⟩ := HST.out.read.at_ hlt
      have HF := Lib.hid (filt_step (p := runP d k) hs.out hr.out)
      have hk2 := HKB.out i s hs.out
      have hsz := hk2.1
      have HK2 := Lib.hid hk2.2
      have Hc := Lib.hid hc
      clear hs hr hk2
      cases hp : runP d k s
      · have HN := Lib.hid (HF.out.2 hp)
        have HP : Hid (keepsB d k s = false) := HK2.out.trans hp
        clear hp HF
        go_wp2_with (go_at_call 18; refine (sKeepsRuns_any _ _ _ _ hsz).mono ?_; rw [HP.out]; rintro e w2 ⟨rfl, hb2⟩; have HB2 := Lib.hid (step2 HB.out hb2); have HO2 := Lib.hid (HO.out.keep hb2); have HST2 := Lib.hid (HST.out.keep hb2); clear hb2)
        go_roundw
        case rel => exact ⟨i + 1, acc, hlt, by omega, by go_num, HO2.out, HST2.out, HAP.out, HN.out, HB2.out⟩
        case measure => (simp [intOf] <;> omega)
      · have HN := Lib.hid (HF.out.1 hp)
        have HP : Hid (keepsB d k s = true) := HK2.out.trans hp
        clear hp HF
        go_wp2_with (first
          | (go_at_call 18; refine (sKeepsRuns_any _ _ _ _ hsz).mono ?_; rw [HP.out]; rintro e w2 ⟨rfl, hb2⟩; have HB2 := Lib.hid (step2 HB.out hb2); have HO2 := Lib.hid (HO.out.keep hb2); have HST2 := Lib.hid (HST.out.keep hb2); have hc2 := (hb2.cell (World.block_lt_of_cell? _ _ Hc.out)).trans Hc.out; clear hb2)
          | (refine wpList_push_strAt w2 _ rfl (.tmp 36) (.tmp 41) rfl w.heap.size _ _ _ rfl HO2.out (by omega) HB2.out.size _ rfl rfl ?_; intro v3 w3 ho3 hg3 hn3; have HO3 := Lib.hid ho3; have HB3 := Lib.hid (HB2.out.grown hg3 HB2.out.size (fun b hb => (HO2.out.ownlt b hb).1)); have HST3 := Lib.hid (HST2.out.far hg3 HAP.out); have HAP3 := Lib.hid (hn3.apart HAP.out (fun b hb => (HST2.out.ownlt b hb).2)); clear ho3 hg3 hn3))
        go_roundw
        case rel => exact ⟨i + 1, _, hlt, by simp; omega, by go_num, by simpa using HO3.out, HST3.out, HAP3.out, HN.out, HB3.out⟩
        case measure => (simp [intOf] <;> omega)
    · have HF := Lib.hid (filt_end (by omega) hr.out)
      clear hr
      go_wp2_with fail
      go_ret
      rw [← HF.out]
      exact ⟨_, rfl, HO.out, HB.out⟩
end Go.Proofs.YtobmljclokmbcaaDoor
