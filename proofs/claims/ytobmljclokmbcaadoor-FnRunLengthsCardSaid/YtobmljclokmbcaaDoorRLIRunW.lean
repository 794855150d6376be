/- IRunW: a part of the proofs of this seat. -/
import Derived.Test.YtobmljclokmbcaaDoorProg
import Derived.Test.YtobmljclokmbcaaDoorRLG1
namespace Go.Proofs.YtobmljclokmbcaaDoor
open Go.RowKit
set_option linter.all false
theorem apart_newI {w w' : World} {lo n m : Nat} {u v : Value} {ss tt : List ByteArray} (hv : OStrs w lo v n ss) (hb : Below w.heap.size w w') (hu : OStrs w' w.heap.size u m tt) : Apart u v := by
  intro b h1 h2
  have e1 := (hu.ownlt b h1).1
  have e2 := (hv.ownlt b h2).2
  omega
set_option maxHeartbeats 1600000 in
theorem runClose_any (d k : Int) (g1 g2 : Nat) (s : ByteArray) (w : World) (hs : s.size ≤ 1048576) (hm : MaxL w) (h1 : w.cell? ⟨g1, 0, none⟩ = some (.int .i64 d)) (h2 : w.cell? ⟨g2, 0, none⟩ = some (.int .i64 k)) :
    Calls Tryd.prog 50 #[.string s, .pointer (some ⟨g1, 0, none⟩), .pointer (some ⟨g2, 0, none⟩)] w fun e w' => e = .returned (.bool (runP d k s)) ∧ Below w.heap.size w w' := by
  have HM := Lib.hid hm
  clear hm
  go_enter Tryd.func50, Tryd.ntmps50
  go_wp2_with fail
  refine (iKeeps_any d k s _ hs HM.out).mono ?_
  rintro e w1 ⟨rfl, hb⟩
  have HB := Lib.hid hb
  clear hb
  go_wp2_with fail
  go_ret
  exact ⟨rfl, HB.out⟩
set_option maxRecDepth 20000 in
set_option maxHeartbeats 3200000 in
theorem filtRun_any (d k : Int) (g1 g2 m : Nat) (w : World) (hm8 : m ≤ 8) (hm : MaxL w) (h1 : w.cell? ⟨g1, 0, none⟩ = some (.int .i64 d)) (h2 : w.cell? ⟨g2, 0, none⟩ = some (.int .i64 k)) :
    Calls Tryd.prog 49 #[.int .i64 2, .int .i64 m, .func (.func 50) #[] #[.pointer (some ⟨g1, 0, none⟩), .pointer (some ⟨g2, 0, none⟩)]] w fun e w' => ∃ v, e = .returned v ∧ OStrs w' w.heap.size v ((allW 2 m).filter (runP d k)).length ((allW 2 m).filter (runP d k)) ∧ Below w.heap.size w w' := by
  have HE := Lib.hid (OStrs.empty w w.heap.size (Nat.le_refl _))
  have HBE := Lib.hid (belowA w (.cells #[] 9))
  have HM := Lib.hid hm
  have H1 := Lib.hid h1
  have H2 := Lib.hid h2
  obtain ⟨L, hL⟩ : ∃ L, allW 2 m = L := ⟨_, rfl⟩
  have HC := fun W => iWordsOf_any 2 m W (by omega) (by omega) hm8
  have hLB : L.length ≤ 6561 := by rw [← hL, allW_len]; exact pow_le_of (by omega) hm8
  have HKB : Hid (∀ (i : Nat) (s : ByteArray), L[i]? = some s → s.size ≤ 1048576) := by
    show ∀ (i : Nat) (s : ByteArray), _
    intro i s hs
    rw [← hL] at hs
    have hil : i < 2 ^ m := by have := (List.getElem?_eq_some_iff.1 hs).1; rw [allW_len] at this; exact this
    rw [allW_get hil] at hs
    injection hs with hs
    subst hs
    rw [wordN_size]; omega
  rw [hL] at HC ⊢
  have HC := Lib.hid HC
  clear hL hm h1 h2
  go_enter Tryd.func49, Tryd.ntmps49
  go_wp2_with (first
    | (go_at_call 85; refine (HC.out _).mono ?_; rintro e w1 ⟨v1, rfl, ho1, hb1⟩; obtain ⟨a1, c1, rfl, hi1⟩ := ho1.form; have HA := Lib.hid (apart_newI HE.out hb1 ho1); have HO1 := Lib.hid (ho1.mono HBE.out.size); have HB1 := Lib.hid (step2 HBE.out hb1); have HE1 := Lib.hid (HE.out.keep hb1); clear ho1 hi1 hb1))
  go_loopw [7, 15] (fun v x wr => ∃ (i : Nat) (acc : List ByteArray), i ≤ L.length ∧ acc.length ≤ i ∧ x = .int .i64 i ∧ OStrs wr w.heap.size v acc.length acc ∧ OStrs wr w.heap.size (.slice a1 L.length c1) L.length L ∧ Apart (.slice a1 L.length c1) v ∧ Hid (acc ++ (L.drop i).filter (runP d k) = L.filter (runP d k)) ∧ Below w.heap.size w wr) (fun _ x _ => L.length - (intOf x).toNat)
  case atStart => exact ⟨0, [], Nat.zero_le _, Nat.le_refl _, rfl, HE1.out, HO1.out, HA.out, rfl, HB1.out⟩
  case round =>
    obtain ⟨i, acc, hi, hal, rfl, hown, hst, hap, hr, hbl⟩ := hrel
    obtain ⟨a7, c7, rfl, _⟩ := hown.form
    have HO := Lib.hid hown
    have HB := Lib.hid hbl
    have HST := Lib.hid hst
    have HAP := Lib.hid hap
    clear hown hbl hst HE1 hap
    by_cases hlt : i < L.length
    · obtain ⟨b, o, s, rfl, hc, hs⟩ := HST.out.read.at_ hlt
      have HF := Lib.hid (filt_step (p := runP d k) hs.out hr.out)
      have hsz := HKB.out i s hs.out
      have HML := Lib.hid (HM.out.keep (HB.out.mono (Nat.le_refl _)))
      have HC1 := Lib.hid ((HB.out.cell (World.block_lt_of_cell? w _ H1.out)).trans H1.out)
      have HC2 := Lib.hid ((HB.out.cell (World.block_lt_of_cell? w _ H2.out)).trans H2.out)
      clear hs hr
      cases hp : runP d k s
      · have HN := Lib.hid (HF.out.2 hp)
        have HP := Lib.hid hp
        clear hp HF
        go_wp2_with (go_at_call 50; refine (runClose_any d k g1 g2 s _ hsz HML.out HC1.out HC2.out).mono ?_; rw [HP.out]; rintro e w2 ⟨rfl, hb2⟩; have HB2 := Lib.hid (step2 HB.out hb2); have HO2 := Lib.hid (HO.out.keep hb2); have HST2 := Lib.hid (HST.out.keep hb2); clear hb2)
        go_roundw
        case rel => exact ⟨i + 1, acc, hlt, by omega, by go_num, HO2.out, HST2.out, HAP.out, HN.out, HB2.out⟩
        case measure => (simp [intOf] <;> omega)
      · have HN := Lib.hid (HF.out.1 hp)
        have HP := Lib.hid hp
        clear hp HF
        go_wp2_with (first
          | (go_at_call 50; refine (runClose_any d k g1 g2 s _ hsz HML.out HC1.out HC2.out).mono ?_; rw [HP.out]; rintro e w2 ⟨rfl, hb2⟩; have HB2 := Lib.hid (step2 HB.out hb2); have HO2 := Lib.hid (HO.out.keep hb2); have HST2 := Lib.hid (HST.out.keep hb2); clear hb2)
          | (refine wpList_push_strAt w2 _ rfl (.tmp 22) (.tmp 24) rfl w.heap.size _ _ _ rfl HO2.out (by omega) HB2.out.size _ rfl rfl ?_; intro v3 w3 ho3 hg3 hn3; have HO3 := Lib.hid ho3; have HB3 := Lib.hid (HB2.out.grown hg3 HB2.out.size (fun b hb => (HO2.out.ownlt b hb).1)); have HST3 := Lib.hid (HST2.out.far hg3 HAP.out); have HAP3 := Lib.hid (hn3.apart HAP.out (fun b hb => (HST2.out.ownlt b hb).2)); clear ho3 hg3 hn3))
        go_roundw
        case rel => exact ⟨i + 1, _, hlt, by simp; omega, by go_num, by simpa using HO3.out, HST3.out, HAP3.out, HN.out, HB3.out⟩
        case measure => (simp [intOf] <;> omega)
    · have HF := Lib.hid (filt_end (by omega) hr.out)
      clear hr
      go_wp2_with fail
      go_ret
      rw [← HF.out]
      exact ⟨_, rfl, HO.out, HB.out⟩
set_option maxRecDepth 20000 in
set_option maxHeartbeats 1600000 in
theorem iRunWords_any (d k n : Int) (w : World) (hm : MaxL w) : Calls Tryd.prog 7 #[.int .i64 d, .int .i64 k, .int .i64 n] w fun e w' => ∃ v, e = .returned v ∧ OStrs w' w.heap.size v (runWV d k n).length (runWV d k n) ∧ Below w.heap.size w w' := by
  have HB1 := Lib.hid (belowA w (.cells #[.int .i64 d] 3))
  have HB2 := Lib.hid (step2 HB1.out (belowA (w.alloc (.cells #[.int .i64 d] 3)) (.cells #[.int .i64 k] 3)))
  have HML := Lib.hid (hm.keep HB2.out)
  have hz : (w.alloc (.cells #[.int .i64 d] 3)).heap.size = w.heap.size + 1 := by simp
  have hq1 : ((w.alloc (.cells #[.int .i64 d] 3)).alloc (.cells #[.int .i64 k] 3)).cell? ⟨w.heap.size, 0, none⟩ = some (.int .i64 d) := by
    have h := (belowA (w.alloc (.cells #[.int .i64 d] 3)) (.cells #[.int .i64 k] 3)).cell (p := ⟨w.heap.size, 0, none⟩) (by simp)
    rw [h]; exact World.cell?_alloc_new _ _ _ _
  have hq2 : ((w.alloc (.cells #[.int .i64 d] 3)).alloc (.cells #[.int .i64 k] 3)).cell? ⟨w.heap.size + 1, 0, none⟩ = some (.int .i64 k) := by
    rw [← hz]; exact World.cell?_alloc_new _ _ _ _
  clear hz hm
  have Hq1 := Lib.hid hq1
  have Hq2 := Lib.hid hq2
  cases b1 : fitsR d k
  · have B1 := Lib.hid b1
    have hg : Hid (runWV d k n = []) := by show _ = _; simp [runWV, b1]
    clear b1
    go_enter Tryd.func7, Tryd.ntmps7
    go_wp2_with (go_at_call 48; refine (isRange_any _ _ _).mono ?_; rw [B1.out]; rintro e w' ⟨rfl, rfl⟩)
    go_ret
    rw [hg.out]
    exact ⟨_, rfl, OStrs.none_ _ _, HB2.out⟩
  have B1 := Lib.hid b1
  by_cases h1 : n < 0
  · have d1 : decide (n < 0) = true := decide_eq_true h1
    have hg : Hid (runWV d k n = []) := by show _ = _; simp [runWV, inR_no (x := n) (lo := 0) (hi := 8) (.inl h1)]
    clear b1 h1
    go_enter Tryd.func7, Tryd.ntmps7
    go_wp2_with (go_at_call 48; refine (isRange_any _ _ _).mono ?_; rw [B1.out]; rintro e w' ⟨rfl, rfl⟩)
    go_ret
    rw [hg.out]
    exact ⟨_, rfl, OStrs.none_ _ _, HB2.out⟩
  have d1 : decide (n < 0) = false := decide_eq_false h1
  by_cases h2 : 8 < n
  · have d2 : decide (8 < n) = true := decide_eq_true h2
    have hg : Hid (runWV d k n = []) := by show _ = _; simp [runWV, inR_no (x := n) (lo := 0) (hi := 8) (.inr h2)]
    clear b1 h1 h2
    go_enter Tryd.func7, Tryd.ntmps7
    go_wp2_with (go_at_call 48; refine (isRange_any _ _ _).mono ?_; rw [B1.out]; rintro e w' ⟨rfl, rfl⟩)
    go_ret
    rw [hg.out]
    exact ⟨_, rfl, OStrs.none_ _ _, HB2.out⟩
  have d2 : decide (8 < n) = false := decide_eq_false h2
  obtain ⟨m, rfl⟩ : ∃ m : Nat, n = (m : Int) := ⟨n.toNat, by omega⟩
  have hg : Hid (runWV d k m = (allW 2 m).filter (runP d k)) := by show _ = _; simp [runWV, b1, inR_mk (x := (m : Int)) (lo := 0) (hi := 8) ⟨by omega, by omega⟩]
  have hm8 : m ≤ 8 := by omega
  rw [hg.out]
  clear b1 h1 h2
  go_enter Tryd.func7, Tryd.ntmps7
  go_wp2_with (first
    | (go_at_call 48; refine (isRange_any _ _ _).mono ?_; rw [B1.out]; rintro e w' ⟨rfl, rfl⟩)
    | (go_at_call 49; refine (filtRun_any d k _ _ m _ hm8 HML.out Hq1.out Hq2.out).mono ?_; rintro e w3 ⟨v3, rfl, ho3, hb3⟩; have HO3 := Lib.hid (ho3.mono HB2.out.size); have HB3 := Lib.hid (step2 HB2.out hb3); clear ho3 hb3))
  go_ret
  exact ⟨_, rfl, HO3.out, HB3.out⟩
end Go.Proofs.YtobmljclokmbcaaDoor
