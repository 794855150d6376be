/- IFilt: a part of the proofs of this seat. -/
import Derived.BigQuiet
import Derived.Deep.RegionLaw
import Derived.Test.YtdmpokanfnlbgaaGreatDoorProg
import Derived.Test.YtdmpokanfnlbgaaGreatDoorBG0b
namespace Go.Proofs.YtdmpokanfnlbgaaGreatDoor
open Go.RowKit
set_option linter.all false
/- Filtered words. -/
theorem apart_newF {w w' : World} {lo n m : Nat} {u v : Value} {ss tt : List ByteArray} (hv : OStrs w lo v n ss) (hb : Below w.heap.size w w') (hu : OStrs w' w.heap.size u m tt) : Apart u v := by
  intro b h1 h2
  have e1 := (hu.ownlt b h1).1
  have e2 := (hv.ownlt b h2).2
  omega
set_option maxRecDepth 20000 in
set_option maxHeartbeats 3200000 in
theorem filtAv_any (K : Nat) (ao : Option Addr) (n cap : Nat) (F : List ByteArray) (m : Nat) (w : World) (hK1 : 1 ≤ K) (hK3 : K ≤ 3) (hm1 : 1 ≤ m) (hm6 : m ≤ 6) (hF : ∀ f ∈ F, 0 < f.size ∧ f.size ≤ 100) (hm : MaxM w) (h2 : Strs w ao n F) :
    Calls Tryz.prog 74 #[.int .i64 K, .int .i64 m, .func (.func 93) #[.agg #[.int .i64 K, .slice ao n cap]] #[]] w fun e w' => ∃ v, e = .returned v ∧ OStrs w' w.heap.size v ((allW K m).filter (avB F)).length ((allW K m).filter (avB F)) ∧ Below w.heap.size w w' := by
  have HE := Lib.hid (OStrs.empty w w.heap.size (Nat.le_refl _))
  have HBE := Lib.hid (belowA w (.cells #[] 9))
  have HM := Lib.hid hm
  have H2 := Lib.hid h2
  have HFF := Lib.hid hF
  obtain ⟨L, hL⟩ : ∃ L, allW K m = L := ⟨_, rfl⟩
  have HC := fun W => iWordsOf_any K m W hK1 hK3 (by omega)
  have hLB : L.length ≤ 6561 := by rw [← hL, allW_len]; exact pow_le_of hK3 (by omega)
  have HKB : Hid (∀ (i : Nat) (s : ByteArray), L[i]? = some s → 0 < s.size ∧ s.size ≤ 100) := by
    show ∀ (i : Nat) (s : ByteArray), _
    intro i s hs
    rw [← hL] at hs
    have hil : i < K ^ m := by have := (List.getElem?_eq_some_iff.1 hs).1; rw [allW_len] at this; exact this
    rw [allW_get hil] at hs
    injection hs with hs
    subst hs
    exact ⟨by rw [wordN_size]; omega, by rw [wordN_size]; omega⟩
  rw [hL] at HC ⊢
  have HC := Lib.hid HC
  clear hL hm h2 hF
  go_enter Tryz.func74, Tryz.ntmps74
  go_wp2_with (first
    | (go_at_call 95; refine (HC.out _).mono ?_; rintro e w1 ⟨v1, rfl, ho1, hb1⟩; obtain ⟨a1, c1, rfl, hi1⟩ := ho1.form; have HA := Lib.hid (apart_newF HE.out hb1 ho1); have HO1 := Lib.hid (ho1.mono HBE.out.size); have HB1 := Lib.hid (step2 HBE.out hb1); have HE1 := Lib.hid (HE.out.keep hb1); clear ho1 hi1 hb1))
  go_loopw [7, 15] (fun v x wr => ∃ (i : Nat) (acc : List ByteArray), i ≤ L.length ∧ acc.length ≤ i ∧ x = .int .i64 i ∧ OStrs wr w.heap.size v acc.length acc ∧ OStrs wr w.heap.size (.slice a1 L.length c1) L.length L ∧ Apart (.slice a1 L.length c1) v ∧ Hid (acc ++ (L.drop i).filter (avB F) = L.filter (avB F)) ∧ Below w.heap.size w wr) (fun _ x _ => L.length - (intOf x).toNat)
  case atStart => exact ⟨0, [], Nat.zero_le _, Nat.le_refl _, rfl, HE1.out, HO1.out, HA.out, rfl, HB1.out⟩
  case round =>
    obtain ⟨i, acc, hi, hal, rfl, hown, hst, hap, hr, hbl⟩ := hrel
    obtain ⟨a7, c7, rfl, _⟩ := hown.form
    have HO := Lib.hid hown
    have HB := Lib.hid hbl
    have HST := Lib.hid hst
    have HAP := Lib.hid hap
    clear hown hbl hst HE1 hap
    by_cases hlt : i < L.length
    · obtain ⟨b, o, s, rfl, hc, hs⟩ := HST.out.read.at_ hlt
      have HFI := Lib.hid (filt_step (p := avB F) hs.out hr.out)
      have hsz := HKB.out i s hs.out
      have HML := Lib.hid (HM.out.keep (HB.out.mono (Nat.le_refl _)))
      have HC2 := Lib.hid (H2.out.keep HB.out)
      clear hs hr
      cases hp : avB F s
      · have HN := Lib.hid (HFI.out.2 hp)
        have HP := Lib.hid hp
        clear hp HFI
        go_wp2_with (go_at_call 93; refine (iAvoids_any K ao n cap F s _ HC2.out hsz.2 HFF.out HML.out).mono ?_; rw [HP.out]; rintro e w2 ⟨rfl, hb2⟩; have HB2 := Lib.hid (step2 HB.out hb2); have HO2 := Lib.hid (HO.out.keep hb2); have HST2 := Lib.hid (HST.out.keep hb2); clear hb2)
        go_roundw
        case rel => exact ⟨i + 1, acc, hlt, by omega, by go_num, HO2.out, HST2.out, HAP.out, HN.out, HB2.out⟩
        case measure => (simp [intOf] <;> omega)
      · have HN := Lib.hid (HFI.out.1 hp)
        have HP := Lib.hid hp
        clear hp HFI
        go_wp2_with (first
          | (go_at_call 93; refine (iAvoids_any K ao n cap F s _ HC2.out hsz.2 HFF.out HML.out).mono ?_; rw [HP.out]; rintro e w2 ⟨rfl, hb2⟩; have HB2 := Lib.hid (step2 HB.out hb2); have HO2 := Lib.hid (HO.out.keep hb2); have HST2 := Lib.hid (HST.out.keep hb2); clear hb2)
          | (refine wpList_push_strAt w2 _ rfl (.tmp 22) (.tmp 24) rfl w.heap.size _ _ _ rfl HO2.out (by omega) HB2.out.size _ rfl rfl ?_; intro v3 w3 ho3 hg3 hn3; have HO3 := Lib.hid ho3; have HB3 := Lib.hid (HB2.out.grown hg3 HB2.out.size (fun b hb => (HO2.out.ownlt b hb).1)); have HST3 := Lib.hid (HST2.out.far hg3 HAP.out); have HAP3 := Lib.hid (hn3.apart HAP.out (fun b hb => (HST2.out.ownlt b hb).2)); clear ho3 hg3 hn3))
        go_roundw
        case rel => exact ⟨i + 1, _, hlt, by simp; omega, by go_num, by simpa using HO3.out, HST3.out, HAP3.out, HN.out, HB3.out⟩
        case measure => (simp [intOf] <;> omega)
    · have HFI := Lib.hid (filt_end (by omega) hr.out)
      clear hr
      go_wp2_with fail
      go_ret
      rw [← HFI.out]
      exact ⟨_, rfl, HO.out, HB.out⟩
set_option maxRecDepth 20000 in
set_option maxHeartbeats 3200000 in
theorem langClose_any (K : Int) (ao : Option Addr) (n cap : Nat) (F : List ByteArray) (g gc : Nat) (aQ : Option Addr) (nQ cQ : Nat) (Q : List ByteArray) (s : ByteArray) (w : World) (h0 : 0 < s.size) (hs : s.size ≤ 100) (hF : ∀ f ∈ F, 0 < f.size ∧ f.size ≤ 100) (hm : MaxM w) (h1 : Blk w g 30 #[.int .i64 K, .slice ao n cap]) (h2 : Strs w ao n F) (h3 : w.cell? ⟨gc, 0, none⟩ = some (.slice aQ nQ cQ)) (h4 : Strs w aQ nQ Q) (hQ : ∀ p ∈ Q, p.size ≤ 100) :
    Calls Tryz.prog 75 #[.string s, .pointer (some ⟨g, 0, none⟩), .pointer (some ⟨gc, 0, none⟩)] w fun e w' => e = .returned (.bool (hasI F Q s)) ∧ Below w.heap.size w w' := by
  have k0 := h1.cell 0
  have k1 := h1.cell 1
  change _ = some _ at k0
  change _ = some _ at k1
  have HH := Lib.hid (iHas_any K ao n cap F aQ nQ cQ Q s w h2 hF h4 hQ h0 hs hm)
  clear h1 h2 h4 hF hQ hm
  go_enter Tryz.func75, Tryz.ntmps75
  go_wp2_with (go_at_call 76; refine HH.out.mono ?_; rintro e w1 ⟨rfl, hb1⟩; have HB1 := Lib.hid hb1; clear hb1)
  go_ret
  exact ⟨rfl, HB1.out⟩
set_option maxRecDepth 20000 in
set_option maxHeartbeats 3200000 in
theorem filtHas_any (K : Nat) (ao : Option Addr) (n cap : Nat) (F : List ByteArray) (g gc : Nat) (aQ : Option Addr) (nQ cQ : Nat) (Q : List ByteArray) (m : Nat) (w : World) (hK1 : 1 ≤ K) (hK3 : K ≤ 3) (hm1 : 1 ≤ m) (hm6 : m ≤ 6) (hF : ∀ f ∈ F, 0 < f.size ∧ f.size ≤ 100) (hm : MaxM w) (h1 : Blk w g 30 #[.int .i64 K, .slice ao n cap]) (h2 : Strs w ao n F) (h3 : w.cell? ⟨gc, 0, none⟩ = some (.slice aQ nQ cQ)) (h4 : Strs w aQ nQ Q) (hQ : ∀ p ∈ Q, p.size ≤ 100) :
    Calls Tryz.prog 74 #[.int .i64 K, .int .i64 m, .func (.func 75) #[] #[.pointer (some ⟨g, 0, none⟩), .pointer (some ⟨gc, 0, none⟩)]] w fun e w' => ∃ v, e = .returned v ∧ OStrs w' w.heap.size v ((allW K m).filter (hasI F Q)).length ((allW K m).filter (hasI F Q)) ∧ Below w.heap.size w w' := by
  have HE := Lib.hid (OStrs.empty w w.heap.size (Nat.le_refl _))
  have HBE := Lib.hid (belowA w (.cells #[] 9))
  have HM := Lib.hid hm
  have H1 := Lib.hid h1
  have H3 := Lib.hid h3
  have H4 := Lib.hid h4
  have HQQ := Lib.hid hQ
  have H2 := Lib.hid h2
  have HFF := Lib.hid hF
  obtain ⟨L, hL⟩ : ∃ L, allW K m = L := ⟨_, rfl⟩
  have HC := fun W => iWordsOf_any K m W hK1 hK3 (by omega)
  have hLB : L.length ≤ 6561 := by rw [← hL, allW_len]; exact pow_le_of hK3 (by omega)
  have HKB : Hid (∀ (i : Nat) (s : ByteArray), L[i]? = some s → 0 < s.size ∧ s.size ≤ 100) := by
    show ∀ (i : Nat) (s : ByteArray), _
    intro i s hs
    rw [← hL] at hs
    have hil : i < K ^ m := by have := (List.getElem?_eq_some_iff.1 hs).1; rw [allW_len] at this; exact this
    rw [allW_get hil] at hs
    injection hs with hs
    subst hs
    exact ⟨by rw [wordN_size]; omega, by rw [wordN_size]; omega⟩
  rw [hL] at HC ⊢
  have HC := Lib.hid HC
  clear hL hm h1 h2 hF h3 h4 hQ
  go_enter Tryz.func74, Tryz.ntmps74
  go_wp2_with (first
    | (go_at_call 95; refine (HC.out _).mono ?_; rintro e w1 ⟨v1, rfl, ho1, hb1⟩; obtain ⟨a1, c1, rfl, hi1⟩ := ho1.form; have HA := Lib.hid (apart_newF HE.out hb1 ho1); have HO1 := Lib.hid (ho1.mono HBE.out.size); have HB1 := Lib.hid (step2 HBE.out hb1); have HE1 := Lib.hid (HE.out.keep hb1); clear ho1 hi1 hb1))
  go_loopw [7, 15] (fun v x wr => ∃ (i : Nat) (acc : List ByteArray), i ≤ L.length ∧ acc.length ≤ i ∧ x = .int .i64 i ∧ OStrs wr w.heap.size v acc.length acc ∧ OStrs wr w.heap.size (.slice a1 L.length c1) L.length L ∧ Apart (.slice a1 L.length c1) v ∧ Hid (acc ++ (L.drop i).filter (hasI F Q) = L.filter (hasI F Q)) ∧ Below w.heap.size w wr) (fun _ x _ => L.length - (intOf x).toNat)
  case atStart => exact ⟨0, [], Nat.zero_le _, Nat.le_refl _, rfl, HE1.out, HO1.out, HA.out, rfl, HB1.out⟩
  case round =>
    obtain ⟨i, acc, hi, hal, rfl, hown, hst, hap, hr, hbl⟩ := hrel
    obtain ⟨a7, c7, rfl, _⟩ := hown.form
    have HO := Lib.hid hown
    have HB := Lib.hid hbl
    have HST := Lib.hid hst
    have HAP := Lib.hid hap
    clear hown hbl hst HE1 hap
    by_cases hlt : i < L.length
    · obtain ⟨b, o, s, rfl, hc, hs⟩ := HST.out.read.at_ hlt
      have HFI := Lib.hid (filt_step (p := hasI F Q) hs.out hr.out)
      have hsz := HKB.out i s hs.out
      have HML := Lib.hid (HM.out.keep (HB.out.mono (Nat.le_refl _)))
      have HC1 := Lib.hid (H1.out.keep HB.out)
      have HC3 := Lib.hid ((HB.out.cell (World.block_lt_of_cell? w _ H3.out)).trans H3.out)
      have HC4 := Lib.hid (H4.out.keep HB.out)
      have HC2 := Lib.hid (H2.out.keep HB.out)
      clear hs hr
      cases hp : hasI F Q s
      · have HN := Lib.hid (HFI.out.2 hp)
        have HP := Lib.hid hp
        clear hp HFI
        go_wp2_with (go_at_call 75; refine (langClose_any K ao n cap F g gc aQ nQ cQ Q s _ hsz.1 hsz.2 HFF.out HML.out HC1.out HC2.out HC3.out HC4.out HQQ.out).mono ?_; rw [HP.out]; rintro e w2 ⟨rfl, hb2⟩; have HB2 := Lib.hid (step2 HB.out hb2); have HO2 := Lib.hid (HO.out.keep hb2); have HST2 := Lib.hid (HST.out.keep hb2); clear hb2)
        go_roundw
        case rel => exact ⟨i + 1, acc, hlt, by omega, by go_num, HO2.out, HST2.out, HAP.out, HN.out, HB2.out⟩
        case measure => (simp [intOf] <;> omega)
      · have HN := Lib.hid (HFI.out.1 hp)
        have HP := Lib.hid hp
        clear hp HFI
        go_wp2_with (first
          | (go_at_call 75; refine (langClose_any K ao n cap F g gc aQ nQ cQ Q s _ hsz.1 hsz.2 HFF.out HML.out HC1.out HC2.out HC3.out HC4.out HQQ.out).mono ?_; rw [HP.out]; rintro e w2 ⟨rfl, hb2⟩; have HB2 := Lib.hid (step2 HB.out hb2); have HO2 := Lib.hid (HO.out.keep hb2); have HST2 := Lib.hid (HST.out.keep hb2); clear hb2)
          | (refine wpList_push_strAt w2 _ rfl (.tmp 22) (.tmp 24) rfl w.heap.size _ _ _ rfl HO2.out (by omega) HB2.out.size _ rfl rfl ?_; intro v3 w3 ho3 hg3 hn3; have HO3 := Lib.hid ho3; have HB3 := Lib.hid (HB2.out.grown hg3 HB2.out.size (fun b hb => (HO2.out.ownlt b hb).1)); have HST3 := Lib.hid (HST2.out.far hg3 HAP.out); have HAP3 := Lib.hid (hn3.apart HAP.out (fun b hb => (HST2.out.ownlt b hb).2)); clear ho3 hg3 hn3))
        go_roundw
        case rel => exact ⟨i + 1, _, hlt, by simp; omega, by go_num, by simpa using HO3.out, HST3.out, HAP3.out, HN.out, HB3.out⟩
        case measure => (simp [intOf] <;> omega)
    · have HFI := Lib.hid (filt_end (by omega) hr.out)
      clear hr
      go_wp2_with fail
      go_ret
      rw [← HFI.out]
      exact ⟨_, rfl, HO.out, HB.out⟩
end Go.Proofs.YtdmpokanfnlbgaaGreatDoor
