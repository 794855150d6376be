/- OrbW: a part of the proofs of this seat. -/
import Derived.BigQuiet
import Derived.Deep.RegionLaw
import Derived.Test.YtbjoblgklcilpaaGreatProg
import Derived.Test.YtbjoblgklcilpaaGreatZOrbSh
import Derived.Test.YtbjoblgklcilpaaGreatZG0b
import Derived.Test.YtbjoblgklcilpaaGreatZG0c
namespace Go.Proofs.YtbjoblgklcilpaaGreat
open Go.RowKit
set_option linter.all false
/- The words of the orbits. -/
theorem rep_four (s : ByteArray) : ((s ++ s) ++ s) ++ s = repB s 4 := by
  simp only [repB]
  congr 3
theorem isWd_three {K n i : Nat} (h1 : 1 ≤ K) (h3 : K ≤ 3) (hn : n ≤ 16) : isWd 3 (wordN K n i) = true := by
  have h := isWd_word (k := K) (n := n) (i := i) h1 h3 hn
  obtain ⟨hs, hb⟩ := isWd_get h
  have h2 : inR (3 : Int) 1 3 = true := by decide
  have h4 : okW 3 (wordN K n i) 0 (wordN K n i).size = true := okW_of _ _ fun j _ hj => by
    have := hb j (by omega)
    omega
  unfold isWd
  rw [h2, h4]
  simp
  exact hs
set_option maxRecDepth 20000 in
set_option maxHeartbeats 3200000 in
theorem orbClose_any (K : Int) (ao : Option Addr) (n cap : Nat) (F : List ByteArray) (g : Nat) (s : ByteArray) (w : World) (hw : isWd 3 s = true) (h0 : 0 < s.size) (hF : ∀ f ∈ F, 0 < f.size ∧ f.size ≤ 3) (hm : MaxM w) (h1 : Blk w g 32 #[.int .i64 K, .slice ao n cap]) (h2 : Strs w ao n F) :
    Calls Tryz.prog 35 #[.string s, .pointer (some ⟨g, 0, none⟩)] w fun e w' => e = .returned (.bool (orbP F s)) ∧ Below w.heap.size w w' := by
  have HM := Lib.hid hm
  have HK := Lib.hid h1
  have HS := Lib.hid h2
  have h16 := (isWd_get hw).1
  have HW := Lib.hid hw
  clear hm h1 h2 hw
  go_enter Tryz.func35, Tryz.ntmps35
  go_wp2_with fail
  refine (iRoot_any s _ HW.out h0).mono ?_
  rintro e w1 ⟨r, hr, rfl, hb1⟩
  have hpr := prim_root hr
  have HB1 := Lib.hid hb1
  have q := HK.out.keep hb1
  have k0 : w1.cell? ⟨g, 0, none⟩ = some (.int .i64 K) := q.cell 0
  have k1 : w1.cell? ⟨g, 1, none⟩ = some (.slice ao n cap) := q.cell 1
  have HS1 := Lib.hid (HS.out.keep hb1)
  have HM1 := Lib.hid (HM.out.keep hb1)
  have HKq := Lib.hid q
  clear hb1 q hr
  cases hp : primB s
  · have HR : Hid (orbP F s = false) := by show _ = _; simp [orbP, hp]
    rw [hp] at hpr
    clear hp k0 k1
    go_wp2_with fail
    go_ret
    exact ⟨ret_bool HR.out.symm, HB1.out⟩
  have HP := Lib.hid hp
  rw [hp] at hpr
  clear hp
  go_wp2_with fail
  refine (iLeast_any s _ HW.out h0).mono ?_
  rintro e w2 ⟨rfl, hd2⟩
  have hb2 : Below w1.heap.size w1 w2 := by obtain ⟨m, rfl⟩ := hd2; exact below_drewN (Below.refl _ _) m
  have HB2 := Lib.hid (step2 HB1.out hb2)
  have q := HKq.out.keep hb2
  have k0 : w2.cell? ⟨g, 0, none⟩ = some (.int .i64 K) := q.cell 0
  have k1 : w2.cell? ⟨g, 1, none⟩ = some (.slice ao n cap) := q.cell 1
  have HS2 := Lib.hid (HS1.out.keep hb2)
  have HM2 := Lib.hid (HM1.out.keep hb2)
  clear hb2 q hd2
  cases hl : ((leastB s).toList == s.toList)
  · have HR : Hid (orbP F s = false) := by show _ = _; simp [orbP, hl]
    clear k0 k1
    go_wp2_with fail
    go_ret
    exact ⟨ret_bool HR.out.symm, HB2.out⟩
  have HR : Hid (orbP F s = avB F (repB s 5)) := by show _ = _; simp [orbP, hl, HP.out]
  have H4 := Lib.hid (av_five (s := s) (F := F) h0 hF)
  have HC := Lib.hid (rep_four s)
  have z4 : (repB s 4).size ≤ 100 := by rw [repB_size]; omega
  have HF4 : Hid (∀ f ∈ F, 0 < f.size ∧ f.size ≤ 100) := fun f hf => ⟨(hF f hf).1, by have := (hF f hf).2; omega⟩
  have c1 : ¬ 9223372036854775807 < s.size + s.size := by omega
  have c2 : ¬ 9223372036854775807 < s.size + s.size + s.size := by omega
  have c3 : ¬ 9223372036854775807 < s.size + s.size + s.size + s.size := by omega
  go_wp2_with fail
  rw [HC.out]
  refine (iAvoids_any K ao n cap F (repB s 4) _ HS2.out z4 HF4.out HM2.out).mono ?_
  rintro e w3 ⟨rfl, hb3⟩
  have HB3 := Lib.hid (step2 HB2.out hb3)
  rw [← H4.out]
  clear hb3
  go_wp2_with fail
  go_ret
  exact ⟨ret_bool HR.out.symm, HB3.out⟩
theorem apart_newO {w w' : World} {lo n m : Nat} {u v : Value} {ss tt : List ByteArray} (hv : OStrs w lo v n ss) (hb : Below w.heap.size w w') (hu : OStrs w' w.heap.size u m tt) : Apart u v := by
  intro b h1 h2
  have e1 := (hu.ownlt b h1).1
  have e2 := (hv.ownlt b h2).2
  omega
set_option maxRecDepth 20000 in
set_option maxHeartbeats 3200000 in
theorem filtOrb_any (K : Nat) (ao : Option Addr) (n cap : Nat) (F : List ByteArray) (g m : Nat) (w : World) (hK1 : 1 ≤ K) (hK3 : K ≤ 3) (hm1 : 1 ≤ m) (hm6 : m ≤ 6) (hF : ∀ f ∈ F, 0 < f.size ∧ f.size ≤ 3) (hm : MaxM w) (h1 : Blk w g 32 #[.int .i64 K, .slice ao n cap]) (h2 : Strs w ao n F) :
    Calls Tryz.prog 34 #[.int .i64 K, .int .i64 m, .func (.func 35) #[] #[.pointer (some ⟨g, 0, none⟩)]] w fun e w' => ∃ v, e = .returned v ∧ OStrs w' w.heap.size v ((allW K m).filter (orbP F)).length ((allW K m).filter (orbP F)) ∧ Below w.heap.size w w' := by
  have HE := Lib.hid (OStrs.empty w w.heap.size (Nat.le_refl _))
  have HBE := Lib.hid (belowA w (.cells #[] 9))
  have HM := Lib.hid hm
  have H1 := Lib.hid h1
  have H2 := Lib.hid h2
  have HFF := Lib.hid hF
  obtain ⟨L, hL⟩ : ∃ L, allW K m = L := ⟨_, rfl⟩
  have HC := fun W => iWordsOf_any K m W hK1 hK3 (by omega)
  have hLB : L.length ≤ 6561 := by rw [← hL, allW_len]; exact pow_le_of hK3 (by omega)
  have HKB : Hid (∀ (i : Nat) (s : ByteArray), L[i]? = some s → 0 < s.size ∧ isWd 3 s = true) := by
    show ∀ (i : Nat) (s : ByteArray), _
    intro i s hs
    rw [← hL] at hs
    have hil : i < K ^ m := by have := (List.getElem?_eq_some_iff.1 hs).1; rw [allW_len] at this; exact this
    rw [allW_get hil] at hs
    injection hs with hs
    subst hs
    exact ⟨by rw [wordN_size]; omega, isWd_three hK1 hK3 (by omega)⟩
  rw [hL] at HC ⊢
  have HC := Lib.hid HC
  clear hL hm h1 h2 hF
  go_enter Tryz.func34, Tryz.ntmps34
  go_wp2_with (first
    | (go_at_call 63; refine (HC.out _).mono ?_; rintro e w1 ⟨v1, rfl, ho1, hb1⟩; obtain ⟨a1, c1, rfl, hi1⟩ := ho1.form; have HA := Lib.hid (apart_newO HE.out hb1 ho1); have HO1 := Lib.hid (ho1.mono HBE.out.size); have HB1 := Lib.hid (step2 HBE.out hb1); have HE1 := Lib.hid (HE.out.keep hb1); clear ho1 hi1 hb1))
  go_loopw [7, 15] (fun v x wr => ∃ (i : Nat) (acc : List ByteArray), i ≤ L.length ∧ acc.length ≤ i ∧ x = .int .i64 i ∧ OStrs wr w.heap.size v acc.length acc ∧ OStrs wr w.heap.size (.slice a1 L.length c1) L.length L ∧ Apart (.slice a1 L.length c1) v ∧ Hid (acc ++ (L.drop i).filter (orbP F) = L.filter (orbP F)) ∧ Below w.heap.size w wr) (fun _ x _ => L.length - (intOf x).toNat)
  case atStart => exact ⟨0, [], Nat.zero_le _, Nat.le_refl _, rfl, HE1.out, HO1.out, HA.out, rfl, HB1.out⟩
  case round =>
    obtain ⟨i, acc, hi, hal, rfl, hown, hst, hap, hr, hbl⟩ := hrel
    obtain ⟨a7, c7, rfl, _⟩ := hown.form
    have HO := Lib.hid hown
    have HB := Lib.hid hbl
    have HST := Lib.hid hst
    have HAP := Lib.hid hap
    clear hown hbl hst HE1 hap
    by_cases hlt : i < L.length
    · obtain ⟨b, o, s, rfl, hc, hs⟩ := HST.out.read.at_ hlt
      have HFI := Lib.hid (filt_step (p := orbP F) hs.out hr.out)
      have hsz := HKB.out i s hs.out
      have HML := Lib.hid (HM.out.keep (HB.out.mono (Nat.le_refl _)))
      have HC1 := Lib.hid (H1.out.keep HB.out)
      have HC2 := Lib.hid (H2.out.keep HB.out)
      clear hs hr
      cases hp : orbP F s
      · have HN := Lib.hid (HFI.out.2 hp)
        have HP := Lib.hid hp
        clear hp HFI
        go_wp2_with (go_at_call 35; refine (orbClose_any K ao n cap F g s _ hsz.2 hsz.1 HFF.out HML.out HC1.out HC2.out).mono ?_; rw [HP.out]; rintro e w2 ⟨rfl, hb2⟩; have HB2 := Lib.hid (step2 HB.out hb2); have HO2 := Lib.hid (HO.out.keep hb2); have HST2 := Lib.hid (HST.out.keep hb2); clear hb2)
        go_roundw
        case rel => exact ⟨i + 1, acc, hlt, by omega, by go_num, HO2.out, HST2.out, HAP.out, HN.out, HB2.out⟩
        case measure => (simp [intOf] <;> omega)
      · have HN := Lib.hid (HFI.out.1 hp)
        have HP := Lib.hid hp
        clear hp HFI
        go_wp2_with (first
          | (go_at_call 35; refine (orbClose_any K ao n cap F g s _ hsz.2 hsz.1 HFF.out HML.out HC1.out HC2.out).mono ?_; rw [HP.out]; rintro e w2 ⟨rfl, hb2⟩; have HB2 := Lib.hid (step2 HB.out hb2); have HO2 := Lib.hid (HO.out.keep hb2); have HST2 := Lib.hid (HST.out.keep hb2); clear hb2)
          | (refine wpList_push_strAt w2 _ rfl (.tmp 22) (.tmp 24) rfl w.heap.size _ _ _ rfl HO2.out (by omega) HB2.out.size _ rfl rfl ?_; intro v3 w3 ho3 hg3 hn3; have HO3 := Lib.hid ho3; have HB3 := Lib.hid (HB2.out.grown hg3 HB2.out.size (fun b hb => (HO2.out.ownlt b hb).1)); have HST3 := Lib.hid (HST2.out.far hg3 HAP.out); have HAP3 := Lib.hid (hn3.apart HAP.out (fun b hb => (HST2.out.ownlt b hb).2)); clear ho3 hg3 hn3))
        go_roundw
        case rel => exact ⟨i + 1, _, hlt, by simp; omega, by go_num, by simpa using HO3.out, HST3.out, HAP3.out, HN.out, HB3.out⟩
        case measure => (simp [intOf] <;> omega)
    · have HFI := Lib.hid (filt_end (by omega) hr.out)
      clear hr
      go_wp2_with fail
      go_ret
      rw [← HFI.out]
      exact ⟨_, rfl, HO.out, HB.out⟩
set_option maxRecDepth 20000 in
set_option maxHeartbeats 3200000 in
theorem iOrbitWords_any (K : Int) (ao : Option Addr) (n cap : Nat) (F : List ByteArray) (m : Int) (w : World) (h : Strs w ao n F) (hF : ∀ f ∈ F, f.size ≤ 1048576) (hm : MaxM w) :
    Calls Tryz.prog 12 #[.agg #[.int .i64 K, .slice ao n cap], .int .i64 m] w fun e w' => ∃ v, e = .returned v ∧ OStrs w' w.heap.size v (orbWV K F m).length (orbWV K F m) ∧ Below w.heap.size w w' := by
  have HB := Lib.hid (below1 w (.cells #[.int .i64 K, .slice ao n cap] 32))
  have H := Lib.hid (h.keep HB.out)
  have HK := Lib.hid (Blk.new w 32 #[.int .i64 K, .slice ao n cap])
  have HM := Lib.hid (hm.keep HB.out)
  have k0 : (w.alloc (.cells #[.int .i64 K, .slice ao n cap] 32)).cell? ⟨w.heap.size, 0, none⟩ = some (.int .i64 K) := HK.out.cell 0
  have k1 : (w.alloc (.cells #[.int .i64 K, .slice ao n cap] 32)).cell? ⟨w.heap.size, 1, none⟩ = some (.slice ao n cap) := HK.out.cell 1
  clear h hm
  go_enter Tryz.func12, Tryz.ntmps12
  go_wp2_with fail
  generalize w.alloc (.cells #[.int .i64 K, .slice ao n cap] 32) = w1 at HB H HK HM k0 k1 ⊢
  refine (iIsShift_any K ao n cap F _ H.out hF).mono ?_
  rintro e w2 ⟨rfl, hb2⟩
  have HB2 := Lib.hid (step2 HB.out hb2)
  have H2 := Lib.hid (H.out.keep hb2)
  have HM2 := Lib.hid (HM.out.keep hb2)
  have HK2 := Lib.hid (HK.out.keep hb2)
  have k0 : w2.cell? ⟨w.heap.size, 0, none⟩ = some (.int .i64 K) := HK2.out.cell 0
  have k1 : w2.cell? ⟨w.heap.size, 1, none⟩ = some (.slice ao n cap) := HK2.out.cell 1
  clear hb2
  cases hs : isSh K F
  · have HR : Hid (orbWV K F m = []) := by show _ = _; simp [orbWV, hs]
    clear hs k0 k1
    go_wp2_with fail
    go_ret
    rw [HR.out]
    exact ⟨_, rfl, OStrs.none_ _ _, HB2.out⟩
  by_cases m1 : m < 1
  · have d1 : decide (m < 1) = true := decide_eq_true m1
    have HR : Hid (orbWV K F m = []) := by show _ = _; simp [orbWV, inR_no (x := m) (lo := 1) (hi := 6) (.inl m1)]
    clear hs k0 k1 m1
    go_wp2_with fail
    go_ret
    rw [HR.out]
    exact ⟨_, rfl, OStrs.none_ _ _, HB2.out⟩
  have d1 : decide (m < 1) = false := decide_eq_false m1
  by_cases m6 : 6 < m
  · have d2 : decide (6 < m) = true := decide_eq_true m6
    have HR : Hid (orbWV K F m = []) := by show _ = _; simp [orbWV, inR_no (x := m) (lo := 1) (hi := 6) (.inr m6)]
    clear hs k0 k1 m1 m6
    go_wp2_with fail
    go_ret
    rw [HR.out]
    exact ⟨_, rfl, OStrs.none_ _ _, HB2.out⟩
  have d2 : decide (6 < m) = false := decide_eq_false m6
  have hsg := isSh_get hs
  obtain ⟨K, rfl⟩ : ∃ k : Nat, K = k := ⟨K.toNat, by omega⟩
  obtain ⟨m, rfl⟩ : ∃ k : Nat, m = k := ⟨m.toNat, by omega⟩
  have HR : Hid (orbWV K F m = (allW K m).filter (orbP F)) := by show _ = _; simp [orbWV, hs, inR_mk (x := (m : Int)) (lo := 1) (hi := 6) ⟨by omega, by omega⟩]
  have hK1 : 1 ≤ K := by omega
  have hK3 : K ≤ 3 := by omega
  have hm1 : 1 ≤ m := by omega
  have hm6 : m ≤ 6 := by omega
  have HFF := Lib.hid hsg.2.2
  clear hs m1 m6 hsg
  go_wp2_with fail
  refine (filtOrb_any K ao n cap F _ m _ hK1 hK3 hm1 hm6 HFF.out HM2.out HK2.out H2.out).mono ?_
  rintro e w3 ⟨v3, rfl, ho3, hb3⟩
  have HO3 := Lib.hid (ho3.mono HB2.out.size)
  have HB3 := Lib.hid (step2 HB2.out hb3)
  clear ho3 hb3
  go_wp2_with fail
  go_ret
  rw [HR.out]
  exact ⟨_, rfl, HO3.out, HB3.out⟩
end Go.Proofs.YtbjoblgklcilpaaGreat
