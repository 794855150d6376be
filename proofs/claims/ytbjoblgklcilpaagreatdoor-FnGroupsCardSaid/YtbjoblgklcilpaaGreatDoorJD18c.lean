/- D18c: a part of the proofs of this seat. -/
import Derived.BigQuiet
import Derived.Test.YtbjoblgklcilpaaGreatDoorProg
import Derived.Test.YtbjoblgklcilpaaGreatDoorJG2a
import Derived.Test.YtbjoblgklcilpaaGreatDoorJG1a
import Derived.Test.YtbjoblgklcilpaaGreatDoorJG0a
namespace Go.Proofs.YtbjoblgklcilpaaGreatDoor
open Go.RowKit
set_option linter.all false
/- A matrix that is split some times. -/
set_option maxRecDepth 20000 in
set_option maxHeartbeats 12800000 in
theorem sL18Split_any (b lo lo2 : Nat) (ao : Option Addr) (n c : Nat) (T0 : List (List Int)) (w : World) (h : Cur w b lo) (ho : OIntss w lo2 (.slice ao n c) n T0) (hb2 : b < lo2) (hw2 : lo2 ≤ w.heap.size) :
    Calls Tryz.prog 62 #[.pointer (some ⟨b, 0, none⟩), .slice ao n c] w fun e w' => ∃ (v : Value) (T : List (List Int)), e = .returned v ∧ OIntss w' lo2 v T.length T ∧ Cur w' b lo ∧ w.grownBy w' (some b) := by
  have hbl := h.lt.2
  have HO0 : Hid (OIntss w lo2 (.slice ao n c) T0.length T0) := by
    show OIntss _ _ _ _ _
    rw [ho.len]; exact ho
  have HC0 := Lib.hid h
  have hn0 : n = T0.length := ho.len.symm
  clear h ho
  go_enter Tryz.func62, Tryz.ntmps62
  go_wp2_with fail
  go_loopw [1, 5, 6, 7, 8, 9, 10] (fun v1 v5 v6 v7 v8 v9 v10 wr => ∃ (k : Nat) (T : List (List Int)), k ≤ 2 ∧ v5 = .int .i64 k ∧ OIntss wr lo2 v1 T.length T ∧ Cur wr b lo ∧ w.grownBy wr (some b)) (fun _ v5 _ _ _ _ _ _ => 2 - (intOf v5).toNat)
  case atStart => exact ⟨0, T0, by omega, rfl, HO0.out, HC0.out, World.grownBy.refl _ _⟩
  case round =>
    obtain ⟨k, T, hk, rfl, hown, hcu, hgr⟩ := hrel
    obtain ⟨am, cm, rfl, _⟩ := hown.form
    have hs0 := hgr.size
    have HO := Lib.hid hown
    have HC := Lib.hid hcu
    have HG := Lib.hid hgr
    clear hown hcu hgr HO0 HC0
    by_cases hk2 : k < 2
    · have hd1 : decide ((k : Int) < 2) = true := decide_eq_true (by omega)
      by_cases h4 : 4 < T.length
      · have hd : decide ((4 : Int) < (T.length : Int)) = true := decide_eq_true (by omega)
        go_wp2_with fail
        go_ret
        exact ⟨_, T, rfl, HO.out, HC.out, HG.out⟩
      have hd : decide ((4 : Int) < (T.length : Int)) = false := decide_eq_false (by omega)
      go_wp2_with fail
      refine (sIsMatrix_any _ _ _ T _ HO.out.readI).mono ?_
      rintro e w' ⟨rfl, rfl⟩
      cases hm : isMat T
      · clear hm
        go_wp2_with fail
        go_ret
        exact ⟨_, T, rfl, HO.out, HC.out, HG.out⟩
      have hT1 := (isMat_len hm).1
      have HRL : Hid (∀ (i : Nat) (r : List Int), T[i]? = some r → r.length = T.length) := fun i r hr => (isMat_row hm hr).1
      clear hm
      obtain ⟨g, cap', e⟩ := HO.out.head (by omega)
      injection e with e1 e2 e3
      subst e1
      clear e2 e3 cap'
      go_wp2_with fail
      refine (l1Below_any _ _ T.length _ HC.out hT1 (by omega)).mono ?_
      rintro e w1 ⟨i, hi, rfl, hc1, hg1⟩
      have hb1 := hc1.lt.2
      have HO1 := Lib.hid (HO.out.away hg1 hb2)
      have HC1 := Lib.hid hc1
      have HG1 := Lib.hid (HG.out.trans hg1)
      have hs1 : w.heap.size ≤ w1.heap.size := Nat.le_trans hs0 hg1.size
      have HE := Lib.hid (OInts.empty w1 w1.heap.size (Nat.le_refl _))
      have HBE : Below w1.heap.size w1 (w1.alloc (.cells #[] 3)) := (Below.refl _ _).alloc (Nat.le_refl _) _
      have HCE := Lib.hid (HC1.out.keep HBE)
      have HSE := Lib.hid ((Since.refl lo2 w1.heap.size w1).below HBE (Nat.le_refl _))
      have HGE : Hid (w.grownBy (w1.alloc (.cells #[] 3)) (some b)) := HG1.out.trans (grown_of_below HBE)
      clear hc1 hg1 HBE
      go_wp2_with fail
      go_loopw [7, 8] (fun v7 v8 wq => ∃ (j : Nat) (pt : List Int), j ≤ T.length ∧ v8 = .int .i64 j ∧ OInts wq w1.heap.size v7 j pt ∧ Since lo2 w1.heap.size w1 wq ∧ Cur wq b lo ∧ w.grownBy wq (some b)) (fun _ v8 _ => T.length - (intOf v8).toNat)
      case atStart => exact ⟨0, [], Nat.zero_le _, rfl, HE.out, HSE.out, HCE.out, HGE.out⟩
      case round =>
        obtain ⟨j, pt, hj, rfl, hown, hot, hcu, hgr⟩ := hrel
        obtain ⟨ao6, cap6, rfl, _⟩ := hown.form
        have Hown := Lib.hid hown
        have HSN := Lib.hid hot
        have HSW : Hid (w1.heap.size ≤ wr.heap.size) := hot.size
        have Hot := Lib.hid (HO1.out.since hot)
        have Hcu := Lib.hid hcu
        have Hgr := Lib.hid hgr
        clear hown hot hcu hgr HE HCE HSE HGE
        by_cases hlt : j < T.length
        · obtain ⟨bj, oj, aj, cj, rj, ej, qj, hrowj, hgetj⟩ := Hot.out.readI.at_ hi
          injection ej with ej
          injection ej with ej1 ej2
          subst ej1
          subst ej2
          simp only [Nat.zero_add] at qj
          have hrj := HRL.out i rj hgetj.out
          obtain ⟨by_, oy, y, ey, qy, hgy⟩ := hrowj.at_ (k := j) (by omega)
          subst ey
          have hjr : j < rj.length := by omega
          clear hgy hgetj
          go_wp2_with fail
          refine (l1Min_any 9 y _).mono ?_
          rintro e w' ⟨rfl, rfl⟩
          go_wp2_with fail
          refine (sMax_any 0 (mn 9 y) _).mono ?_
          rintro e w' ⟨rfl, rfl⟩
          obtain ⟨z, hz, hz9⟩ := mx9 y
          rw [hz]
          obtain ⟨N, hN⟩ : ∃ N : Nat, 1 + (z : Int) = N := ⟨z + 1, by omega⟩
          have hN1 : 1 ≤ N := by omega
          have hN10 : N ≤ 10 := by omega
          clear hz
          go_wp2_with fail
          refine (l1Below_any _ _ N _ Hcu.out hN1 (by omega)).mono ?_
          rintro e w5 ⟨d, hd, rfl, hc5, hg5⟩
          have HO5 := Lib.hid (Hown.out.away hg5 (by omega))
          have HSN5 := Lib.hid (HSN.out.grow hg5 (fun g e => by injection e with e; omega) HSW.out)
          have Hc5 := Lib.hid hc5
          have Hg5 := Lib.hid (Hgr.out.trans hg5)
          have hs54 : w1.heap.size ≤ w5.heap.size := Nat.le_trans HSW.out hg5.size
          clear hc5 hg5 hN
          go_wp2_with (at_builtin; refine wpList_push_at w5 _ rfl (.tmp 35) (.tmp 48) rfl w1.heap.size _ j pt rfl HO5.out (by omega) hs54 _ rfl rfl ?_; intro v7 w7 ho7 hg7 hn7; have HO7 := Lib.hid ho7; have HSN7 := Lib.hid (HSN5.out.grow hg7 (fun g e => .inr (HO5.out.ownlt g e).1) hs54); have Hc7 := Lib.hid (Hc5.out.grown hg7 (fun g e => by have := (HO5.out.ownlt g e).1; omega)); have Hg7 := Lib.hid (grown_farV Hg5.out hg7 (fun g e => Nat.le_trans hs1 (HO5.out.ownlt g e).1)); clear ho7 hg7 hn7)
          go_roundw
          case rel => exact ⟨j + 1, _, hlt, by go_num, HO7.out, HSN7.out, Hc7.out, Hg7.out⟩
          case measure => (simp [intOf] <;> omega)
        · have hjn : j = T.length := by omega
          have HJ := Lib.hid hjn
          have hdj : decide ((j : Int) < (T.length : Int)) = false := decide_eq_false (by omega)
          have hdj2 : decide (j < T.length) = false := decide_eq_false hlt
          clear hjn
          go_wp2_with fail
          refine (sSplitOut_any _ _ _ T i _ _ _ pt _ Hot.out.readI Hown.out.read).mono ?_
          rintro e w2 ⟨v2, rfl, ho2, hb2'⟩
          have HB2 := Lib.hid hb2'
          have HO2 := Lib.hid (ho2.mono (Nat.le_trans (Nat.le_trans hw2 hs1) HSW.out))
          have HT2 := Lib.hid (Hot.out.keep hb2')
          have HC2 := Lib.hid (Hcu.out.keep hb2')
          have HG2 := Lib.hid (Hgr.out.trans (grown_of_below hb2'))
          clear ho2 hb2'
          cases hs : splOk T i pt
          · clear hs
            go_wp2_with fail
            go_roundw
            case rel => exact ⟨k + 1, T, by omega, by go_num, HT2.out, HC2.out, HG2.out⟩
            case measure => (simp [intOf] <;> omega)
          · clear hs
            go_wp2_with fail
            refine (l1Once_any _ _ 2 _ HC2.out (by omega) (by omega)).mono ?_
            rintro e w3 ⟨t, rfl, hc3, hg3⟩
            have HT3 := Lib.hid (HT2.out.away hg3 hb2)
            have HO3 := Lib.hid (HO2.out.away hg3 hb2)
            have HC3 := Lib.hid hc3
            have HG3 := Lib.hid (HG2.out.trans hg3)
            clear hc3 hg3
            cases t
            · go_wp2_with fail
              go_roundw
              case rel => exact ⟨k + 1, T, by omega, by go_num, HT3.out, HC3.out, HG3.out⟩
              case measure => (simp [intOf] <;> omega)
            · go_wp2_with fail
              go_roundw
              case rel => exact ⟨k + 1, _, by omega, by go_num, HO3.out, HC3.out, HG3.out⟩
              case measure => (simp [intOf] <;> omega)
    · have hd1 : decide ((k : Int) < 2) = false := decide_eq_false (by omega)
      go_wp2_with fail
      go_ret
      exact ⟨_, T, rfl, HO.out, HC.out, HG.out⟩
end Go.Proofs.YtbjoblgklcilpaaGreatDoor
