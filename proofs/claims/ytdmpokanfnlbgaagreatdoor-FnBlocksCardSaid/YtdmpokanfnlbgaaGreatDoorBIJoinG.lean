/- IJoinG: a part of the proofs of this seat. -/
import Derived.BigQuiet
import Derived.Test.YtdmpokanfnlbgaaGreatDoorProg
import Derived.Test.YtdmpokanfnlbgaaGreatDoorBG1b
import Derived.Test.YtdmpokanfnlbgaaGreatDoorBG0b
import Derived.Test.YtdmpokanfnlbgaaGreatDoorBG0a
namespace Go.Proofs.YtdmpokanfnlbgaaGreatDoor
open Go.RowKit
set_option linter.all false
theorem slice_fromJ (g len cap j : Nat) (hj : j ≤ len) (hc : j ≠ cap) (w : World) :
    (Instr.slice 49 (.slice (some ⟨g, 0, none⟩) len cap) (some (.int .i64 (j : Int))) none none).run Tryz.prog w = .ok (.slice (some ⟨g, j, none⟩) (len - j) (cap - j)) w := by
  rw [run_slice_l (P := Tryz.prog) w 49 (some ⟨g, 0, none⟩) len cap (by rw [elem_ints]; exact Tryz.underlying49) .i64 (j : Int) (by omega) (by omega), elem_ints, sizeOf_int]
  have e2 : ¬ cap = j := fun e => hc e.symm
  by_cases e : j = 0
  · subst e
    simp [sliced, Result.andThen, Addr.add]
  · simp [sliced, Result.andThen, Addr.add, e, e2]
set_option maxRecDepth 20000 in
set_option maxHeartbeats 6400000 in
theorem iJoinG_any (p : Option Addr) (n c : Nat) (a : List (List Int)) (p' : Option Addr) (n' c' : Nat) (b : List (List Int)) (w : World) (h : Intss w p n a) (h' : Intss w p' n' b) :
    Calls Tryz.prog 10 #[.slice p n c, .slice p' n' c'] w fun e w' => ∃ v, e = .returned (.tuple #[v, .bool (joinOk a b)]) ∧ OIntss w' w.heap.size v (joinV a b).length (joinV a b) ∧ Below w.heap.size w w' := by
  have hl := h.1
  have hl' := h'.1
  subst hl hl'
  have HA := Lib.hid h
  have HB := Lib.hid h'
  clear h h'
  go_enter Tryz.func10, Tryz.ntmps10
  go_wp2_with fail
  refine (iIsMatrix_any _ _ _ a _ HA.out).mono ?_
  rintro e w' ⟨rfl, rfl⟩
  cases hma : isMat a
  · have hk : Hid (joinOk a b = false) := by show _ = _; simp [joinOk, hma]
    have hv : Hid (joinV a b = []) := by show _ = _; unfold joinV; rw [hk.out]; rfl
    clear hma
    go_wp2_with fail
    go_ret2
    rw [hk.out, hv.out]
    exact ⟨_, rfl, OIntss.none_ _ _, Below.refl _ _⟩
  have HMA := Lib.hid hma
  clear hma
  go_wp2_with fail
  refine (iIsMatrix_any _ _ _ b _ HB.out).mono ?_
  rintro e w' ⟨rfl, rfl⟩
  cases hmb : isMat b
  · have hk : Hid (joinOk a b = false) := by show _ = _; simp [joinOk, hmb]
    have hv : Hid (joinV a b = []) := by show _ = _; unfold joinV; rw [hk.out]; rfl
    clear hmb
    go_wp2_with fail
    go_ret2
    rw [hk.out, hv.out]
    exact ⟨_, rfl, OIntss.none_ _ _, Below.refl _ _⟩
  have HMB := Lib.hid hmb
  clear hmb
  have la := isMat_len HMA.out
  have lb := isMat_len HMB.out
  have HOK : Hid (joinOk a b = isMat (mkT (a.length + b.length) (joinF a b))) := by show _ = _; rw [join_mat HMA.out HMB.out]; unfold joinOk; rw [HMA.out, HMB.out]; rfl
  obtain ⟨N, hN⟩ : ∃ N, a.length + b.length = N := ⟨_, rfl⟩
  have hNI : (a.length : Int) + (b.length : Int) = (N : Int) := by omega
  have HNN := Lib.hid hN
  go_wp2_with fail
  refine (iZeros_any N _ (by omega)).mono ?_
  rintro e w1 ⟨v, rfl, hown, hbl⟩
  obtain ⟨g, cap, rfl⟩ := hown.head (by omega)
  rw [j1_start (a := a)] at hown
  have Hown := Lib.hid hown
  have Hbl := Lib.hid hbl
  clear hown hbl hNI
  go_wp2_with fail
  go_loopw [27] (fun x wr => ∃ i : Nat, i ≤ a.length ∧ x = .int .i64 i ∧ OIntss wr w.heap.size (.slice (some ⟨g, 0, none⟩) N cap) N (mkT N (J1 a i 0)) ∧ Below w.heap.size w wr) (fun x _ => a.length - (intOf x).toNat)
  case atStart => exact ⟨0, Nat.zero_le _, rfl, Hown.out, Hbl.out⟩
  case round =>
    obtain ⟨i, hi, rfl, hown, hbl⟩ := hrel
    clear Hown Hbl
    by_cases hlt : i < a.length
    · obtain ⟨b1, o1, a1, c1, r, rfl, q1, hrow, hget⟩ := (HA.out.keep hbl).at_ hlt
      have hrl : r.length = a.length := (isMat_row HMA.out hget.out).1
      obtain ⟨b2, o2, x, rfl, _, _⟩ := hrow.at_ (k := 0) (by omega)
      rw [hrl] at hrow q1
      have hiN : i < N := by omega
      obtain ⟨gi, ci, h5, hlo, _, hcl, hst⟩ := hown.mkEnt hiN
      have HC := Lib.hid (c1_row (N := N) hget.out hrl)
      have HO := Lib.hid hown
      have HBl := Lib.hid hbl
      have HR := Lib.hid hrow
      clear hst hcl hown hbl hrow hget
      go_wp2_with (refine wpList_copyT wr rfl (.tmp 35) (.tmp 36) rfl w.heap.size g N cap i gi ci (J1 a i 0) HO.out hiN h5 0 _ _ rfl _ _ _ rfl r HR.out (by omega) (by omega) ?_; intro w2 ho2 hb2; rw [HC.out] at ho2; have HO2 := Lib.hid ho2; have HB2 := Lib.hid (HBl.out.trans hb2); clear ho2 hb2)
      go_roundw
      case rel => exact ⟨i + 1, hlt, by go_num, HO2.out, HB2.out⟩
      case measure => (simp [intOf] <;> omega)
    · have e : i = a.length := by omega
      subst e
      rw [j1_end (b := b)] at hown
      have Hown := Lib.hid hown
      have Hbl := Lib.hid hbl
      clear hown hbl
      go_wp2_with fail
      go_loopw [41] (fun x wr => ∃ i : Nat, i ≤ b.length ∧ x = .int .i64 i ∧ OIntss wr w.heap.size (.slice (some ⟨g, 0, none⟩) N cap) N (mkT N (J2 a b i 0)) ∧ Below w.heap.size w wr) (fun x _ => b.length - (intOf x).toNat)
      case atStart => exact ⟨0, Nat.zero_le _, rfl, Hown.out, Hbl.out⟩
      case round =>
        obtain ⟨i, hi, rfl, hown, hbl⟩ := hrel
        clear Hown Hbl
        by_cases hlt : i < b.length
        · obtain ⟨b1, o1, a1, c1, r, rfl, q1, hrow, hget⟩ := (HB.out.keep hbl).at_ hlt
          have hrl : r.length = b.length := (isMat_row HMB.out hget.out).1
          obtain ⟨b2, o2, x, rfl, _, _⟩ := hrow.at_ (k := 0) (by omega)
          rw [hrl] at hrow q1
          obtain ⟨I, hI⟩ : ∃ I : Nat, a.length + i = I := ⟨_, rfl⟩
          have hIN : I < N := by omega
          have hII : (a.length : Int) + (i : Int) = (I : Int) := by omega
          obtain ⟨gi, ci, h5, hlo, hgc, hcl, hst⟩ := hown.mkEnt hIN
          have hsl := slice_fromJ gi N ci a.length (by omega) (by have := hgc.2; omega) wr
          have hc2 := c2_row (a := a) hget.out hrl
          rw [HNN.out, hI] at hc2
          have HC := Lib.hid hc2
          have HO := Lib.hid hown
          have HBl := Lib.hid hbl
          have HR := Lib.hid hrow
          have hNb : a.length + b.length = N := HNN.out
          clear hst hcl hown hbl hrow hget hc2 hI
          go_wp2_with (refine wpList_copyT wr rfl (.tmp 55) (.tmp 56) rfl w.heap.size g N cap I gi ci (J2 a b i 0) HO.out hIN h5 a.length _ _ rfl _ _ _ rfl r HR.out (by omega) (by omega) ?_; intro w2 ho2 hb2; rw [HC.out] at ho2; have HO2 := Lib.hid ho2; have HB2 := Lib.hid (HBl.out.trans hb2); clear ho2 hb2)
          go_roundw
          case rel => exact ⟨i + 1, hlt, by go_num, HO2.out, HB2.out⟩
          case measure => (simp [intOf] <;> omega)
        · have e : i = b.length := by omega
          subst e
          rw [← HNN.out, j2_end, HNN.out] at hown
          have Hown := Lib.hid hown
          have Hbl := Lib.hid hbl
          clear hown hbl
          obtain ⟨ok, hok⟩ : ∃ t, isMat (mkT N (joinF a b)) = t := ⟨_, rfl⟩
          have hc := iChecked_any (some ⟨g, 0, none⟩) N cap (mkT N (joinF a b)) w.heap.size wr Hown.out
          have hj := HOK.out
          rw [HNN.out, hok] at hj
          rw [hok] at hc
          have HCK := Lib.hid hc
          have HJ := Lib.hid hj
          clear hok hc hj
          go_wp2_with fail
          refine HCK.out.mono ?_
          rintro e w3 ⟨v3, rfl, ho3, rfl⟩
          obtain ⟨a3, c3, rfl, _⟩ := ho3.form
          have HO3 := Lib.hid ho3
          clear ho3
          cases ok
          · have hv : Hid (joinV a b = []) := by show _ = _; unfold joinV; rw [HJ.out]; rfl
            have HO4 : Hid (OIntss wr w.heap.size (.slice a3 0 c3) 0 []) := HO3.out
            go_wp2_with fail
            go_ret2
            rw [hv.out, HJ.out]
            exact ⟨_, rfl, HO4.out, Hbl.out⟩
          · have hv : Hid (joinV a b = mkT N (joinF a b)) := by show _ = _; unfold joinV; rw [HJ.out, HNN.out]; rfl
            have HO4 : Hid (OIntss wr w.heap.size (.slice a3 (mkT N (joinF a b)).length c3) (mkT N (joinF a b)).length (mkT N (joinF a b))) := HO3.out
            go_wp2_with fail
            go_ret2
            rw [hv.out, HJ.out]
            exact ⟨_, rfl, HO4.out, Hbl.out⟩
end Go.Proofs.YtdmpokanfnlbgaaGreatDoor
