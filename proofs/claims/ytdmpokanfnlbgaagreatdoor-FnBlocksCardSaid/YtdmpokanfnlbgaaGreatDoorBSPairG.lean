/- SPairG: a part of the proofs of this seat. -/
import Derived.BigQuiet
import Derived.StillTailTactics
import Derived.Test.YtdmpokanfnlbgaaGreatDoorProg
import Derived.Test.YtdmpokanfnlbgaaGreatDoorBG1b
import Derived.Test.YtdmpokanfnlbgaaGreatDoorBG0b
import Derived.Test.YtdmpokanfnlbgaaGreatDoorBG0a
namespace Go.Proofs.YtdmpokanfnlbgaaGreatDoor
open Go.RowKit
set_option linter.all false
theorem mixP_start (N : Nat) (g : Nat → Nat → Int) : List.replicate N (List.replicate N (0 : Int)) = mkT N (mixT g 0 0) := mix_start N g
set_option maxRecDepth 20000 in
set_option maxHeartbeats 12800000 in
theorem sPairG_any (p : Option Addr) (n c : Nat) (a : List (List Int)) (p' : Option Addr) (n' c' : Nat) (b : List (List Int)) (w : World) (h : Intss w p n a) (h' : Intss w p' n' b) :
    Calls Tryz.prog 14 #[.slice p n c, .slice p' n' c'] w fun e w' => ∃ v, e = .returned (.tuple #[v, .bool (pairOk a b)]) ∧ OIntss w' w.heap.size v (pairV a b).length (pairV a b) ∧ Below w.heap.size w w' := by
  have hl := h.1
  have hl' := h'.1
  subst hl hl'
  have HA := Lib.hid h
  have HB := Lib.hid h'
  clear h h'
  go_enter Tryz.func14, Tryz.ntmps14
  go_wp2_with fail
  refine (sIsMatrix_any _ _ _ a _ HA.out).mono ?_
  rintro e w' ⟨rfl, rfl⟩
  cases hma : isMat a
  · have hk : Hid (pairOk a b = false) := by show _ = _; simp [pairOk, hma]
    have hv : Hid (pairV a b = []) := by show _ = _; unfold pairV; rw [hk.out]; rfl
    clear hma
    go_wp2_with fail
    go_ret2
    rw [hk.out, hv.out]
    exact ⟨_, rfl, OIntss.empty _ _ (Nat.le_refl _), (Below.refl _ _).alloc (Nat.le_refl _) _⟩
  have HMA := Lib.hid hma
  clear hma
  go_wp2_with fail
  refine (sIsMatrix_any _ _ _ b _ HB.out).mono ?_
  rintro e w' ⟨rfl, rfl⟩
  cases hmb : isMat b
  · have hk : Hid (pairOk a b = false) := by show _ = _; simp [pairOk, hmb]
    have hv : Hid (pairV a b = []) := by show _ = _; unfold pairV; rw [hk.out]; rfl
    clear hmb
    go_wp2_with fail
    go_ret2
    rw [hk.out, hv.out]
    exact ⟨_, rfl, OIntss.empty _ _ (Nat.le_refl _), (Below.refl _ _).alloc (Nat.le_refl _) _⟩
  have HMB := Lib.hid hmb
  clear hmb
  have la := isMat_len HMA.out
  have lb := isMat_len HMB.out
  have hb0 : 0 < b.length := by omega
  obtain ⟨N, hN⟩ : ∃ N, a.length * b.length = N := ⟨_, rfl⟩
  have hNI : (a.length : Int) * (b.length : Int) = (N : Int) := by rw [← hN]; simp
  have hN81 : N ≤ 81 := by rw [← hN]; exact Nat.mul_le_mul (show a.length ≤ 9 by omega) (show b.length ≤ 9 by omega)
  have hN1 : 1 ≤ N := by rw [← hN]; exact Nat.mul_pos (by omega) (by omega)
  have HNN := Lib.hid hN
  clear hN
  by_cases h9 : 9 < N
  · have hk : Hid (pairOk a b = false) := pair_no9 (by rw [HNN.out]; exact h9)
    have hv : Hid (pairV a b = []) := by show _ = _; unfold pairV; rw [hk.out]; rfl
    have hd : decide ((9 : Int) < (N : Int)) = true := decide_eq_true (by omega)
    go_wp2_with fail
    go_ret2
    rw [hk.out, hv.out]
    exact ⟨_, rfl, OIntss.empty _ _ (Nat.le_refl _), (Below.refl _ _).alloc (Nat.le_refl _) _⟩
  have hd : decide ((9 : Int) < (N : Int)) = false := decide_eq_false (by omega)
  have HOK : Hid (pairOk a b = isMat (mkT (a.length * b.length) (pairF a b))) := by show _ = _; unfold pairOk; rw [HMA.out, HMB.out]; rfl
  clear h9
  go_wp2_with fail
  refine (sL4Zero_any N N _ (by omega) (by omega)).mono ?_
  rintro e w1 ⟨v, rfl, hown, hbl⟩
  obtain ⟨g, cap, rfl⟩ := hown.head (by omega)
  rw [mix_start _ (pairF a b)] at hown
  have Hown := Lib.hid hown
  have Hbl := Lib.hid hbl
  clear hown hbl hNI hd
  go_wp2_with fail
  go_loopw [8] (fun x wr => ∃ i : Nat, i ≤ N ∧ x = .int .i64 i ∧ OIntss wr w.heap.size (.slice (some ⟨g, 0, none⟩) N cap) N (mkT N (mixT (pairF a b) i 0)) ∧ Below w.heap.size w wr) (fun x _ => N - (intOf x).toNat)
  case atStart => exact ⟨0, Nat.zero_le _, rfl, Hown.out, Hbl.out⟩
  case round =>
    obtain ⟨i, hi, rfl, hown, hbl⟩ := hrel
    clear Hown Hbl
    by_cases hlt : i < N
    · have Hown := Lib.hid hown
      have Hbl := Lib.hid hbl
      clear hown hbl
      go_wp2_with fail
      go_loopw [9] (fun x wr => ∃ j : Nat, j ≤ N ∧ x = .int .i64 j ∧ OIntss wr w.heap.size (.slice (some ⟨g, 0, none⟩) N cap) N (mkT N (mixT (pairF a b) i j)) ∧ Below w.heap.size w wr) (fun x _ => N - (intOf x).toNat)
      case atStart => exact ⟨0, Nat.zero_le _, rfl, Hown.out, Hbl.out⟩
      case round =>
        clear Hown Hbl
        obtain ⟨j, hj, rfl, hown, hbl⟩ := hrel
        by_cases hjn : j < N
        · obtain ⟨qi, hqi⟩ : ∃ q : Nat, i / b.length = q := ⟨_, rfl⟩
          obtain ⟨qj, hqj⟩ : ∃ q : Nat, j / b.length = q := ⟨_, rfl⟩
          obtain ⟨ri, hri⟩ : ∃ q : Nat, i % b.length = q := ⟨_, rfl⟩
          obtain ⟨rj, hrj⟩ : ∃ q : Nat, j % b.length = q := ⟨_, rfl⟩
          have l1 : qi < a.length := by rw [← hqi]; exact (Nat.div_lt_iff_lt_mul hb0).2 (by rw [HNN.out]; exact hlt)
          have l2 : qj < a.length := by rw [← hqj]; exact (Nat.div_lt_iff_lt_mul hb0).2 (by rw [HNN.out]; exact hjn)
          have l3 : ri < b.length := by rw [← hri]; exact Nat.mod_lt _ hb0
          have l4 : rj < b.length := by rw [← hrj]; exact Nat.mod_lt _ hb0
          have d1 : (i : Int) / (b.length : Int) = (qi : Int) := by rw [← hqi]; exact (Int.natCast_ediv i b.length).symm
          have d2 : (j : Int) / (b.length : Int) = (qj : Int) := by rw [← hqj]; exact (Int.natCast_ediv j b.length).symm
          have d3 : (i : Int) % (b.length : Int) = (ri : Int) := by rw [← hri]; exact (Int.natCast_emod i b.length).symm
          have d4 : (j : Int) % (b.length : Int) = (rj : Int) := by rw [← hrj]; exact (Int.natCast_emod j b.length).symm
          have e1 : IntKind.i64.wrap (qi : Int) = (qi : Int) := by rw [IntKind.wrap_i64]; omega
          have e2 : IntKind.i64.wrap (qj : Int) = (qj : Int) := by rw [IntKind.wrap_i64]; omega
          have t3 : (i : Int).tmod (b.length : Int) = (ri : Int) := by rw [Int.tmod_eq_emod_of_nonneg (by omega), d3]
          have t4 : (j : Int).tmod (b.length : Int) = (rj : Int) := by rw [Int.tmod_eq_emod_of_nonneg (by omega), d4]
          have hbn : ¬ b = [] := by intro e; rw [e] at hb0; simp at hb0
          have z0 : ((b.length : Int) == 0) = false := beq_eq_false_iff_ne.2 (by omega)
          have z1 : ¬ (b.length : Int) = 0 := by omega
          obtain ⟨b1, o1, a1, c1, r, rfl, q1, hrow, hget⟩ := (HA.out.keep hbl).at_ l1
          have hrl : r.length = a.length := (isMat_row HMA.out hget.out).1
          obtain ⟨b2, o2, x, rfl, q2, hgx⟩ := hrow.at_ (k := qj) (by omega)
          have hx : entA a qi qj = x := by unfold entA; rw [getD_get hget.out]; exact getD_get hgx.out
          obtain ⟨b3, o3, a3, c3, s, rfl, q3, hrow3, hget3⟩ := (HB.out.keep hbl).at_ l3
          have hsl : s.length = b.length := (isMat_row HMB.out hget3.out).1
          obtain ⟨b4, o4, y, rfl, q4, hgy⟩ := hrow3.at_ (k := rj) (by omega)
          have hy : entA b ri rj = y := by unfold entA; rw [getD_get hget3.out]; exact getD_get hgy.out
          have hjr : qj < r.length := by omega
          have hjs : rj < s.length := by omega
          have hw : IntKind.i64.wrap (x * y) = x * y := by rw [wrap_i64_eq]; exact prod_wrap (by rw [← hx]; exact ent_low HMA.out l1 l2) (by rw [← hy]; exact ent_low HMB.out l3 l4)
          have hw2 : wrap64 (x * y) = x * y := prod_wrap (by rw [← hx]; exact ent_low HMA.out l1 l2) (by rw [← hy]; exact ent_low HMB.out l3 l4)
          obtain ⟨gi, ci, h5, hlo, _, hcl, hst⟩ := hown.mkEnt hlt
          obtain ⟨u, h6⟩ := (hcl j hjn).1
          have h7 := (hcl j hjn).2
          have hpv : pairF a b i j = x * y := by unfold pairF; rw [hqi, hqj, hri, hrj, hx, hy]
          have HS := Lib.hid (hst j (x * y) (mixT (pairF a b) i (j + 1)) hjn (by rw [← hpv]; exact mix_step))
          have Hb' := Lib.hid (hbl.setCell (p := ⟨gi, j, none⟩) hlo (.int .i64 (x * y)))
          clear hst hcl hown hbl hrow hget hgx hx hrow3 hget3 hgy hy hqi hqj hri hrj hpv
          go_wp2_with fail
          go_still_tail 29, (by kernel_rfl)
          change wpList _ _ _ _ _ wr.drew
          go_wp2_with fail
          go_roundw
          all_goals first
            | exact ⟨j + 1, hjn, by go_num, by first | exact HS.out | exact HS.out.drewN _, by first | exact Hb'.out | exact below_drewN Hb'.out _⟩
            | (simp [intOf]; omega)
        · have e : j = N := by omega
          subst e
          rw [mix_row] at hown
          have Hown := Lib.hid hown
          have Hbl := Lib.hid hbl
          clear hown hbl
          go_wp2_with fail
          go_roundw
          case rel => exact ⟨i + 1, hlt, by go_num, Hown.out, Hbl.out⟩
          case measure => (simp [intOf] <;> omega)
    · have e : i = N := by omega
      subst e
      rw [mix_fin] at hown
      have Hown := Lib.hid hown
      have Hbl := Lib.hid hbl
      clear hown hbl
      obtain ⟨ok, hok⟩ : ∃ t, isMat (mkT i (pairF a b)) = t := ⟨_, rfl⟩
      have hj := HOK.out
      rw [HNN.out, hok] at hj
      have hc := sIsMatrix_any (some ⟨g, 0, none⟩) i cap (mkT i (pairF a b)) wr Hown.out.intss
      rw [hok] at hc
      have HCK := Lib.hid hc
      have HJ := Lib.hid hj
      clear hok hc hj
      go_wp2_with fail
      refine HCK.out.mono ?_
      rintro e w' ⟨rfl, rfl⟩
      cases ok
      · have hv : Hid (pairV a b = []) := by show _ = _; unfold pairV; rw [HJ.out]; rfl
        go_wp2_with fail
        go_ret2
        rw [hv.out, HJ.out]
        exact ⟨_, rfl, OIntss.empty _ _ Hbl.out.size, Hbl.out.alloc Hbl.out.size _⟩
      · have hv : Hid (pairV a b = mkT i (pairF a b)) := by show _ = _; unfold pairV; rw [HJ.out, HNN.out]; rfl
        go_wp2_with fail
        go_ret2
        rw [hv.out, HJ.out, mkT_len]
        exact ⟨_, rfl, Hown.out, Hbl.out⟩
end Go.Proofs.YtdmpokanfnlbgaaGreatDoor
