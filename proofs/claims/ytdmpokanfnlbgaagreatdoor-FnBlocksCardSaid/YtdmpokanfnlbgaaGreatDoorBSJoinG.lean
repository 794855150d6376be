/- SJoinG: a part of the proofs of this seat. -/
import Derived.BigQuiet
import Derived.StillTailTactics
import Derived.Test.YtdmpokanfnlbgaaGreatDoorProg
import Derived.Test.YtdmpokanfnlbgaaGreatDoorBG1b
import Derived.Test.YtdmpokanfnlbgaaGreatDoorBG0b
import Derived.Test.YtdmpokanfnlbgaaGreatDoorBG0a
namespace Go.Proofs.YtdmpokanfnlbgaaGreatDoor
open Go.RowKit
set_option linter.all false
set_option maxRecDepth 20000 in
set_option maxHeartbeats 6400000 in
theorem sJoinG_any (p : Option Addr) (n c : Nat) (a : List (List Int)) (p' : Option Addr) (n' c' : Nat) (b : List (List Int)) (w : World) (h : Intss w p n a) (h' : Intss w p' n' b) :
    Calls Tryz.prog 11 #[.slice p n c, .slice p' n' c'] w fun e w' => ∃ v, e = .returned (.tuple #[v, .bool (joinOk a b)]) ∧ OIntss w' w.heap.size v (joinV a b).length (joinV a b) ∧ Below w.heap.size w w' := by
  have hl := h.1
  have hl' := h'.1
  subst hl hl'
  have HA := Lib.hid h
  have HB := Lib.hid h'
  clear h h'
  go_enter Tryz.func11, Tryz.ntmps11
  go_wp2_with fail
  refine (sIsMatrix_any _ _ _ a _ HA.out).mono ?_
  rintro e w' ⟨rfl, rfl⟩
  cases hma : isMat a
  · have hk : Hid (joinOk a b = false) := by show _ = _; simp [joinOk, hma]
    have hv : Hid (joinV a b = []) := by show _ = _; unfold joinV; rw [hk.out]; rfl
    clear hma
    go_wp2_with fail
    go_ret2
    rw [hk.out, hv.out]
    exact ⟨_, rfl, OIntss.empty _ _ (Nat.le_refl _), (Below.refl _ _).alloc (Nat.le_refl _) _⟩
  have HMA := Lib.hid hma
  clear hma
  go_wp2_with fail
  refine (sIsMatrix_any _ _ _ b _ HB.out).mono ?_
  rintro e w' ⟨rfl, rfl⟩
  cases hmb : isMat b
  · have hk : Hid (joinOk a b = false) := by show _ = _; simp [joinOk, hmb]
    have hv : Hid (joinV a b = []) := by show _ = _; unfold joinV; rw [hk.out]; rfl
    clear hmb
    go_wp2_with fail
    go_ret2
    rw [hk.out, hv.out]
    exact ⟨_, rfl, OIntss.empty _ _ (Nat.le_refl _), (Below.refl _ _).alloc (Nat.le_refl _) _⟩
  have HMB := Lib.hid hmb
  clear hmb
  have la := isMat_len HMA.out
  have lb := isMat_len HMB.out
  by_cases h9 : 9 < a.length + b.length
  · have hk : Hid (joinOk a b = false) := by show _ = _; unfold joinOk; rw [HMA.out, HMB.out, decide_eq_false (by omega)]; rfl
    have hv : Hid (joinV a b = []) := by show _ = _; unfold joinV; rw [hk.out]; rfl
    have hd : decide ((9 : Int) < (a.length : Int) + (b.length : Int)) = true := decide_eq_true (by omega)
    go_wp2_with fail
    go_ret2
    rw [hk.out, hv.out]
    exact ⟨_, rfl, OIntss.empty _ _ (Nat.le_refl _), (Below.refl _ _).alloc (Nat.le_refl _) _⟩
  have hd : decide ((9 : Int) < (a.length : Int) + (b.length : Int)) = false := decide_eq_false (by omega)
  have hk : Hid (joinOk a b = true) := by show _ = _; unfold joinOk; rw [HMA.out, HMB.out, decide_eq_true (by omega)]; rfl
  obtain ⟨N, hN⟩ : ∃ N, a.length + b.length = N := ⟨_, rfl⟩
  have hv : Hid (joinV a b = mkT N (joinF a b)) := by show _ = _; unfold joinV; rw [hk.out, hN]; rfl
  have hNI : (a.length : Int) + (b.length : Int) = (N : Int) := by omega
  have HNN := Lib.hid hN
  have hd2 : decide ((9 : Int) < (N : Int)) = false := decide_eq_false (by omega)
  clear h9
  go_wp2_with fail
  refine (sL4Zero_any N N _ (by omega) (by omega)).mono ?_
  rintro e w1 ⟨v, rfl, hown, hbl⟩
  obtain ⟨g, cap, rfl⟩ := hown.head (by omega)
  rw [j1_start (a := a)] at hown
  have Hown := Lib.hid hown
  have Hbl := Lib.hid hbl
  clear hown hbl hd hd2 hNI
  go_wp2_with fail
  go_loopw [7] (fun x wr => ∃ i : Nat, i ≤ a.length ∧ x = .int .i64 i ∧ OIntss wr w.heap.size (.slice (some ⟨g, 0, none⟩) N cap) N (mkT N (J1 a i 0)) ∧ Below w.heap.size w wr) (fun x _ => a.length - (intOf x).toNat)
  case atStart => exact ⟨0, Nat.zero_le _, rfl, Hown.out, Hbl.out⟩
  case round =>
    obtain ⟨i, hi, rfl, hown, hbl⟩ := hrel
    clear Hown Hbl
    by_cases hlt : i < a.length
    · have Hown := Lib.hid hown
      have Hbl := Lib.hid hbl
      clear hown hbl
      go_wp2_with fail
      go_loopw [8] (fun x wr => ∃ j : Nat, j ≤ a.length ∧ x = .int .i64 j ∧ OIntss wr w.heap.size (.slice (some ⟨g, 0, none⟩) N cap) N (mkT N (J1 a i j)) ∧ Below w.heap.size w wr) (fun x _ => a.length - (intOf x).toNat)
      case atStart => exact ⟨0, Nat.zero_le _, rfl, Hown.out, Hbl.out⟩
      case round =>
        clear Hown Hbl
        obtain ⟨j, hj, rfl, hown, hbl⟩ := hrel
        by_cases hjn : j < a.length
        · obtain ⟨b1, o1, a1, c1, r, rfl, q1, hrow, hget⟩ := (HA.out.keep hbl).at_ hlt
          have hrl : r.length = a.length := (isMat_row HMA.out hget.out).1
          obtain ⟨b2, o2, x, rfl, q2, hgx⟩ := hrow.at_ (k := j) (by omega)
          have hjr : j < r.length := by omega
          have hjN : j < N := by omega
          have hiN : i < N := by omega
          have hx : entA a i j = x := by rw [← ent_row hget.out]; exact getD_get hgx.out
          obtain ⟨gi, ci, h5, hlo, _, hcl, hst⟩ := hown.mkEnt hiN
          obtain ⟨u, h6⟩ := (hcl j hjN).1
          have h7 := (hcl j hjN).2
          have HS := Lib.hid (hst j x (J1 a i (j + 1)) hjN (by rw [← hx]; exact j1_step hjn))
          have Hb' := Lib.hid (hbl.setCell (p := ⟨gi, j, none⟩) hlo (.int .i64 x))
          clear hst hcl hown hbl hrow hget hgx hx
          go_wp2_with fail
          go_still_tail 13, (by kernel_rfl)
          change wpList _ _ _ _ _ wr.drew
          go_wp2_with fail
          go_roundw
          all_goals first
            | exact ⟨j + 1, hjn, by go_num, by first | exact HS.out | exact HS.out.drewN _, by first | exact Hb'.out | exact below_drewN Hb'.out _⟩
            | (simp [intOf]; omega)
        · have e : j = a.length := by omega
          subst e
          rw [j1_row] at hown
          have Hown := Lib.hid hown
          have Hbl := Lib.hid hbl
          clear hown hbl
          go_wp2_with fail
          go_roundw
          case rel => exact ⟨i + 1, hlt, by go_num, Hown.out, Hbl.out⟩
          case measure => (simp [intOf] <;> omega)
    · have e : i = a.length := by omega
      subst e
      rw [j1_end (b := b)] at hown
      have Hown := Lib.hid hown
      have Hbl := Lib.hid hbl
      clear hown hbl
      go_wp2_with fail
      go_loopw [9] (fun x wr => ∃ i : Nat, i ≤ b.length ∧ x = .int .i64 i ∧ OIntss wr w.heap.size (.slice (some ⟨g, 0, none⟩) N cap) N (mkT N (J2 a b i 0)) ∧ Below w.heap.size w wr) (fun x _ => b.length - (intOf x).toNat)
      case atStart => exact ⟨0, Nat.zero_le _, rfl, Hown.out, Hbl.out⟩
      case round =>
        obtain ⟨i, hi, rfl, hown, hbl⟩ := hrel
        clear Hown Hbl
        by_cases hlt : i < b.length
        · have Hown := Lib.hid hown
          have Hbl := Lib.hid hbl
          clear hown hbl
          go_wp2_with fail
          go_loopw [10] (fun x wr => ∃ j : Nat, j ≤ b.length ∧ x = .int .i64 j ∧ OIntss wr w.heap.size (.slice (some ⟨g, 0, none⟩) N cap) N (mkT N (J2 a b i j)) ∧ Below w.heap.size w wr) (fun x _ => b.length - (intOf x).toNat)
          case atStart => exact ⟨0, Nat.zero_le _, rfl, Hown.out, Hbl.out⟩
          case round =>
            clear Hown Hbl
            obtain ⟨j, hj, rfl, hown, hbl⟩ := hrel
            by_cases hjn : j < b.length
            · obtain ⟨b1, o1, a1, c1, r, rfl, q1, hrow, hget⟩ := (HB.out.keep hbl).at_ hlt
              have hrl : r.length = b.length := (isMat_row HMB.out hget.out).1
              obtain ⟨b2, o2, x, rfl, q2, hgx⟩ := hrow.at_ (k := j) (by omega)
              have hjr : j < r.length := by omega
              have hx : entA b i j = x := by rw [← ent_row hget.out]; exact getD_get hgx.out
              obtain ⟨I, hI⟩ : ∃ I : Nat, I = a.length + i := ⟨_, rfl⟩
              obtain ⟨J, hJ⟩ : ∃ J : Nat, J = a.length + j := ⟨_, rfl⟩
              have hIN : I < N := by omega
              have hJN : J < N := by omega
              have hIw : IntKind.i64.wrap ((a.length : Int) + (i : Int)) = (I : Int) := by rw [IntKind.wrap_i64]; omega
              have hJw : IntKind.i64.wrap ((a.length : Int) + (j : Int)) = (J : Int) := by rw [IntKind.wrap_i64]; omega
              obtain ⟨gi, ci, h5, hlo, _, hcl, hst⟩ := hown.mkEnt hIN
              obtain ⟨u, h6⟩ := (hcl J hJN).1
              have h7 := (hcl J hJN).2
              have HS := Lib.hid (hst J x (J2 a b i (j + 1)) hJN (by rw [← hx, hI, hJ]; exact j2_step))
              have Hb' := Lib.hid (hbl.setCell (p := ⟨gi, J, none⟩) hlo (.int .i64 x))
              clear hst hcl hown hbl hrow hget hgx hx hI hJ
              go_wp2_with fail
              go_still_tail 19, (by kernel_rfl)
              change wpList _ _ _ _ _ wr.drew
              go_wp2_with fail
              go_roundw
              all_goals first
                | exact ⟨j + 1, hjn, by go_num, by first | exact HS.out | exact HS.out.drewN _, by first | exact Hb'.out | exact below_drewN Hb'.out _⟩
                | (simp [intOf]; omega)
            · have e : j = b.length := by omega
              subst e
              rw [← HNN.out, j2_row, HNN.out] at hown
              have Hown := Lib.hid hown
              have Hbl := Lib.hid hbl
              clear hown hbl
              go_wp2_with fail
              go_roundw
              case rel => exact ⟨i + 1, hlt, by go_num, Hown.out, Hbl.out⟩
              case measure => (simp [intOf] <;> omega)
        · have e : i = b.length := by omega
          subst e
          rw [← HNN.out, j2_end, HNN.out] at hown
          have Hown := Lib.hid hown
          have Hbl := Lib.hid hbl
          clear hown hbl
          go_wp2_with fail
          go_ret2
          rw [hk.out, hv.out, mkT_len]
          exact ⟨_, rfl, Hown.out, Hbl.out⟩
end Go.Proofs.YtdmpokanfnlbgaaGreatDoor
