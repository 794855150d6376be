/- SBelow: a part of the proofs of this seat. -/
import Derived.StillTailTactics
import Derived.Test.YtonfdiaefkghbaaGreatDoorProg
import Derived.Test.YtonfdiaefkghbaaGreatDoorEG0b
import Derived.Test.YtonfdiaefkghbaaGreatDoorESPart
import Derived.Test.YtonfdiaefkghbaaGreatDoorEG0d
import Derived.Test.YtonfdiaefkghbaaGreatDoorEG0a
namespace Go.Proofs.YtonfdiaefkghbaaGreatDoor
open Go.RowKit
set_option linter.all false
theorem q_yes {q d x : Int} {i j : Nat} (h : i = j) : (if i = j then q else 0) - d * x = q - d * x := by simp [h]
theorem q_no {q d x : Int} {i j : Nat} (h : ¬ i = j) : (if i = j then q else 0) - d * x = -(d * x) := by simp [h]
set_option maxRecDepth 20000 in
set_option maxHeartbeats 6400000 in
theorem sBelow_any (p : Option Addr) (n c : Nat) (m : List (List Int)) (q d : Int) (w : World) (h : Intss w p n m) (hsm : isSmallM m = true) (hq : 0 ≤ q) (hq2 : q ≤ 4000) (hd : 1 ≤ d) (hd2 : d ≤ 100) :
    Calls Tryz.prog 105 #[.slice p n c, .int .i64 q, .int .i64 d] w fun e w' => e = .returned (.bool (belowM m q d)) ∧ Below w.heap.size w w' := by
  have hm := isSmallM_mat hsm
  have HL : Hid (m.length = n) := h.1
  have HR := Lib.hid (isMat_rowsLen hm.1 HL.out)
  have hn4 : n ≤ 4 := by have := HL.out; omega
  have HS := Lib.hid hsm
  have HQ := Lib.hid (qT_less hsm hq hq2 hd hd2)
  have H := Lib.hid h
  clear h hsm hm
  go_enter Tryz.func105, Tryz.ntmps105
  go_wp2_with fail
  refine (sL4Zero_any n n _ (by omega) (by omega)).mono ?_
  rintro e w1 ⟨v, rfl, hown, hbl⟩
  obtain ⟨ao, cap, rfl, _⟩ := hown.form
  have Hown := Lib.hid hown
  have Hbl := Lib.hid hbl
  clear hown hbl
  go_wp2_with fail
  go_loopw [8] (fun x wr => ∃ i : Nat, i ≤ n ∧ x = .int .i64 i ∧ OIntss wr w.heap.size (.slice ao n cap) n ((qT q d m).take i ++ List.replicate (n - i) (List.replicate n 0)) ∧ Below w.heap.size w wr) (fun x _ => n - (intOf x).toNat)
  case atStart => exact ⟨0, Nat.zero_le _, rfl, by rw [fill_start]; exact Hown.out, Hbl.out⟩
  case round =>
    obtain ⟨i, hi, rfl, hown, hbl⟩ := hrel
    clear Hown Hbl
    by_cases hlt : i < n
    · obtain ⟨b1, o1, a1, c1, r, rfl, hca, hrow, hget⟩ := H.out.at_ hlt
      have HRL : Hid (r.length = n) := HR.out _ _ hget.out
      have HMG := Lib.hid (qT_get (q := q) (d := d) hget.out)
      rw [HL.out] at HMG
      rw [fill_open hlt] at hown
      have HAl : Hid (((qT q d m).take i).length = i) := take_len (by rw [qT_len]; have := HL.out; omega)
      obtain ⟨g, cap', e⟩ := hown.head (by omega)
      injection e with e1 e2 e3
      subst e1
      clear e2 e3 cap'
      have Hca := Lib.hid hca
      have Hrow := Lib.hid hrow
      have Hown := Lib.hid hown
      have Hbl := Lib.hid hbl
      clear hown hbl hrow hca
      go_wp2_with fail
      go_loopw [9] (fun i' wr => ∃ j : Nat, j ≤ n ∧ i' = .int .i64 j ∧ OIntss wr w.heap.size (.slice (some ⟨g, 0, none⟩) n cap) n ((qT q d m).take i ++ ((qRow q d n i r).take j ++ List.replicate (n - j) 0) :: List.replicate (n - (i + 1)) (List.replicate n 0)) ∧ Below w.heap.size w wr) (fun i _ => n - (intOf i).toNat)
      case atStart => exact ⟨0, Nat.zero_le _, rfl, by rw [fill_start]; exact Hown.out, Hbl.out⟩
      case round =>
        obtain ⟨j, hj, rfl, hown, hbl⟩ := hrel
        clear Hown Hbl
        by_cases hjn : j < n
        · obtain ⟨b3, o3, x, rfl, hcx, hgetx⟩ := Hrow.out.at_ (k := j) (by have := HRL.out; omega)
          have hjr : j < r.length := by have := HRL.out; omega
          have hx := isSmallM_get HS.out hget.out hgetx.out
          have hp := prod_range hd hd2 hx.1 hx.2
          rw [fill_open hjn] at hown
          have HG := Lib.hid (qRow_get (q := q) (d := d) (i := i) hjn hgetx.out)
          have HBl : Hid (((qRow q d n i r).take j).length = j) := take_len (by rw [qRow_len]; omega)
          have hlenr : ((qRow q d n i r).take j ++ 0 :: List.replicate (n - (j + 1)) 0).length = n := by
            rw [List.length_append, HBl.out]; simp; omega
          have h1 := (hbl.cell (World.block_lt_of_cell? w _ Hca.out)).trans Hca.out
          have h3 := (hbl.cell (World.block_lt_of_cell? w _ hcx)).trans hcx
          obtain ⟨gk, ck, h5, ho, hne, hlo⟩ := hown.rowAt (at_mid HAl.out) (by rw [hlenr]; omega)
          have hset := fun z => hown.setIn (at_mid HAl.out) h5 ho j z
          have hb' := fun z => hbl.setCell (p := ⟨gk, j, none⟩) hlo (.int .i64 z)
          rw [hlenr] at h5 ho
          have h6 := ho.cell j hjn
          have h7 := ho.frozen j
          by_cases hij : i = j
          · have hd1 : decide ((i : Int) = (j : Int)) = true := decide_eq_true (by omega)
            have hd2 : ((i : Int) == (j : Int)) = true := by simp; omega
            have HSet := Lib.hid (hset (q - d * x))
            have Hb' := Lib.hid (hb' (q - d * x))
            have HQY : Hid (_ = _) := q_yes (q := q) (d := d) (x := x) hij
            rw [HQY.out] at HG
            rw [set_mid HAl.out, set_mid HBl.out, fill_shut HG.out] at HSet
            clear hset hb' ho hown hbl hlenr hcx HQY hij hget hgetx hx
            have hbit : bit true = 1 := rfl
            go_wp2_with fail
            go_still_tail 22, (by kernel_rfl)
            still_call ((l1Bit_any _ _).mono fun _ _ h => ⟨h.1, h.2.symm⟩)
            repeat still_step
            refine wpStill_nil ?_
            change wpList _ _ _ _ _ wr.drew
            go_wp2_with fail
            go_roundw
            case rel => exact ⟨j + 1, hjn, by go_num, by first | exact HSet.out | exact HSet.out.drewN 1, by first | exact Hb'.out | exact Hb'.out.drew⟩
            case measure => simp [intOf]; omega
          · have hd1 : decide ((i : Int) = (j : Int)) = false := decide_eq_false (by omega)
            have hd2 : ((i : Int) == (j : Int)) = false := by simp; omega
            have HSet := Lib.hid (hset (-(d * x)))
            have Hb' := Lib.hid (hb' (-(d * x)))
            have HQY : Hid (_ = _) := q_no (q := q) (d := d) (x := x) hij
            rw [HQY.out] at HG
            rw [set_mid HAl.out, set_mid HBl.out, fill_shut HG.out] at HSet
            clear hset hb' ho hown hbl hlenr hcx HQY hij hget hgetx hx
            have hbit : bit false = 0 := rfl
            go_wp2_with fail
            go_still_tail 22, (by kernel_rfl)
            still_call ((l1Bit_any _ _).mono fun _ _ h => ⟨h.1, h.2.symm⟩)
            repeat still_step
            refine wpStill_nil ?_
            change wpList _ _ _ _ _ wr.drew
            go_wp2_with fail
            go_roundw
            case rel => exact ⟨j + 1, hjn, by go_num, by first | exact HSet.out | exact HSet.out.drewN 1, by first | exact Hb'.out | exact Hb'.out.drew⟩
            case measure => simp [intOf]; omega
        · have hjn' : j = n := by omega
          subst hjn'
          rw [fill_end (qRow_len q d j i r), fill_shut HMG.out] at hown
          have Hown := Lib.hid hown
          have Hbl := Lib.hid hbl
          clear hown hbl
          go_wp2_with fail
          go_roundw
          case rel => exact ⟨i + 1, hlt, by go_num, Hown.out, Hbl.out⟩
          case measure => simp [intOf]; omega
    · have e : i = n := by omega
      subst e
      rw [fill_end (by rw [qT_len]; exact HL.out), HQ.out] at hown
      obtain ⟨_, _, e2, hi2⟩ := hown.form
      injection e2 with e2
      subst e2
      have HT := Lib.hid hi2
      have HTR := Lib.hid (lessT_rowsLen (q := q) (d := d) HR.out)
      have HTL : Hid ((lessT q d m).length = i) := by show _ = _; rw [lessT_len]; exact HL.out
      have HD : Hid (belF (lessT q d m) 0 (i - 0) = belowM m q d) := by show _ = _; unfold belowM; rw [HL.out]; rfl
      have Hbl := Lib.hid hbl
      obtain ⟨wa, rfl⟩ : ∃ wo : World, wo = wr := ⟨_, rfl⟩
      have Hem := Lib.hid (OInts.empty wa wa.heap.size (Nat.le_refl _))
      have Hb0 : Hid (Below wa.heap.size wa (wa.alloc (.cells #[] 3))) := (Below.refl _ _).alloc (Nat.le_refl _) _
      clear hown hbl hi2 HQ hlt
      go_wp2_with fail
      go_loopw [10, 11] (fun v x wr => ∃ k : Nat, k ≤ i ∧ x = .int .i64 k ∧ OInts wr wa.heap.size v k (iota k) ∧ Hid (belF (lessT q d m) k (i - k) = belowM m q d) ∧ Below wa.heap.size wa wr) (fun _ x _ => i - (intOf x).toNat)
      case atStart => exact ⟨0, Nat.zero_le _, rfl, Hem.out, HD.out, Hb0.out⟩
      case round =>
        obtain ⟨k, hk, rfl, hown, hr, hbl⟩ := hrel
        obtain ⟨ao5, cap5, rfl, _⟩ := hown.form
        have Hown := Lib.hid hown
        have Hbx := Lib.hid hbl
        clear hown hbl HD Hem Hb0
        by_cases hlt : k < i
        · have HST := Lib.hid (bel_step hlt rfl hr.out)
          clear hr
          obtain ⟨z, hz⟩ : ∃ z, det (k + 1) (partT (lessT q d m) (k + 1)) = z := ⟨_, rfl⟩
          have HZ := Lib.hid hz
          rw [hz] at HST
          clear hz
          by_cases hz0 : 0 < z
          · have hd0 : decide (z ≤ 0) = false := decide_eq_false (by omega)
            have HN := Lib.hid (HST.out.1 hz0)
            clear HST
            go_wp2_with (first
              | (at_builtin; refine wpList_push_at _ _ rfl _ _ rfl wa.heap.size _ _ _ rfl Hown.out (by omega) Hbx.out.size _ rfl rfl ?_; intro v1 w3 ho1 hg3 hn3; have hb3 := Hbx.out.grown hg3 Hbx.out.size (fun b hb => (Hown.out.ltAll b hb).1); rw [iota_push] at ho1; obtain ⟨ao6, cap6, rfl, hi6⟩ := ho1.form; have Ho1 := Lib.hid ho1; have Hi6 := Lib.hid hi6; have Hb3 := Lib.hid hb3; clear ho1 hg3 hn3 hb3 hi6)
              | (go_at_call 141; refine (sPart_any _ _ _ (lessT q d m) _ _ _ (iota (k + 1)) i _ (HT.out.keep Hb3.out) Hi6.out HTR.out (iota_idx (by omega)) (iota_idx (by omega)) (by omega)).mono ?_; rintro e w4 ⟨v4, rfl, ho4, hb4⟩; obtain ⟨ao4, cap4, rfl, hi4⟩ := ho4.form; have Hi4 := Lib.hid hi4; have Hb34 := Lib.hid (Hb3.out.trans (hb4.mono Hb3.out.size)); have Ho14 := Lib.hid (Ho1.out.keep hb4); clear ho4 hb4 hi4)
              | (go_at_call 87; refine (sDet_any (k + 1) _ _ _ (partT (lessT q d m) (k + 1)) _ rfl (by omega) Hi4.out (partT_rowsLen _ _)).mono ?_; rw [HZ.out]; rintro e w5 ⟨rfl, hb5⟩; have Hb5 := Lib.hid (Hb34.out.trans (hb5.mono Hb34.out.size)); have Ho15 := Lib.hid (Ho14.out.keep hb5); clear hb5))
            go_roundw
            case rel => exact ⟨k + 1, hlt, by go_num, Ho15.out, HN.out, Hb5.out⟩
            case measure => simp [intOf]; omega
          · have hd0 : decide (z ≤ 0) = true := decide_eq_true (by omega)
            have HN := Lib.hid (HST.out.2 hz0)
            clear HST
            go_wp2_with (first
              | (at_builtin; refine wpList_push_at _ _ rfl _ _ rfl wa.heap.size _ _ _ rfl Hown.out (by omega) Hbx.out.size _ rfl rfl ?_; intro v1 w3 ho1 hg3 hn3; have hb3 := Hbx.out.grown hg3 Hbx.out.size (fun b hb => (Hown.out.ltAll b hb).1); rw [iota_push] at ho1; obtain ⟨ao6, cap6, rfl, hi6⟩ := ho1.form; have Ho1 := Lib.hid ho1; have Hi6 := Lib.hid hi6; have Hb3 := Lib.hid hb3; clear ho1 hg3 hn3 hb3 hi6)
              | (go_at_call 141; refine (sPart_any _ _ _ (lessT q d m) _ _ _ (iota (k + 1)) i _ (HT.out.keep Hb3.out) Hi6.out HTR.out (iota_idx (by omega)) (iota_idx (by omega)) (by omega)).mono ?_; rintro e w4 ⟨v4, rfl, ho4, hb4⟩; obtain ⟨ao4, cap4, rfl, hi4⟩ := ho4.form; have Hi4 := Lib.hid hi4; have Hb34 := Lib.hid (Hb3.out.trans (hb4.mono Hb3.out.size)); clear ho4 hb4 hi4)
              | (go_at_call 87; refine (sDet_any (k + 1) _ _ _ (partT (lessT q d m) (k + 1)) _ rfl (by omega) Hi4.out (partT_rowsLen _ _)).mono ?_; rw [HZ.out]; rintro e w5 ⟨rfl, hb5⟩; have Hb5 := Lib.hid (Hb34.out.trans (hb5.mono Hb34.out.size)); clear hb5))
            go_ret
            exact ⟨ret_bool HN.out.symm, Hbl.out.trans (Hb5.out.mono Hbl.out.size)⟩
        · have HN : Hid (belowM m q d = true) := by
            show _ = _
            rw [← hr.out, show i - k = 0 by omega]; rfl
          clear hr
          go_wp2_with fail
          go_ret
          exact ⟨ret_bool HN.out.symm, Hbl.out.trans (Hbx.out.mono Hbl.out.size)⟩
end Go.Proofs.YtonfdiaefkghbaaGreatDoor
