/- ICRuns: a part of the proofs of this seat. -/
import Derived.StillTailTactics
import Derived.Test.YtobmljclokmbcaaDoorProg
import Derived.Test.YtobmljclokmbcaaDoorRLG1
import Derived.Test.YtobmljclokmbcaaDoorRLSCRuns
import Derived.Test.YtobmljclokmbcaaDoorRLThA
namespace Go.Proofs.YtobmljclokmbcaaDoor
open Go.RowKit
set_option linter.all false
theorem isum_eq : ∀ (xs : List Int) (a : Int), isum (wrap64 a) xs = wrap64 (a + xs.sum)
  | [], a => by simp [isum]
  | x :: r, a => by
    show isum (wrap64 (wrap64 a + x)) r = _
    rw [wrap_add, isum_eq r (a + x), List.sum_cons, Int.add_assoc]
theorem isum_two (A B : List Int) : wrap64 (isum 0 A + isum 0 B) = wrap64 (B.sum + A.sum) := by
  have h1 := isum_eq A 0
  have h2 := isum_eq B 0
  rw [wr0] at h1 h2
  rw [h1, h2, wrap_add]
  unfold wrap64
  omega
set_option maxRecDepth 20000 in
set_option maxHeartbeats 6400000 in
theorem iCountRuns_any (d k n : Int) (w : World) : Calls Tryd.prog 20 #[.int .i64 d, .int .i64 k, .int .i64 n] w fun e w' => e = .returned (.int .i64 (countR d k n)) ∧ Below w.heap.size w w' := by
  cases hf : fitsR d k
  · have HG : Hid (countR d k n = -1) := by show _ = _; simp [countR, hf]
    go_enter Tryd.func20, Tryd.ntmps20
    go_wp2_with (go_at_call 48; refine (isRange_any _ _ _).mono ?_; rintro e w' ⟨rfl, rfl⟩)
    go_ret
    exact ⟨ret_int HG.out.symm, Below.refl _ _⟩
  cases hi : inR n 0 20
  · have HG : Hid (countR d k n = -1) := by show _ = _; simp [countR, hi]
    rcases inR_false hi with h1 | h1
    · have d1 : decide (n < 0) = true := decide_eq_true h1
      go_enter Tryd.func20, Tryd.ntmps20
      go_wp2_with (go_at_call 48; refine (isRange_any _ _ _).mono ?_; rintro e w' ⟨rfl, rfl⟩)
      go_ret
      exact ⟨ret_int HG.out.symm, Below.refl _ _⟩
    · have d1 : decide (n < 0) = false := decide_eq_false (by omega)
      have d2 : decide (20 < n) = true := decide_eq_true h1
      go_enter Tryd.func20, Tryd.ntmps20
      go_wp2_with (go_at_call 48; refine (isRange_any _ _ _).mono ?_; rintro e w' ⟨rfl, rfl⟩)
      go_ret
      exact ⟨ret_int HG.out.symm, Below.refl _ _⟩
  have hi2 := inR_true hi
  obtain ⟨d, k, rfl, rfl, hdk, hk7⟩ := fitsR_nat hf
  obtain ⟨n, rfl⟩ : ∃ m : Nat, n = m := ⟨n.toNat, by omega⟩
  have HG : Hid (countR d k n = cntR d k n (zerosL k) (oneL k)) := by show _ = _; simp [countR, hf, hi]
  have HF := Lib.hid hf
  clear hf hi
  have hn20 : n ≤ 20 := by omega
  have d1 : decide ((n : Int) < 0) = false := decide_eq_false (by omega)
  have d2 : decide (20 < (n : Int)) = false := decide_eq_false (by omega)
  clear hi2
  have hm8 : k + 1 ≤ 8 := by omega
  obtain ⟨m, hkm⟩ : ∃ m : Nat, (k : Int) + 1 = m := ⟨k + 1, by omega⟩
  have HM : Hid (m = k + 1) := by show _ = _; omega
  have hmk1 : k < m := by omega
  have hm0 : 0 < m := by omega
  have hmle : m ≤ 8 := by omega
  have hmk := make_ints m (by omega)
  have HMa := Lib.hid (fun (W : World) => OInts.made W m (by omega))
  go_enter Tryd.func20, Tryd.ntmps20
  go_upto_region 3 with (go_at_call 48; refine (isRange_any _ _ _).mono ?_; rw [HF.out]; rintro e w' ⟨rfl, rfl⟩)
  go_cut [7, 8] (fun va vb wx => ∃ g1 g2, va = .slice (some ⟨g1, 0, none⟩) m m ∧ vb = .slice (some ⟨g2, 0, none⟩) m m ∧ OInts wx w.heap.size (.slice (some ⟨g1, 0, none⟩) m m) m (zerosL k) ∧ OInts wx w.heap.size (.slice (some ⟨g2, 0, none⟩) m m) m (zerosL k) ∧ g1 ≠ g2 ∧ Below w.heap.size w wx)
  case first =>
    have z1 : (w.drew.alloc (.cells (madeCells #[.int .i64 0] m) 3)).heap.size = w.heap.size + 1 := by simp
    have ho1 := (HMa.out w.drew).alloc (.cells (madeCells #[.int .i64 0] m) 3)
    have ho2 := HMa.out (w.drew.alloc (.cells (madeCells #[.int .i64 0] m) 3))
    rw [z1] at ho2
    have e1 : List.replicate m (0 : Int) = zerosL k := by rw [HM.out]; rfl
    rw [e1] at ho1 ho2
    have Ho1 := Lib.hid ho1
    have Ho2 := Lib.hid (ho2.mono (Nat.le_succ w.heap.size))
    have HBx := Lib.hid (((below_drewN (Below.refl w.heap.size w) 1).alloc (Nat.le_refl _) (.cells (madeCells #[.int .i64 0] m) 3)).alloc (by simp) (.cells (madeCells #[.int .i64 0] m) 3))
    clear ho1 ho2 e1 z1
    go_region
    all_goals (go_wp2_with fail; go_meet; first
      | exact ⟨_, _, rfl, rfl, Ho1.out, Ho2.out, by omega, HBx.out⟩
      | exact ⟨_, _, rfl, rfl, Ho2.out, Ho1.out, by omega, HBx.out⟩)
  case rest =>
  obtain ⟨g1, g2, rfl, rfl, ho1, ho2, hne, hb0⟩ := hcut
  have q1 := ho1.cell 0 hm0
  have q2 := ho1.frozen 0
  have e0 : (zerosL k).getD 0 0 = 0 := rfl
  rw [e0] at q1
  clear e0
  have HO1 := Lib.hid (ho1.set 0 1)
  have HO2 := Lib.hid (ho2.setFar (Ne.symm hne) (j := 0) (.int .i64 1))
  have HB2 := Lib.hid (hb0.setCell (p := ⟨g1, 0, none⟩) ho1.lt.1 (.int .i64 1))
  have e2 : (zerosL k).set 0 1 = oneL k := rfl
  rw [e2] at HO1
  clear e2 ho1 ho2 hb0
  go_wp2_with fail
  clear q1 q2
  generalize wc.setCell ⟨g1, 0, none⟩ (.int .i64 1) = w2 at HO1 HO2 HB2 ⊢
  go_loopw [7, 8, 33] (fun va vb x wr => ∃ (i : Nat) (g1 g2 : Nat) (A B : List Int), i ≤ n ∧ x = .int .i64 i ∧ va = .slice (some ⟨g1, 0, none⟩) m m ∧ vb = .slice (some ⟨g2, 0, none⟩) m m ∧ OInts wr w.heap.size (.slice (some ⟨g1, 0, none⟩) m m) m A ∧ OInts wr w.heap.size (.slice (some ⟨g2, 0, none⟩) m m) m B ∧ Hid (cntR d k (n - i) B A = cntR d k n (zerosL k) (oneL k)) ∧ Hid (Wr A) ∧ Hid (Wr B) ∧ Below w.heap.size w wr) (fun _ _ x _ => n - (intOf x).toNat)
  case atStart => exact ⟨0, _, _, _, _, Nat.zero_le _, rfl, rfl, rfl, HO1.out, HO2.out, rfl, one_wr k, zeros_wr k, HB2.out⟩
  case round =>
    obtain ⟨i, g1, g2, A, B, hi, rfl, rfl, rfl, ho1, ho2, hr, hwa, hwb, hbl⟩ := hrel
    have HA : Hid (A.length = k + 1) := ho1.len.trans HM.out
    have HB : Hid (B.length = k + 1) := ho2.len.trans HM.out
    have hl1 := ho1.lt
    have hl2 := ho2.lt
    have hsz := hbl.size
    by_cases hin : i < n
    · obtain ⟨wo, rfl⟩ : ∃ wo : World, wo = wr := ⟨_, rfl⟩
      have Ho1 := Lib.hid ho1
      have Ho2 := Lib.hid ho2
      have Hbl := Lib.hid hbl
      clear ho1 ho2 hbl
      go_upto_region 7 with fail
      go_cut [9, 10] (fun va vb wx => ∃ g3 g4, va = .slice (some ⟨g3, 0, none⟩) m m ∧ vb = .slice (some ⟨g4, 0, none⟩) m m ∧ Quad wx w.heap.size m g1 g2 g3 g4 A B (nextL k A 0 0) (nextL k B 0 0) ∧ Below w.heap.size w wx)
      case first =>
        have z1 : (wo.drew.alloc (.cells (madeCells #[.int .i64 0] m) 3)).heap.size = wo.heap.size + 1 := by simp
        have hb1 := (below_drewN (Below.refl wo.heap.size wo) 1).alloc (Nat.le_refl _) (.cells (madeCells #[.int .i64 0] m) 3)
        have hb2 := hb1.alloc (by simp) (.cells (madeCells #[.int .i64 0] m) 3)
        have ho3 := ((HMa.out wo.drew).mono hsz).alloc (.cells (madeCells #[.int .i64 0] m) 3)
        have ho4 := HMa.out (wo.drew.alloc (.cells (madeCells #[.int .i64 0] m) 3))
        rw [z1] at ho4
        have HQ0 : Hid (∀ g3 g4, (g3 = wo.heap.size ∧ g4 = wo.heap.size + 1) ∨ (g4 = wo.heap.size ∧ g3 = wo.heap.size + 1) → Quad ((wo.drew.alloc (.cells (madeCells #[.int .i64 0] m) 3)).alloc (.cells (madeCells #[.int .i64 0] m) 3)) w.heap.size m g1 g2 g3 g4 A B (nextL k A 0 0) (nextL k B 0 0)) := by
          show ∀ g3 g4, _
          rintro g3 g4 (⟨rfl, rfl⟩ | ⟨rfl, rfl⟩) <;> rw [nl_start, nl_start, ← HM.out]
          · exact ⟨Ho1.out.keep hb2, Ho2.out.keep hb2, ho3, ho4.mono (Nat.le_trans hsz (Nat.le_succ _)), by omega, by omega, by omega, by omega, by omega⟩
          · exact ⟨Ho1.out.keep hb2, Ho2.out.keep hb2, ho4.mono (Nat.le_trans hsz (Nat.le_succ _)), ho3, by omega, by omega, by omega, by omega, by omega⟩
        have HB0 := Lib.hid (Hbl.out.trans (hb2.mono hsz))
        clear ho3 ho4 hb1 hb2 z1
        go_region
        all_goals (go_wp2_with fail; go_meet; first
          | exact ⟨_, _, rfl, rfl, HQ0.out _ _ (.inl ⟨rfl, rfl⟩), HB0.out⟩
          | exact ⟨_, _, rfl, rfl, HQ0.out _ _ (.inr ⟨rfl, rfl⟩), HB0.out⟩)
      case rest =>
      obtain ⟨g3, g4, rfl, rfl, HQ0, HB0⟩ := hcut
      have HQ0 := Lib.hid HQ0
      have HB0 := Lib.hid HB0
      clear Ho1 Ho2 Hbl hl1 hl2 hsz
      go_wp2_with fail
      go_loopw [43] (fun x wr => ∃ (p : Nat) (a : Int), p ≤ m ∧ x = .int .i64 p ∧ Quad wr w.heap.size m g1 g2 g3 g4 A B (nextL k A p 0) (nextL k B p a) ∧ Hid (wrap64 a = a) ∧ Hid (accF d (B.drop p) (A.drop p) p a = accF d B A 0 0) ∧ Below w.heap.size w wr) (fun x _ => m - (intOf x).toNat)
      case atStart => exact ⟨0, 0, Nat.zero_le _, rfl, HQ0.out, wr0, rfl, HB0.out⟩
      case round =>
        obtain ⟨p, a, hp, rfl, hq, hwa2, hac, hbl⟩ := hrel
        have HQ := Lib.hid hq
        have HBl := Lib.hid hbl
        clear hq hbl HQ0 HB0
        by_cases hpm : p < m
        · obtain ⟨x1, hx1⟩ : ∃ x, A[p]? = some x := ⟨_, List.getElem?_eq_getElem (by have := HA.out; have := HM.out; omega)⟩
          obtain ⟨x2, hx2⟩ : ∃ x, B[p]? = some x := ⟨_, List.getElem?_eq_getElem (by have := HB.out; have := HM.out; omega)⟩
          have Hg1 := Lib.hid hx1
          have Hg2 := Lib.hid hx2
          have Hx1 : Hid (A.getD p 0 = x1) := by show _ = _; simp [List.getD, hx1]
          have Hx2 : Hid (B.getD p 0 = x2) := by show _ = _; simp [List.getD, hx2]
          have hw1 := hwa.out.get hx1
          have hw2 := hwb.out.get hx2
          have HS := Lib.hid (accF_step hx2 hx1 hac.out)
          clear hx1 hx2 hac
          have hm1 := HM.out
          by_cases hpk : p < k
          · have hpk1 : p + 1 < m := by omega
            have dlt : decide ((p : Int) < (k : Int)) = true := decide_eq_true (by omega)
            by_cases hdp : d ≤ p
            · have dge : decide ((d : Int) ≤ (p : Int)) = true := decide_eq_true (by omega)
              have HE := Lib.hid (acc_yes (a := a) (s := x2) (f := x1) hdp).2
              clear hm1
              have f1 := HQ.out.o3.frozen (p + 1)
              have c1 := HQ.out.o3.cell (p + 1) (by omega)
              rw [nl_getS HA.out hpk] at c1
              have e1 := HQ.out.o1.cell p (by omega)
              rw [Hx1.out] at e1
              have Q1 := Lib.hid (HQ.out.set3 (p + 1) x1)
              rw [nl_setS HA.out hpk Hg1.out] at Q1
              have B1 := Lib.hid (HBl.out.setCell (p := ⟨g3, (p + 1), none⟩) HQ.out.o3.lt.1 (.int .i64 x1))
              have hwp : IntKind.i64.wrap ((p : Int) + 1) = (p : Int) + 1 := by rw [IntKind.wrap_i64]; omega
              have hwq : ((p : Int) + 1).toNat = p + 1 := by omega
              have hw0 : (0 : Int) ≤ (p : Int) + 1 := by omega
              have hwm : (p : Int) + 1 < (m : Int) := by omega
              go_wp2_with fail
              go_still_tail 11, (by kernel_rfl)
              change wpList _ _ _ _ _ wr.drew
              go_wp2_with fail
              try simp only [hw1]
              clear f1 c1 e1
              refine wp_at (fun W => Quad W _ _ _ _ _ _ _ _ _ _ ∧ Below w.heap.size w W) ⟨Q1.out.drewN 1, below_drewN B1.out 1⟩ ?_
              rintro w5 ⟨hq1, hb1⟩
              have Q1d := Lib.hid hq1
              have B1d := Lib.hid hb1
              clear hq1 hb1 Q1 B1
              have f2 := Q1d.out.o4.frozen (p + 1)
              have c2 := Q1d.out.o4.cell (p + 1) (by omega)
              rw [nl_getS HB.out hpk] at c2
              have e2 := Q1d.out.o2.cell p (by omega)
              rw [Hx2.out] at e2
              have Q2 := Lib.hid (Q1d.out.set4 (p + 1) x2)
              rw [nl_setS HB.out hpk Hg2.out] at Q2
              have B2 := Lib.hid (B1d.out.setCell (p := ⟨g4, (p + 1), none⟩) Q1d.out.o4.lt.1 (.int .i64 x2))
              go_still_tail 11, (by kernel_rfl)
              change wpList _ _ _ _ _ w5.drew
              go_wp2_with fail
              try simp only [hw2]
              clear f2 c2 e2
              refine wp_at (fun W => Quad W _ _ _ _ _ _ _ _ _ _ ∧ Below w.heap.size w W) ⟨Q2.out.drewN 1, below_drewN B2.out 1⟩ ?_
              rintro w6 ⟨hq2, hb2⟩
              have Q2d := Lib.hid hq2
              have B2d := Lib.hid hb2
              clear hq2 hb2 Q2 B2
              have f3 := Q2d.out.o4.frozen 0
              have c3 := Q2d.out.o4.cell 0 (by omega)
              rw [nl_get0] at c3
              have e3 := Q2d.out.o1.cell p (by omega)
              rw [Hx1.out] at e3
              have Q3 := Lib.hid (Q2d.out.set4 0 (wrap64 (a + x1)))
              rw [nl_set0] at Q3
              have B3 := Lib.hid (B2d.out.setCell (p := ⟨g4, 0, none⟩) Q2d.out.o4.lt.1 (.int .i64 (wrap64 (a + x1))))
              go_still_tail 9, (by kernel_rfl)
              change wpList _ _ _ _ _ w6.drew
              go_wp2_with fail
              clear f3 c3 e3
              refine wp_at (fun W => Quad W _ _ _ _ _ _ _ _ _ _ ∧ Below w.heap.size w W) ⟨Q3.out.drewN 1, below_drewN B3.out 1⟩ ?_
              rintro w7 ⟨hq3, hb3⟩
              have Q3d := Lib.hid hq3
              have B3d := Lib.hid hb3
              clear hq3 hb3 Q3 B3
              have f4 := Q3d.out.o4.frozen 0
              have c4 := Q3d.out.o4.cell 0 (by omega)
              rw [nl_get0] at c4
              have e4 := Q3d.out.o2.cell p (by omega)
              rw [Hx2.out] at e4
              have Q4 := Lib.hid (Q3d.out.set4 0 (wrap64 ((wrap64 (a + x1)) + x2)))
              rw [nl_set0] at Q4
              have B4 := Lib.hid (B3d.out.setCell (p := ⟨g4, 0, none⟩) Q3d.out.o4.lt.1 (.int .i64 (wrap64 ((wrap64 (a + x1)) + x2))))
              go_still_tail 9, (by kernel_rfl)
              change wpList _ _ _ _ _ w7.drew
              go_wp2_with fail
              clear f4 c4 e4
              have Q4d := Lib.hid (Q4.out.drewN 1)
              have B4d := Lib.hid (below_drewN B4.out 1)
              go_wp2_with fail
              go_roundw
              case rel =>
                have hq9 := Q4d.out
                have hs9 := HS.out
                rw [← HE.out] at hs9
                exact ⟨p + 1, _, hpm, by go_num, hq9, wrap_wrap _, hs9, B4d.out⟩
              case measure => simp [intOf]; omega
            · have dge : decide ((d : Int) ≤ (p : Int)) = false := decide_eq_false (by omega)
              have HE := Lib.hid (acc_no (a := a) (s := x2) (f := x1) hdp)
              clear hm1
              have f1 := HQ.out.o3.frozen (p + 1)
              have c1 := HQ.out.o3.cell (p + 1) (by omega)
              rw [nl_getS HA.out hpk] at c1
              have e1 := HQ.out.o1.cell p (by omega)
              rw [Hx1.out] at e1
              have Q1 := Lib.hid (HQ.out.set3 (p + 1) x1)
              rw [nl_setS HA.out hpk Hg1.out] at Q1
              have B1 := Lib.hid (HBl.out.setCell (p := ⟨g3, (p + 1), none⟩) HQ.out.o3.lt.1 (.int .i64 x1))
              have hwp : IntKind.i64.wrap ((p : Int) + 1) = (p : Int) + 1 := by rw [IntKind.wrap_i64]; omega
              have hwq : ((p : Int) + 1).toNat = p + 1 := by omega
              have hw0 : (0 : Int) ≤ (p : Int) + 1 := by omega
              have hwm : (p : Int) + 1 < (m : Int) := by omega
              go_wp2_with fail
              go_still_tail 11, (by kernel_rfl)
              change wpList _ _ _ _ _ wr.drew
              go_wp2_with fail
              try simp only [hw1]
              clear f1 c1 e1
              refine wp_at (fun W => Quad W _ _ _ _ _ _ _ _ _ _ ∧ Below w.heap.size w W) ⟨Q1.out.drewN 1, below_drewN B1.out 1⟩ ?_
              rintro w5 ⟨hq1, hb1⟩
              have Q1d := Lib.hid hq1
              have B1d := Lib.hid hb1
              clear hq1 hb1 Q1 B1
              have f2 := Q1d.out.o4.frozen (p + 1)
              have c2 := Q1d.out.o4.cell (p + 1) (by omega)
              rw [nl_getS HB.out hpk] at c2
              have e2 := Q1d.out.o2.cell p (by omega)
              rw [Hx2.out] at e2
              have Q2 := Lib.hid (Q1d.out.set4 (p + 1) x2)
              rw [nl_setS HB.out hpk Hg2.out] at Q2
              have B2 := Lib.hid (B1d.out.setCell (p := ⟨g4, (p + 1), none⟩) Q1d.out.o4.lt.1 (.int .i64 x2))
              go_still_tail 11, (by kernel_rfl)
              change wpList _ _ _ _ _ w5.drew
              go_wp2_with fail
              try simp only [hw2]
              clear f2 c2 e2
              refine wp_at (fun W => Quad W _ _ _ _ _ _ _ _ _ _ ∧ Below w.heap.size w W) ⟨Q2.out.drewN 1, below_drewN B2.out 1⟩ ?_
              rintro w6 ⟨hq2, hb2⟩
              have Q2d := Lib.hid hq2
              have B2d := Lib.hid hb2
              clear hq2 hb2 Q2 B2
              have f3 := Q2d.out.o4.frozen 0
              have c3 := Q2d.out.o4.cell 0 (by omega)
              rw [nl_get0] at c3
              have e3 := Q2d.out.o1.cell p (by omega)
              rw [Hx1.out] at e3
              have Q3 := Lib.hid (Q2d.out.set4 0 (wrap64 (a + x1)))
              rw [nl_set0] at Q3
              have B3 := Lib.hid (B2d.out.setCell (p := ⟨g4, 0, none⟩) Q2d.out.o4.lt.1 (.int .i64 (wrap64 (a + x1))))
              go_still_tail 9, (by kernel_rfl)
              change wpList _ _ _ _ _ w6.drew
              go_wp2_with fail
              clear f3 c3 e3
              have Q3d := Lib.hid (Q3.out.drewN 1)
              have B3d := Lib.hid (below_drewN B3.out 1)
              go_wp2_with fail
              go_roundw
              case rel =>
                have hq9 := Q3d.out
                have hs9 := HS.out
                rw [← HE.out] at hs9
                exact ⟨p + 1, _, hpm, by go_num, hq9, wrap_wrap _, hs9, B3d.out⟩
              case measure => simp [intOf]; omega
          · have dlt : decide ((p : Int) < (k : Int)) = false := decide_eq_false (by omega)
            have hdp : d ≤ p := by omega
            have dge : decide ((d : Int) ≤ (p : Int)) = true := decide_eq_true (by omega)
            have HE := Lib.hid (acc_yes (a := a) (s := x2) (f := x1) hdp).2
            clear hm1
            have f1 := HQ.out.o4.frozen 0
            have c1 := HQ.out.o4.cell 0 (by omega)
            rw [nl_get0] at c1
            have e1 := HQ.out.o1.cell p (by omega)
            rw [Hx1.out] at e1
            have Q1 := Lib.hid (HQ.out.set4 0 (wrap64 (a + x1)))
            rw [nl_set0] at Q1
            have B1 := Lib.hid (HBl.out.setCell (p := ⟨g4, 0, none⟩) HQ.out.o4.lt.1 (.int .i64 (wrap64 (a + x1))))
            go_wp2_with fail
            go_still_tail 9, (by kernel_rfl)
            change wpList _ _ _ _ _ wr.drew
            go_wp2_with fail
            clear f1 c1 e1
            refine wp_at (fun W => Quad W _ _ _ _ _ _ _ _ _ _ ∧ Below w.heap.size w W) ⟨Q1.out.drewN 1, below_drewN B1.out 1⟩ ?_
            rintro w5 ⟨hq1, hb1⟩
            have Q1d := Lib.hid hq1
            have B1d := Lib.hid hb1
            clear hq1 hb1 Q1 B1
            have f2 := Q1d.out.o4.frozen 0
            have c2 := Q1d.out.o4.cell 0 (by omega)
            rw [nl_get0] at c2
            have e2 := Q1d.out.o2.cell p (by omega)
            rw [Hx2.out] at e2
            have Q2 := Lib.hid (Q1d.out.set4 0 (wrap64 ((wrap64 (a + x1)) + x2)))
            rw [nl_set0] at Q2
            have B2 := Lib.hid (B1d.out.setCell (p := ⟨g4, 0, none⟩) Q1d.out.o4.lt.1 (.int .i64 (wrap64 ((wrap64 (a + x1)) + x2))))
            go_still_tail 9, (by kernel_rfl)
            change wpList _ _ _ _ _ w5.drew
            go_wp2_with fail
            clear f2 c2 e2
            have Q2d := Lib.hid (Q2.out.drewN 1)
            have B2d := Lib.hid (below_drewN B2.out 1)
            go_wp2_with fail
            go_roundw
            case rel =>
              have hq9 := Q2d.out
              rw [← nl_skip (A := A) hpk, ← nl_skip (A := B) hpk] at hq9
              have hs9 := HS.out
              rw [← HE.out] at hs9
              exact ⟨p + 1, _, hpm, by go_num, hq9, wrap_wrap _, hs9, B2d.out⟩
            case measure => simp [intOf]; omega
        · have hpe : p = k + 1 := by have := HM.out; omega
          have ha := accF_end (by have := HB.out; omega) hac.out
          have hq := HQ.out
          rw [hpe, nl_end, nl_end] at hq
          have HC := Lib.hid hq.o3
          have HD := Lib.hid hq.o4
          have hr2 : Hid (cntR d k (n - (i + 1)) (a :: B.take k) (0 :: A.take k) = cntR d k n (zerosL k) (oneL k)) := by
            have h := hr.out
            rw [show n - i = (n - (i + 1)) + 1 by omega] at h
            rw [ha]
            exact h
          clear hq hr hac hpe ha
          go_wp2_with fail
          go_roundw
          case rel => exact ⟨i + 1, g3, g4, _, _, hin, by go_num, rfl, rfl, HC.out, HD.out, hr2.out, hwa.out.cons wr0, hwb.out.cons hwa2.out, HBl.out⟩
          case measure => simp [intOf]; omega
    · have hr3 : Hid (wrap64 (isum 0 A + isum 0 B) = cntR d k n (zerosL k) (oneL k)) := by
        have h := hr.out
        rw [show n - i = 0 by omega] at h
        exact (isum_two A B).trans h
      have hi1 := ho1.ints
      have hi2 := ho2.ints
      clear ho1 ho2 hr hl1 hl2 hsz
      have Hi1 := Lib.hid hi1
      have Hi2 := Lib.hid hi2
      clear hi1 hi2
      go_wp2_with fail
      refine (total_any _ _ _ A _ Hi1.out).mono ?_
      rintro e w' ⟨rfl, rfl⟩
      go_wp2_with fail
      refine (total_any _ _ _ B _ Hi2.out).mono ?_
      rintro e w' ⟨rfl, rfl⟩
      go_wp2_with fail
      go_ret
      exact ⟨ret_int (hr3.out.trans HG.out.symm), hbl⟩
end Go.Proofs.YtobmljclokmbcaaDoor
