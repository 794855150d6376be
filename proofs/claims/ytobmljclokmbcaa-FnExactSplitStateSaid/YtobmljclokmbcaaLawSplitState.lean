/- Proved here: the law FnExactSplitState returns true at every input, leaves its argument as it was, and what the program returns shares no memory. No condition. -/
import Derived.Test.YtobmljclokmbcaaRows
import Derived.Deep.RegionWith
import Derived.Test.YtobmljclokmbcaaFrameLab
import Derived.Test.YtobmljclokmbcaaLabLaw
import Derived.Test.YtobmljclokmbcaaSSplitW
import Derived.Test.YtobmljclokmbcaaISplitW
namespace Go.Proofs.Ytobmljclokmbcaa
open Go.RowKit
set_option linter.all false
set_option maxHeartbeats 6400000 in
set_option maxRecDepth 100000 in
theorem fnExactSplitState_walk (L0 S0 : Int) (p0 : Option Addr) (n0 c0 : Nat) (z0 : List Ar) (a1 : Int) (a2 : Int) (w : World) (h0 : LabIn w p0 n0 z0) (h1 : (Lit.int .i64 a1).wf = true) (h2 : (Lit.int .i64 a2).wf = true) :
    Calls Try.prog 3 #[.agg #[.int .i64 L0, .int .i64 S0, .slice p0 n0 c0], .int .i64 a1, .int .i64 a2] w fun e w' => e = .returned (.bool true) ∧ Below w.heap.size w w' := by
  by_cases hbigL : 1048576 < n0
  · have hmx := h0.2.1
    clear h0 h1 h2
    go_enter Try.func3, Try.ntmps3
    go_wp2_with fail
    refine (szLabels_no L0 S0 1048576 p0 n0 c0 _ (by omega) (by omega) hmx (by omega)).mono ?_
    rintro e w' ⟨rfl, hb⟩
    go_wp2_with fail
    go_ret
    exact ⟨rfl, step2 (below1 _ _) hb⟩
  have hbnL : n0 ≤ 1048576 := by omega
  clear hbigL
  have I0 := Lib.hid ((h0.arcs (by omega)).keep (below1 w (.cells #[.int .i64 L0, .int .i64 S0, .slice p0 n0 c0] 24)))
  have kbox := Blk.new w 24 #[.int .i64 L0, .int .i64 S0, .slice p0 n0 c0]
  have hb1 := below1 w (.cells #[.int .i64 L0, .int .i64 S0, .slice p0 n0 c0] 24)
  clear h0
  have hx0 : (splOk L0 S0 z0 a1 a2 != splOk L0 S0 z0 a1 a2) = false := by simp
  have hq : (((1 : Int) + 3 * (((splX L0 S0 z0 a1 a2).length : Nat) : Int)) != ((1 : Int) + 3 * (((splX L0 S0 z0 a1 a2).length : Nat) : Int))) = false := by simp
  go_enter Try.func3, Try.ntmps3
  go_wp2_with fail
  generalize w.alloc (.cells #[.int .i64 L0, .int .i64 S0, .slice p0 n0 c0] 24) = w1 at I0 kbox hb1 ⊢
  refine (szLabels_ok L0 S0 1048576 p0 n0 c0 _ (by omega) (by omega)).mono ?_
  rintro e w2 ⟨rfl, hb2⟩
  have hszv : decide ((1048576 : Int) - (n0 : Int) < 0) = false := decide_eq_false (by omega)
  have qbox := (kbox.keep hb2)
  have qbox0 := qbox.c0
  have qbox1 := qbox.c1
  have qbox2 := qbox.c2
  clear qbox
  go_wp2_with fail
  clear qbox0 qbox1 qbox2
  refine (toLabels_any L0 S0 p0 n0 c0 z0 _ (I0.out.keep hb2)).mono ?_
  rintro e w3 ⟨gs, rfl, hos, hb3⟩
  go_wp2_with fail
  refine (sSplitState_any L0 S0 (some ⟨gs, 0, none⟩) n0 n0 z0 a1 a2 _ hos.read).mono ?_
  rintro e w4 ⟨vR, rfl, hpR, hb4⟩
  obtain ⟨aR, cR, rfl, _⟩ := hpR.form
  have hoR : OArcs _ w3.heap.size _ (splX L0 S0 z0 a1 a2).length (splX L0 S0 z0 a1 a2) := hpR
  clear hpR
  have hkR := Blk.new w4 28 #[.int .i64 (splL L0 S0 z0 a1 a2), .int .i64 (splS L0 S0 z0 a1 a2), .slice aR (splX L0 S0 z0 a1 a2).length cR]
  have hb5 := below1 w4 (.cells #[.int .i64 (splL L0 S0 z0 a1 a2), .int .i64 (splS L0 S0 z0 a1 a2), .slice aR (splX L0 S0 z0 a1 a2).length cR] 28)
  have qbox := ((((kbox.keep hb2).keep hb3).keep hb4).keep hb5)
  have qbox0 := qbox.c0
  have qbox1 := qbox.c1
  have qbox2 := qbox.c2
  clear qbox
  go_wp2_with fail
  clear qbox0 qbox1 qbox2
  generalize w4.alloc (.cells #[.int .i64 (splL L0 S0 z0 a1 a2), .int .i64 (splS L0 S0 z0 a1 a2), .slice aR (splX L0 S0 z0 a1 a2).length cR] 28) = w5 at hkR hb5 ⊢
  refine (toLabels_any L0 S0 p0 n0 c0 z0 _ (I0.out.keep (step2 (step2 (step2 hb2 hb3) hb4) hb5))).mono ?_
  rintro e w6 ⟨gx, rfl, hox, hb6⟩
  have hkX := Blk.new w6 28 #[.int .i64 L0, .int .i64 S0, .slice (some ⟨gx, 0, none⟩) n0 n0]
  have hb7 := below1 w6 (.cells #[.int .i64 L0, .int .i64 S0, .slice (some ⟨gx, 0, none⟩) n0 n0] 28)
  go_wp2_with fail
  generalize w6.alloc (.cells #[.int .i64 L0, .int .i64 S0, .slice (some ⟨gx, 0, none⟩) n0 n0] 28) = w7 at hkX hb7 ⊢
  refine (iSplitState_any L0 S0 (some ⟨gx, 0, none⟩) n0 n0 z0 a1 a2 _ (hox.since (Since.below (Since.refl _ _ _) hb7 (Nat.le_refl _))).read).mono ?_
  rintro e w8 ⟨vG, rfl, hpG, hb8⟩
  obtain ⟨aG, cG, rfl, _⟩ := hpG.form
  have hoG : OArcs _ w7.heap.size _ (splX L0 S0 z0 a1 a2).length (splX L0 S0 z0 a1 a2) := hpG
  clear hpG
  have hkG := Blk.new w8 28 #[.int .i64 (splL L0 S0 z0 a1 a2), .int .i64 (splS L0 S0 z0 a1 a2), .slice aG (splX L0 S0 z0 a1 a2).length cG]
  have hb9 := below1 w8 (.cells #[.int .i64 (splL L0 S0 z0 a1 a2), .int .i64 (splS L0 S0 z0 a1 a2), .slice aG (splX L0 S0 z0 a1 a2).length cG] 28)
  have qR := ((((hkR.keep hb6).keep hb7).keep hb8).keep hb9)
  have qR0 := qR.c0
  have qR1 := qR.c1
  have qR2 := qR.c2
  clear qR
  go_wp2_with fail
  clear qR0 qR1 qR2
  generalize w8.alloc (.cells #[.int .i64 (splL L0 S0 z0 a1 a2), .int .i64 (splS L0 S0 z0 a1 a2), .slice aG (splX L0 S0 z0 a1 a2).length cG] 28) = w9 at hkG hb9 ⊢
  refine (eqLabels_same _ _ _ _ _ _ _ (splX L0 S0 z0 a1 a2) _ (hoG.since (Since.below (Since.refl _ _ _) hb9 (Nat.le_refl _))).read (hoR.since (Since.below (Since.below (Since.below (Since.below (Since.below (Since.refl _ _ _) hb5 (Nat.le_refl _)) hb6 hb5.size) hb7 (Nat.le_trans hb5.size hb6.size)) hb8 (Nat.le_trans (Nat.le_trans hb5.size hb6.size) hb7.size)) hb9 (Nat.le_trans (Nat.le_trans (Nat.le_trans hb5.size hb6.size) hb7.size) hb8.size))).read).mono ?_
  rintro e w10 ⟨rfl, hb10⟩
  go_wp2_with fail
  have HXb := Lib.hid ((((hkX.keep hb8).keep hb9).keep hb10).drewN 1)
  have HXr := Lib.hid ((hox.since (Since.below (Since.below (Since.below (Since.below (Since.refl _ _ _) hb7 (Nat.le_refl _)) hb8 hb7.size) hb9 (Nat.le_trans hb7.size hb8.size)) hb10 (Nat.le_trans (Nat.le_trans hb7.size hb8.size) hb9.size))).read.drewN 1)
  have HAr := Lib.hid (Arcs.drewN (I0.out.keep (step2 (step2 (step2 (step2 (step2 (step2 (step2 (step2 hb2 hb3) hb4) hb5) hb6) hb7) hb8) hb9) hb10)) 1)
  have HDr : Hid (Below w10.heap.size w10 w10.drew) := below_drewN (Below.refl _ _) 1
  have qB := (((((((((kbox.keep hb2).keep hb3).keep hb4).keep hb5).keep hb6).keep hb7).keep hb8).keep hb9).keep hb10).drewN 1
  have qX := HXb.out
  have qB0 : w10.drew.cell? _ = _ := qB.c0
  have qB1 : w10.drew.cell? _ = _ := qB.c1
  have qB2 : w10.drew.cell? _ = _ := qB.c2
  have qX0 : w10.drew.cell? _ = _ := qX.c0
  have qX1 : w10.drew.cell? _ = _ := qX.c1
  have qX2 : w10.drew.cell? _ = _ := qX.c2
  clear qB qX
  go_cut [53] (fun v wx => v = .bool false ∧ Below w10.heap.size w10 wx)
  case first =>
    go_region_with (first
      | (go_at_call 12; refine (eqLabels_same _ _ _ _ _ _ _ z0 _ (HXr.out.keep HBe.out) HOe.out.read).mono ?_; rintro e wf ⟨rfl, hbf⟩; have HBf := Lib.hid hbf; clear hbf)
      | (go_at_call 10; refine (toLabels_any L0 S0 p0 n0 c0 z0 _ HAr.out).mono ?_; rintro e we ⟨ge, rfl, hoe, hbe⟩; have HOe := Lib.hid hoe; have HBe := Lib.hid hbe; have rX := HXb.out.keep hbe; have rX0 := rX.c0; have rX1 := rX.c1; have rX2 := rX.c2; clear hoe hbe rX))
    all_goals (go_wp2_with fail; go_meet; exact ⟨rfl, step2 (step2 HDr.out HBe.out) HBf.out⟩)
  case rest =>
  clear qB0 qB1 qB2 qX0 qX1 qX2
  obtain ⟨rfl, hb11⟩ := hcut
  generalize wc = w11 at hb11 ⊢
  have qX := ((((hkX.keep hb8).keep hb9).keep hb10).keep hb11)
  have qX0 := qX.c0
  have qX1 := qX.c1
  have qX2 := qX.c2
  clear qX
  go_wp2_with fail
  clear qX0 qX1 qX2
  refine (markLabels_in _ _ _ _ _ (z0) 1 _ _ _ hox (Since.below (Since.below (Since.below (Since.below (Since.below (Since.refl _ _ _) hb7 (Nat.le_refl _)) hb8 hb7.size) hb9 (Nat.le_trans hb7.size hb8.size)) hb10 (Nat.le_trans (Nat.le_trans hb7.size hb8.size) hb9.size)) hb11 (Nat.le_trans (Nat.le_trans (Nat.le_trans hb7.size hb8.size) hb9.size) hb10.size)) (by omega) (by omega)).mono ?_
  rintro e w12 ⟨rfl, hin12, hmx⟩
  have qR := (((((((hkR.keep hb6).keep hb7).keep hb8).keep hb9).keep hb10).keep hb11).within hin12 (.inl (Nat.lt_of_lt_of_le hkR.lt (Nat.le_refl _))))
  have qR0 := qR.c0
  have qR1 := qR.c1
  have qR2 := qR.c2
  clear qR
  have qG := (((hkG.keep hb10).keep hb11).within hin12 (.inr (Nat.le_trans hb7.size hb8.size)))
  have qG0 := qG.c0
  have qG1 := qG.c1
  have qG2 := qG.c2
  clear qG
  go_wp2_with fail
  clear qR0 qR1 qR2 qG0 qG1 qG2
  refine (eqLabels_same _ _ _ _ _ _ _ (splX L0 S0 z0 a1 a2) _ (hoG.since (Since.newer (Since.below (Since.below (Since.below (Since.refl _ _ _) hb9 (Nat.le_refl _)) hb10 hb9.size) hb11 (Nat.le_trans hb9.size hb10.size)) hin12 hb7.size (Nat.le_trans (Nat.le_trans hb9.size hb10.size) hb11.size))).read (hoR.since (Since.older (Since.below (Since.below (Since.below (Since.below (Since.below (Since.below (Since.below (Since.refl _ _ _) hb5 (Nat.le_refl _)) hb6 hb5.size) hb7 (Nat.le_trans hb5.size hb6.size)) hb8 (Nat.le_trans (Nat.le_trans hb5.size hb6.size) hb7.size)) hb9 (Nat.le_trans (Nat.le_trans (Nat.le_trans hb5.size hb6.size) hb7.size) hb8.size)) hb10 (Nat.le_trans (Nat.le_trans (Nat.le_trans (Nat.le_trans hb5.size hb6.size) hb7.size) hb8.size) hb9.size)) hb11 (Nat.le_trans (Nat.le_trans (Nat.le_trans (Nat.le_trans (Nat.le_trans hb5.size hb6.size) hb7.size) hb8.size) hb9.size) hb10.size)) hin12 hb5.size (Nat.le_trans (Nat.le_trans (Nat.le_trans (Nat.le_trans (Nat.le_trans (Nat.le_trans hb5.size hb6.size) hb7.size) hb8.size) hb9.size) hb10.size) hb11.size))).read).mono ?_
  rintro e w13 ⟨rfl, hb13⟩
  have qG := ((((hkG.keep hb10).keep hb11).within hin12 (.inr (Nat.le_trans hb7.size hb8.size))).keep hb13)
  have qG0 := qG.c0
  have qG1 := qG.c1
  have qG2 := qG.c2
  clear qG
  go_wp2_with fail
  clear qG0 qG1 qG2
  refine (markLabels_in _ _ _ _ _ (splX L0 S0 z0 a1 a2) 1 _ _ _ hoG (Since.below (Since.newer (Since.below (Since.below (Since.below (Since.refl _ _ _) hb9 (Nat.le_refl _)) hb10 hb9.size) hb11 (Nat.le_trans hb9.size hb10.size)) hin12 hb7.size (Nat.le_trans (Nat.le_trans hb9.size hb10.size) hb11.size)) hb13 (Nat.le_trans (Nat.le_trans (Nat.le_trans hb9.size hb10.size) hb11.size) hin12.size)) (by omega) (by omega)).mono ?_
  rintro e w14 ⟨rfl, hin14, hmG⟩
  have qG := (((((hkG.keep hb10).keep hb11).within hin12 (.inr (Nat.le_trans hb7.size hb8.size))).keep hb13).within hin14 (.inr (Nat.le_refl _)))
  have qG0 := qG.c0
  have qG1 := qG.c1
  have qG2 := qG.c2
  clear qG
  go_wp2_with fail
  clear qG0 qG1 qG2
  refine (heldLabels_any _ _ _ _ _ 1 _ hmG.read (by omega) (by omega)).mono ?_
  rintro e w15 ⟨rfl, hb15⟩
  have qbox := ((((((((((((((kbox.keep hb2).keep hb3).keep hb4).keep hb5).keep hb6).keep hb7).keep hb8).keep hb9).keep hb10).keep hb11).within hin12 (.inl (Nat.lt_of_lt_of_le kbox.lt (Nat.le_trans (Nat.le_trans (Nat.le_trans hb2.size hb3.size) hb4.size) hb5.size)))).keep hb13).within hin14 (.inl (Nat.lt_of_lt_of_le kbox.lt (Nat.le_trans (Nat.le_trans (Nat.le_trans (Nat.le_trans (Nat.le_trans hb2.size hb3.size) hb4.size) hb5.size) hb6.size) hb7.size)))).keep hb15)
  have qbox0 := qbox.c0
  have qbox1 := qbox.c1
  have qbox2 := qbox.c2
  clear qbox
  go_wp2_with fail
  clear qbox0 qbox1 qbox2
  refine (toLabels_any L0 S0 p0 n0 c0 z0 _ (I0.out.keep (step2 (Below.past (step2 (Below.past (step2 (step2 (step2 (step2 (step2 (step2 (step2 (step2 (step2 hb2 hb3) hb4) hb5) hb6) hb7) hb8) hb9) hb10) hb11) hin12 (Nat.le_trans (Nat.le_trans (Nat.le_trans (Nat.le_trans (Nat.le_trans hb6.size hb7.size) hb8.size) hb9.size) hb10.size) hb11.size) (Nat.le_trans (Nat.le_trans (Nat.le_trans hb2.size hb3.size) hb4.size) hb5.size)) hb13) hin14 (Nat.le_trans (Nat.le_trans (Nat.le_trans (Nat.le_trans (Nat.le_trans hb8.size hb9.size) hb10.size) hb11.size) hin12.size) hb13.size) (Nat.le_trans (Nat.le_trans (Nat.le_trans (Nat.le_trans (Nat.le_trans hb2.size hb3.size) hb4.size) hb5.size) hb6.size) hb7.size)) hb15))).mono ?_
  rintro e w16 ⟨gy, rfl, hoy, hb16⟩
  go_wp2_with fail
  refine (iSplitState_any L0 S0 (some ⟨gy, 0, none⟩) n0 n0 z0 a1 a2 _ hoy.read).mono ?_
  rintro e w17 ⟨vH, rfl, hpH, hb17⟩
  obtain ⟨aH, cH, rfl, _⟩ := hpH.form
  have hoH : OArcs _ w16.heap.size _ (splX L0 S0 z0 a1 a2).length (splX L0 S0 z0 a1 a2) := hpH
  clear hpH
  have hkH := Blk.new w17 28 #[.int .i64 (splL L0 S0 z0 a1 a2), .int .i64 (splS L0 S0 z0 a1 a2), .slice aH (splX L0 S0 z0 a1 a2).length cH]
  have hb18 := below1 w17 (.cells #[.int .i64 (splL L0 S0 z0 a1 a2), .int .i64 (splS L0 S0 z0 a1 a2), .slice aH (splX L0 S0 z0 a1 a2).length cH] 28)
  have qR := (((((((((((((hkR.keep hb6).keep hb7).keep hb8).keep hb9).keep hb10).keep hb11).within hin12 (.inl (Nat.lt_of_lt_of_le hkR.lt (Nat.le_refl _)))).keep hb13).within hin14 (.inl (Nat.lt_of_lt_of_le hkR.lt (Nat.le_trans hb6.size hb7.size)))).keep hb15).keep hb16).keep hb17).keep hb18)
  have qR0 := qR.c0
  have qR1 := qR.c1
  have qR2 := qR.c2
  clear qR
  go_wp2_with fail
  clear qR0 qR1 qR2
  generalize w17.alloc (.cells #[.int .i64 (splL L0 S0 z0 a1 a2), .int .i64 (splS L0 S0 z0 a1 a2), .slice aH (splX L0 S0 z0 a1 a2).length cH] 28) = w18 at hkH hb18 ⊢
  refine (eqLabels_same _ _ _ _ _ _ _ (splX L0 S0 z0 a1 a2) _ (hoH.since (Since.below (Since.refl _ _ _) hb18 (Nat.le_refl _))).read (hoR.since (Since.below (Since.below (Since.below (Since.below (Since.older (Since.below (Since.older (Since.below (Since.below (Since.below (Since.below (Since.below (Since.below (Since.below (Since.refl _ _ _) hb5 (Nat.le_refl _)) hb6 hb5.size) hb7 (Nat.le_trans hb5.size hb6.size)) hb8 (Nat.le_trans (Nat.le_trans hb5.size hb6.size) hb7.size)) hb9 (Nat.le_trans (Nat.le_trans (Nat.le_trans hb5.size hb6.size) hb7.size) hb8.size)) hb10 (Nat.le_trans (Nat.le_trans (Nat.le_trans (Nat.le_trans hb5.size hb6.size) hb7.size) hb8.size) hb9.size)) hb11 (Nat.le_trans (Nat.le_trans (Nat.le_trans (Nat.le_trans (Nat.le_trans hb5.size hb6.size) hb7.size) hb8.size) hb9.size) hb10.size)) hin12 hb5.size (Nat.le_trans (Nat.le_trans (Nat.le_trans (Nat.le_trans (Nat.le_trans (Nat.le_trans hb5.size hb6.size) hb7.size) hb8.size) hb9.size) hb10.size) hb11.size)) hb13 (Nat.le_trans (Nat.le_trans (Nat.le_trans (Nat.le_trans (Nat.le_trans (Nat.le_trans (Nat.le_trans hb5.size hb6.size) hb7.size) hb8.size) hb9.size) hb10.size) hb11.size) hin12.size)) hin14 (Nat.le_trans (Nat.le_trans hb5.size hb6.size) hb7.size) (Nat.le_trans (Nat.le_trans (Nat.le_trans (Nat.le_trans (Nat.le_trans (Nat.le_trans (Nat.le_trans (Nat.le_trans hb5.size hb6.size) hb7.size) hb8.size) hb9.size) hb10.size) hb11.size) hin12.size) hb13.size)) hb15 (Nat.le_trans (Nat.le_trans (Nat.le_trans (Nat.le_trans (Nat.le_trans (Nat.le_trans (Nat.le_trans (Nat.le_trans (Nat.le_trans hb5.size hb6.size) hb7.size) hb8.size) hb9.size) hb10.size) hb11.size) hin12.size) hb13.size) hin14.size)) hb16 (Nat.le_trans (Nat.le_trans (Nat.le_trans (Nat.le_trans (Nat.le_trans (Nat.le_trans (Nat.le_trans (Nat.le_trans (Nat.le_trans (Nat.le_trans hb5.size hb6.size) hb7.size) hb8.size) hb9.size) hb10.size) hb11.size) hin12.size) hb13.size) hin14.size) hb15.size)) hb17 (Nat.le_trans (Nat.le_trans (Nat.le_trans (Nat.le_trans (Nat.le_trans (Nat.le_trans (Nat.le_trans (Nat.le_trans (Nat.le_trans (Nat.le_trans (Nat.le_trans hb5.size hb6.size) hb7.size) hb8.size) hb9.size) hb10.size) hb11.size) hin12.size) hb13.size) hin14.size) hb15.size) hb16.size)) hb18 (Nat.le_trans (Nat.le_trans (Nat.le_trans (Nat.le_trans (Nat.le_trans (Nat.le_trans (Nat.le_trans (Nat.le_trans (Nat.le_trans (Nat.le_trans (Nat.le_trans (Nat.le_trans hb5.size hb6.size) hb7.size) hb8.size) hb9.size) hb10.size) hb11.size) hin12.size) hb13.size) hin14.size) hb15.size) hb16.size) hb17.size))).read).mono ?_
  rintro e w19 ⟨rfl, hb19⟩
  have qG := ((((((((((hkG.keep hb10).keep hb11).within hin12 (.inr (Nat.le_trans hb7.size hb8.size))).keep hb13).within hin14 (.inr (Nat.le_refl _))).keep hb15).keep hb16).keep hb17).keep hb18).keep hb19)
  have qG0 := qG.c0
  have qG1 := qG.c1
  have qG2 := qG.c2
  clear qG
  go_wp2_with fail
  clear qG0 qG1 qG2
  refine (heldLabels_any _ _ _ _ _ 1 _ (hmG.since (Since.below (Since.below (Since.below (Since.below (Since.below (Since.refl _ _ _) hb15 (Nat.le_refl _)) hb16 hb15.size) hb17 (Nat.le_trans hb15.size hb16.size)) hb18 (Nat.le_trans (Nat.le_trans hb15.size hb16.size) hb17.size)) hb19 (Nat.le_trans (Nat.le_trans (Nat.le_trans hb15.size hb16.size) hb17.size) hb18.size))).read (by omega) (by omega)).mono ?_
  rintro e w20 ⟨rfl, hb20⟩
  go_wp2_with fail
  go_ret
  exact ⟨rfl, (step2 (step2 (step2 (step2 (step2 (step2 (Below.past (step2 (Below.past (step2 (step2 (step2 (step2 (step2 (step2 (step2 (step2 (step2 (step2 hb1 hb2) hb3) hb4) hb5) hb6) hb7) hb8) hb9) hb10) hb11) hin12 (Nat.le_trans (Nat.le_trans (Nat.le_trans (Nat.le_trans (Nat.le_trans hb6.size hb7.size) hb8.size) hb9.size) hb10.size) hb11.size) (Nat.le_trans (Nat.le_trans (Nat.le_trans (Nat.le_trans hb1.size hb2.size) hb3.size) hb4.size) hb5.size)) hb13) hin14 (Nat.le_trans (Nat.le_trans (Nat.le_trans (Nat.le_trans (Nat.le_trans hb8.size hb9.size) hb10.size) hb11.size) hin12.size) hb13.size) (Nat.le_trans (Nat.le_trans (Nat.le_trans (Nat.le_trans (Nat.le_trans (Nat.le_trans hb1.size hb2.size) hb3.size) hb4.size) hb5.size) hb6.size) hb7.size)) hb15) hb16) hb17) hb18) hb19) hb20)⟩

namespace fnExactSplitState
open Go.ChangeShapes Go.WideShapes Go.ChangeAt
open Go.ChangeMaps (open_string shut_string)
set_option maxRecDepth 100000 in
theorem lifted (os : Os) (started : os.Started) (H : Type) (enc : TypeId × Value → H) :
    ReturnsInHanded {} Try.checked os 3 .any (Rows.fnExactSplitStateSpec.pre6 enc Try.prog Try.f3 Rows.fnExactSplitStateRow.domain false) (Rows.fnExactSplitStateSpec.post enc Try.prog Try.f3 false true false false) := by
  refine returnsInHanded_of_change (C := Try.checked) ownKnobNone started (by kernel_rfl) Try.func3
    (ChangeSpec.witness6 (enc := enc) (C := Try.checked) false ⟨#[], #[.agg #[.int .i64 0, .int .i64 0, .slice none 0 0], .int .i64 0, .int .i64 0], []⟩ 8 (by kernel_rfl) (by kernel_rfl) (by kernel_rfl) (by kernel_rfl)) ?_
  intro W base args ds gs before hval0 hW hcnd _
  have hval : ∀ (j : Nat) t v, Try.f3.params[j]? = some t → args[j]? = some v → Value.okWide Try.prog W .any base t v := hval0
  have hW' := hW
  obtain ⟨p, q, hA0, hV, rfl, hfz, hnd⟩ := hW
  have hA : DataW.TrodAll enc Try.prog W 0 (fun _ => true) true Try.f3.params.toList args.toList ds p := hA0
  rw [Try.params3] at hA hval
  obtain ⟨v0, vs0, d0, ds0, p0, q0, hargs, rfl, rfl, h0, r0⟩ := trodAll_cons hA
  obtain ⟨v1, vs1, d1, ds1, p1, q1, rfl, rfl, rfl, h1, r1⟩ := trodAll_cons r0
  obtain ⟨v2, vs2, d2, ds2, p2, q2, rfl, rfl, rfl, h2, r2⟩ := trodAll_cons r1
  obtain ⟨rfl, rfl, rfl⟩ := trodAll_nil r2
  obtain rfl : args = #[v0, v1, v2] := by cases args; simp_all
  obtain ⟨rfl, rfl⟩ := trodVars_none hV
  obtain ⟨L0, S0, a0, len0, cap0, z0, rfl, w0⟩ := open_labIn (hval 0 24 v0 rfl rfl) h0
  have k0 := h0
  have lt0 : ∀ x ∈ p0, x.block < W.heap.size := by obtain ⟨m, hm⟩ := k0; exact DataW.trod_lt m _ _ _ hm
  obtain ⟨a1, rfl, rfl, rfl, w1⟩ := open_int Try.underlying3 (hval 1 3 v1 rfl rfl) h1
  obtain ⟨a2, rfl, rfl, rfl, w2⟩ := open_int Try.underlying3 (hval 2 3 v2 rfl rfl) h2
  clear hA0 hval0
  refine (fnExactSplitState_walk L0 S0 a0 len0 cap0 z0 a1 a2 W w0 w1 w2).mono fun e W' ⟨he, bel⟩ => ?_
  subst he
  exact ⟨_, rfl, _, _, _, [], _, [], hW', trodAll_mk1 (shut_bool Try.underlying4 _), (trodAll_cons_mk (Below.trod laidOutYes (by kernel_rfl) (of_decide_eq_true (by kernel_rfl)) k0 bel lt0) (trodAll_cons_mk (shut_int Try.underlying3 w1) (trodAll_cons_mk (shut_int Try.underlying3 w2) trodAll_mk0))), rfl, bel.frame _, fun h => by cases h⟩

theorem over : Rows.fnExactSplitStateRow.holds Try.pinned (OpenSpec.ofChange Rows.fnExactSplitStateSpec) :=
  OpenClaim.holds_of_wide 3 Try.f3 rfl rfl rfl rfl rfl rfl rfl ⟨rfl, rfl, rfl, rfl, rfl⟩ rfl rfl rfl rfl rfl (by kernel_rfl) Try.func3 (by kernel_rfl)
    (of_decide_eq_true (by kernel_rfl)) (by unfold Func.isWrapper; first | (rw [if_pos (by decide +kernel)]; kernel_rfl) | (rw [if_neg (by decide +kernel)]; exact ⟨rfl, rfl⟩))
    (fun os started H enc _ => lifted os started H enc)

theorem proved : Rows.FnExactSplitStateSaid := over
end fnExactSplitState

#print axioms fnExactSplitState.proved
end Go.Proofs.Ytobmljclokmbcaa
