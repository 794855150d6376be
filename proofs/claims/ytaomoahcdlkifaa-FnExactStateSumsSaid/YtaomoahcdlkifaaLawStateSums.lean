/- Proved here: the law FnExactStateSums returns true at every input, leaves its argument as it was, and what the program returns shares no memory. No condition. -/
import Derived.Test.YtaomoahcdlkifaaRows
import Derived.Deep.RegionWith
import Derived.Test.YtaomoahcdlkifaaFrameLab
import Derived.Test.YtaomoahcdlkifaaLabLaw
import Derived.Test.YtaomoahcdlkifaaSSums
import Derived.Test.YtaomoahcdlkifaaISums
namespace Go.Proofs.Ytaomoahcdlkifaa
open Go.RowKit
set_option linter.all false
theorem stSums_len (L S : Int) (xs : List Ar) : (stSums L S xs).length ≤ 12 := by
  cases h : isLab L S xs
  · simp [stSums, h]
  · have := isLab_get h
    simp [stSums, h, sumsL_len]
    omega
set_option maxHeartbeats 6400000 in
set_option maxRecDepth 100000 in
theorem fnExactStateSums_walk (L0 S0 : Int) (p0 : Option Addr) (n0 c0 : Nat) (z0 : List Ar) (w : World) (h0 : LabIn w p0 n0 z0) :
    Calls Try.prog 5 #[.agg #[.int .i64 L0, .int .i64 S0, .slice p0 n0 c0]] w fun e w' => e = .returned (.bool true) ∧ Below w.heap.size w w' := by
  by_cases hbigL : 1048576 < n0
  · have hmx := h0.2.1
    clear h0
    go_enter Try.func5, Try.ntmps5
    go_wp2_with fail
    refine (szLabels_no L0 S0 1048576 p0 n0 c0 _ (by omega) (by omega) hmx (by omega)).mono ?_
    rintro e w' ⟨rfl, hb⟩
    go_wp2_with fail
    go_ret
    exact ⟨rfl, step2 (below1 _ _) hb⟩
  have hbnL : n0 ≤ 1048576 := by omega
  clear hbigL
  have I0 := Lib.hid ((h0.arcs (by omega)).keep (below1 w (.cells #[.int .i64 L0, .int .i64 S0, .slice p0 n0 c0] 34)))
  have kbox := Blk.new w 34 #[.int .i64 L0, .int .i64 S0, .slice p0 n0 c0]
  have hb1 := below1 w (.cells #[.int .i64 L0, .int .i64 S0, .slice p0 n0 c0] 34)
  clear h0
  have hq : (((1 : Int) + ((stSums L0 S0 z0).length : Int)) != ((1 : Int) + ((stSums L0 S0 z0).length : Int))) = false := by simp
  have heR := eqL_self (stSums L0 S0 z0)
  go_enter Try.func5, Try.ntmps5
  go_wp2_with fail
  generalize w.alloc (.cells #[.int .i64 L0, .int .i64 S0, .slice p0 n0 c0] 34) = w1 at I0 kbox hb1 ⊢
  refine (szLabels_ok L0 S0 1048576 p0 n0 c0 _ (by omega) (by omega)).mono ?_
  rintro e w2 ⟨rfl, hb2⟩
  have hszv : decide ((1048576 : Int) - (n0 : Int) < 0) = false := decide_eq_false (by omega)
  have qbox := (kbox.keep hb2)
  have qbox0 := qbox.c0
  have qbox1 := qbox.c1
  have qbox2 := qbox.c2
  clear qbox
  go_wp2_with fail
  clear qbox0 qbox1 qbox2
  refine (toLabels_any L0 S0 p0 n0 c0 z0 _ (I0.out.keep hb2)).mono ?_
  rintro e w3 ⟨gs, rfl, hos, hb3⟩
  go_wp2_with fail
  refine (sStateSums_any L0 S0 (some ⟨gs, 0, none⟩) n0 n0 z0 _ hos.read).mono ?_
  rintro e w4 ⟨vR, rfl, hpR, hb4⟩
  obtain ⟨aR, cR, rfl, _⟩ := hpR.form
  have hoR : OInts _ w3.heap.size _ (stSums L0 S0 z0).length (stSums L0 S0 z0) := hpR
  clear hpR
  have qbox := (((kbox.keep hb2).keep hb3).keep hb4)
  have qbox0 := qbox.c0
  have qbox1 := qbox.c1
  have qbox2 := qbox.c2
  clear qbox
  go_wp2_with fail
  clear qbox0 qbox1 qbox2
  refine (toLabels_any L0 S0 p0 n0 c0 z0 _ (I0.out.keep (step2 (step2 hb2 hb3) hb4))).mono ?_
  rintro e w5 ⟨gx, rfl, hox, hb5⟩
  have hkX := Blk.new w5 26 #[.int .i64 L0, .int .i64 S0, .slice (some ⟨gx, 0, none⟩) n0 n0]
  have hb6 := below1 w5 (.cells #[.int .i64 L0, .int .i64 S0, .slice (some ⟨gx, 0, none⟩) n0 n0] 26)
  go_wp2_with fail
  generalize w5.alloc (.cells #[.int .i64 L0, .int .i64 S0, .slice (some ⟨gx, 0, none⟩) n0 n0] 26) = w6 at hkX hb6 ⊢
  refine (iStateSums_any L0 S0 (some ⟨gx, 0, none⟩) n0 n0 z0 _ (hox.since (Since.below (Since.refl _ _ _) hb6 (Nat.le_refl _))).read).mono ?_
  rintro e w7 ⟨vG, rfl, hpG, hb7⟩
  obtain ⟨aG, cG, rfl, _⟩ := hpG.form
  have hoG : OInts _ w6.heap.size _ (stSums L0 S0 z0).length (stSums L0 S0 z0) := hpG
  clear hpG
  go_wp2_with fail
  refine (ofD (eqIntS_any _ _ _ (stSums L0 S0 z0) _ _ _ (stSums L0 S0 z0) _ hoG.read (hoR.since (Since.below (Since.below (Since.below (Since.refl _ _ _) hb5 (Nat.le_refl _)) hb6 hb5.size) hb7 (Nat.le_trans hb5.size hb6.size))).read)).mono ?_
  rintro e w8 ⟨rfl, hb8⟩
  go_wp2_with fail
  have HXb := Lib.hid (((hkX.keep hb7).keep hb8).drewN 1)
  have HXr := Lib.hid ((hox.since (Since.below (Since.below (Since.below (Since.refl _ _ _) hb6 (Nat.le_refl _)) hb7 hb6.size) hb8 (Nat.le_trans hb6.size hb7.size))).read.drewN 1)
  have HAr := Lib.hid (Arcs.drewN (I0.out.keep (step2 (step2 (step2 (step2 (step2 (step2 hb2 hb3) hb4) hb5) hb6) hb7) hb8)) 1)
  have HDr : Hid (Below w8.heap.size w8 w8.drew) := below_drewN (Below.refl _ _) 1
  have qB := (((((((kbox.keep hb2).keep hb3).keep hb4).keep hb5).keep hb6).keep hb7).keep hb8).drewN 1
  have qX := HXb.out
  have qB0 : w8.drew.cell? _ = _ := qB.c0
  have qB1 : w8.drew.cell? _ = _ := qB.c1
  have qB2 : w8.drew.cell? _ = _ := qB.c2
  have qX0 : w8.drew.cell? _ = _ := qX.c0
  have qX1 : w8.drew.cell? _ = _ := qX.c1
  have qX2 : w8.drew.cell? _ = _ := qX.c2
  clear qB qX
  go_cut [31] (fun v wx => v = .bool false ∧ Below w8.heap.size w8 wx)
  case first =>
    go_region_with (first
      | (go_at_call 16; refine (eqLabels_same _ _ _ _ _ _ _ z0 _ (HXr.out.keep HBe.out) HOe.out.read).mono ?_; rintro e wf ⟨rfl, hbf⟩; have HBf := Lib.hid hbf; clear hbf)
      | (go_at_call 21; refine (toLabels_any L0 S0 p0 n0 c0 z0 _ HAr.out).mono ?_; rintro e we ⟨ge, rfl, hoe, hbe⟩; have HOe := Lib.hid hoe; have HBe := Lib.hid hbe; have rX := HXb.out.keep hbe; have rX0 := rX.c0; have rX1 := rX.c1; have rX2 := rX.c2; clear hoe hbe rX))
    all_goals (go_wp2_with fail; go_meet; exact ⟨rfl, step2 (step2 HDr.out HBe.out) HBf.out⟩)
  case rest =>
  clear qB0 qB1 qB2 qX0 qX1 qX2
  obtain ⟨rfl, hb9⟩ := hcut
  generalize wc = w9 at hb9 ⊢
  have qX := (((hkX.keep hb7).keep hb8).keep hb9)
  have qX0 := qX.c0
  have qX1 := qX.c1
  have qX2 := qX.c2
  clear qX
  go_wp2_with fail
  clear qX0 qX1 qX2
  refine (markLabels_in _ _ _ _ _ (z0) 1 _ _ _ hox (Since.below (Since.below (Since.below (Since.below (Since.refl _ _ _) hb6 (Nat.le_refl _)) hb7 hb6.size) hb8 (Nat.le_trans hb6.size hb7.size)) hb9 (Nat.le_trans (Nat.le_trans hb6.size hb7.size) hb8.size)) (by omega) (by omega)).mono ?_
  rintro e w10 ⟨rfl, hin10, hmx⟩
  go_wp2_with fail
  refine (ofD (eqIntS_any _ _ _ (stSums L0 S0 z0) _ _ _ (stSums L0 S0 z0) _ (hoG.since (Since.newer (Since.below (Since.below (Since.refl _ _ _) hb8 (Nat.le_refl _)) hb9 hb8.size) hin10 hb6.size (Nat.le_trans hb8.size hb9.size))).read (hoR.since (Since.older (Since.below (Since.below (Since.below (Since.below (Since.below (Since.refl _ _ _) hb5 (Nat.le_refl _)) hb6 hb5.size) hb7 (Nat.le_trans hb5.size hb6.size)) hb8 (Nat.le_trans (Nat.le_trans hb5.size hb6.size) hb7.size)) hb9 (Nat.le_trans (Nat.le_trans (Nat.le_trans hb5.size hb6.size) hb7.size) hb8.size)) hin10 (Nat.le_refl _) (Nat.le_trans (Nat.le_trans (Nat.le_trans (Nat.le_trans hb5.size hb6.size) hb7.size) hb8.size) hb9.size))).read)).mono ?_
  rintro e w11 ⟨rfl, hb11⟩
  go_wp2_with fail
  refine (markIntS_in _ _ _ (stSums L0 S0 z0) 1 _ _ _ hoG (Since.below (Since.newer (Since.below (Since.below (Since.refl _ _ _) hb8 (Nat.le_refl _)) hb9 hb8.size) hin10 hb6.size (Nat.le_trans hb8.size hb9.size)) hb11 (Nat.le_trans (Nat.le_trans hb8.size hb9.size) hin10.size)) (by omega) (by omega)).mono ?_
  rintro e w12 ⟨rfl, hin12, hmG⟩
  go_wp2_with fail
  refine (ofD (heldIntS_any _ _ _ 1 _ hmG.read (by omega) (by omega))).mono ?_
  rintro e w13 ⟨rfl, hb13⟩
  have qbox := ((((((((((((kbox.keep hb2).keep hb3).keep hb4).keep hb5).keep hb6).keep hb7).keep hb8).keep hb9).within hin10 (.inl (Nat.lt_of_lt_of_le kbox.lt (Nat.le_trans (Nat.le_trans hb2.size hb3.size) hb4.size)))).keep hb11).within hin12 (.inl (Nat.lt_of_lt_of_le kbox.lt (Nat.le_trans (Nat.le_trans (Nat.le_trans (Nat.le_trans hb2.size hb3.size) hb4.size) hb5.size) hb6.size)))).keep hb13)
  have qbox0 := qbox.c0
  have qbox1 := qbox.c1
  have qbox2 := qbox.c2
  clear qbox
  go_wp2_with fail
  clear qbox0 qbox1 qbox2
  refine (toLabels_any L0 S0 p0 n0 c0 z0 _ (I0.out.keep (step2 (Below.past (step2 (Below.past (step2 (step2 (step2 (step2 (step2 (step2 (step2 hb2 hb3) hb4) hb5) hb6) hb7) hb8) hb9) hin10 (Nat.le_trans (Nat.le_trans (Nat.le_trans (Nat.le_trans hb5.size hb6.size) hb7.size) hb8.size) hb9.size) (Nat.le_trans (Nat.le_trans hb2.size hb3.size) hb4.size)) hb11) hin12 (Nat.le_trans (Nat.le_trans (Nat.le_trans (Nat.le_trans hb7.size hb8.size) hb9.size) hin10.size) hb11.size) (Nat.le_trans (Nat.le_trans (Nat.le_trans (Nat.le_trans hb2.size hb3.size) hb4.size) hb5.size) hb6.size)) hb13))).mono ?_
  rintro e w14 ⟨gy, rfl, hoy, hb14⟩
  go_wp2_with fail
  refine (iStateSums_any L0 S0 (some ⟨gy, 0, none⟩) n0 n0 z0 _ hoy.read).mono ?_
  rintro e w15 ⟨vH, rfl, hpH, hb15⟩
  obtain ⟨aH, cH, rfl, _⟩ := hpH.form
  have hoH : OInts _ w14.heap.size _ (stSums L0 S0 z0).length (stSums L0 S0 z0) := hpH
  clear hpH
  go_wp2_with fail
  refine (ofD (eqIntS_any _ _ _ (stSums L0 S0 z0) _ _ _ (stSums L0 S0 z0) _ hoH.read (hoR.since (Since.below (Since.below (Since.below (Since.older (Since.below (Since.older (Since.below (Since.below (Since.below (Since.below (Since.below (Since.refl _ _ _) hb5 (Nat.le_refl _)) hb6 hb5.size) hb7 (Nat.le_trans hb5.size hb6.size)) hb8 (Nat.le_trans (Nat.le_trans hb5.size hb6.size) hb7.size)) hb9 (Nat.le_trans (Nat.le_trans (Nat.le_trans hb5.size hb6.size) hb7.size) hb8.size)) hin10 (Nat.le_refl _) (Nat.le_trans (Nat.le_trans (Nat.le_trans (Nat.le_trans hb5.size hb6.size) hb7.size) hb8.size) hb9.size)) hb11 (Nat.le_trans (Nat.le_trans (Nat.le_trans (Nat.le_trans (Nat.le_trans hb5.size hb6.size) hb7.size) hb8.size) hb9.size) hin10.size)) hin12 (Nat.le_trans hb5.size hb6.size) (Nat.le_trans (Nat.le_trans (Nat.le_trans (Nat.le_trans (Nat.le_trans (Nat.le_trans hb5.size hb6.size) hb7.size) hb8.size) hb9.size) hin10.size) hb11.size)) hb13 (Nat.le_trans (Nat.le_trans (Nat.le_trans (Nat.le_trans (Nat.le_trans (Nat.le_trans (Nat.le_trans hb5.size hb6.size) hb7.size) hb8.size) hb9.size) hin10.size) hb11.size) hin12.size)) hb14 (Nat.le_trans (Nat.le_trans (Nat.le_trans (Nat.le_trans (Nat.le_trans (Nat.le_trans (Nat.le_trans (Nat.le_trans hb5.size hb6.size) hb7.size) hb8.size) hb9.size) hin10.size) hb11.size) hin12.size) hb13.size)) hb15 (Nat.le_trans (Nat.le_trans (Nat.le_trans (Nat.le_trans (Nat.le_trans (Nat.le_trans (Nat.le_trans (Nat.le_trans (Nat.le_trans hb5.size hb6.size) hb7.size) hb8.size) hb9.size) hin10.size) hb11.size) hin12.size) hb13.size) hb14.size))).read)).mono ?_
  rintro e w16 ⟨rfl, hb16⟩
  go_wp2_with fail
  refine (ofD (heldIntS_any _ _ _ 1 _ (hmG.since (Since.below (Since.below (Since.below (Since.below (Since.refl _ _ _) hb13 (Nat.le_refl _)) hb14 hb13.size) hb15 (Nat.le_trans hb13.size hb14.size)) hb16 (Nat.le_trans (Nat.le_trans hb13.size hb14.size) hb15.size))).read (by omega) (by omega))).mono ?_
  rintro e w17 ⟨rfl, hb17⟩
  go_wp2_with fail
  go_ret
  exact ⟨rfl, (step2 (step2 (step2 (step2 (step2 (Below.past (step2 (Below.past (step2 (step2 (step2 (step2 (step2 (step2 (step2 (step2 hb1 hb2) hb3) hb4) hb5) hb6) hb7) hb8) hb9) hin10 (Nat.le_trans (Nat.le_trans (Nat.le_trans (Nat.le_trans hb5.size hb6.size) hb7.size) hb8.size) hb9.size) (Nat.le_trans (Nat.le_trans (Nat.le_trans hb1.size hb2.size) hb3.size) hb4.size)) hb11) hin12 (Nat.le_trans (Nat.le_trans (Nat.le_trans (Nat.le_trans hb7.size hb8.size) hb9.size) hin10.size) hb11.size) (Nat.le_trans (Nat.le_trans (Nat.le_trans (Nat.le_trans (Nat.le_trans hb1.size hb2.size) hb3.size) hb4.size) hb5.size) hb6.size)) hb13) hb14) hb15) hb16) hb17)⟩

namespace fnExactStateSums
open Go.ChangeShapes Go.WideShapes Go.ChangeAt
open Go.ChangeMaps (open_string shut_string)
set_option maxRecDepth 100000 in
theorem lifted (os : Os) (started : os.Started) (H : Type) (enc : TypeId × Value → H) :
    ReturnsInHanded {} Try.checked os 5 .any (Rows.fnExactStateSumsSpec.pre6 enc Try.prog Try.f5 Rows.fnExactStateSumsRow.domain false) (Rows.fnExactStateSumsSpec.post enc Try.prog Try.f5 false true false false) := by
  refine returnsInHanded_of_change (C := Try.checked) ownKnobNone started (by kernel_rfl) Try.func5
    (ChangeSpec.witness6 (enc := enc) (C := Try.checked) false ⟨#[], #[.agg #[.int .i64 0, .int .i64 0, .slice none 0 0]], []⟩ 8 (by kernel_rfl) (by kernel_rfl) (by kernel_rfl) (by kernel_rfl)) ?_
  intro W base args ds gs before hval0 hW hcnd _
  have hval : ∀ (j : Nat) t v, Try.f5.params[j]? = some t → args[j]? = some v → Value.okWide Try.prog W .any base t v := hval0
  have hW' := hW
  obtain ⟨p, q, hA0, hV, rfl, hfz, hnd⟩ := hW
  have hA : DataW.TrodAll enc Try.prog W 0 (fun _ => true) true Try.f5.params.toList args.toList ds p := hA0
  rw [Try.params5] at hA hval
  obtain ⟨v0, vs0, d0, ds0, p0, q0, hargs, rfl, rfl, h0, r0⟩ := trodAll_cons hA
  obtain ⟨rfl, rfl, rfl⟩ := trodAll_nil r0
  obtain rfl : args = #[v0] := by cases args; simp_all
  obtain ⟨rfl, rfl⟩ := trodVars_none hV
  obtain ⟨L0, S0, a0, len0, cap0, z0, rfl, w0⟩ := open_labIn (hval 0 34 v0 rfl rfl) h0
  have k0 := h0
  have lt0 : ∀ x ∈ p0, x.block < W.heap.size := by obtain ⟨m, hm⟩ := k0; exact DataW.trod_lt m _ _ _ hm
  clear hA0 hval0
  refine (fnExactStateSums_walk L0 S0 a0 len0 cap0 z0 W w0).mono fun e W' ⟨he, bel⟩ => ?_
  subst he
  exact ⟨_, rfl, _, _, _, [], _, [], hW', trodAll_mk1 (shut_bool Try.underlying4 _), (trodAll_cons_mk (Below.trod laidOutYes (by kernel_rfl) (of_decide_eq_true (by kernel_rfl)) k0 bel lt0) trodAll_mk0), rfl, bel.frame _, fun h => by cases h⟩

theorem over : Rows.fnExactStateSumsRow.holds Try.pinned (OpenSpec.ofChange Rows.fnExactStateSumsSpec) :=
  OpenClaim.holds_of_wide 5 Try.f5 rfl rfl rfl rfl rfl rfl rfl ⟨rfl, rfl, rfl, rfl, rfl⟩ rfl rfl rfl rfl rfl (by kernel_rfl) Try.func5 (by kernel_rfl)
    (of_decide_eq_true (by kernel_rfl)) (by unfold Func.isWrapper; first | (rw [if_pos (by decide +kernel)]; kernel_rfl) | (rw [if_neg (by decide +kernel)]; exact ⟨rfl, rfl⟩))
    (fun os started H enc _ => lifted os started H enc)

theorem proved : Rows.FnExactStateSumsSaid := over
end fnExactStateSums

#print axioms fnExactStateSums.proved
end Go.Proofs.Ytaomoahcdlkifaa
