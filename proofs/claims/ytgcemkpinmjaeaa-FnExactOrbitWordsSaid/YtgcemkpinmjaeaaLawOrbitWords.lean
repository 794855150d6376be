/- Proved here: the law FnExactOrbitWords returns true at every input, and leaves its arguments as they were. No condition. -/
import Derived.Test.YtgcemkpinmjaeaaRows
import Derived.HandedShaped
import Derived.Test.YtgcemkpinmjaeaaProg
import Derived.Test.YtgcemkpinmjaeaaShLaw
import Derived.Test.YtgcemkpinmjaeaaOrbW
import Derived.Test.YtgcemkpinmjaeaaOrbWS
import Derived.Test.YtgcemkpinmjaeaaLawKit
namespace Go.Proofs.Ytgcemkpinmjaeaa
open Go.RowKit
set_option linter.all false
set_option maxHeartbeats 12800000 in
set_option maxRecDepth 100000 in
theorem fnExactOrbitWords_walk (K0 : Int) (p0 : Option Addr) (n0 c0 : Nat) (z0 : List ByteArray) (a1 : Int) (w : World) (h0 : StrsIn w p0 n0 z0) (h1 : (Lit.int .i64 a1).wf = true) (hm : MaxM w) :
    Calls Try.prog 3 #[.agg #[.int .i64 K0, .slice p0 n0 c0], .int .i64 a1] w fun e w' => e = .returned (.bool true) ∧ Below w.heap.size w w' := by
  by_cases hz : szF z0 1048576 < 0
  · have hd : decide ((if szF z0 1048576 < 0 then -1 else szF z0 1048576) < 0) = true := by rw [if_pos hz]; decide
    have H0 := Lib.hid (h0.keep (below1 w (.cells #[.int .i64 K0, .slice p0 n0 c0] 24)))
    clear hz h0 h1
    go_enter Try.func3, Try.ntmps3
    go_wp2_with fail
    refine (szShift_any K0 p0 n0 c0 z0 _ H0.out).mono ?_
    rintro e w' ⟨rfl, hb⟩
    generalize (if szF z0 1048576 < 0 then -1 else szF z0 1048576) = q at hd ⊢
    go_wp2_with fail
    go_ret
    exact ⟨rfl, step2 (below1 _ _) hb⟩
  have hsz : 0 ≤ szF z0 1048576 := by omega
  have hget := szF_get hsz
  have hd : decide ((if szF z0 1048576 < 0 then -1 else szF z0 1048576) < 0) = false := by rw [if_neg hz]; exact decide_eq_false hz
  have hF : Hid (∀ f ∈ z0, f.size ≤ 1048576) := fun f hf => by have := hget.2 f hf; omega
  have hn : n0 ≤ 1099511627776 := by have := h0.1; omega
  have H0 := Lib.hid (h0.keep (below1 w (.cells #[.int .i64 K0, .slice p0 n0 c0] 24)))
  have I0 := Lib.hid (H0.out.strs hn)
  have kbox := Blk.new w 24 #[.int .i64 K0, .slice p0 n0 c0]
  have hb1 := below1 w (.cells #[.int .i64 K0, .slice p0 n0 c0] 24)
  clear hz h0 hsz hget hn h1
  have hq : (((1 : Int) + ((orbWV K0 z0 a1).length : Int)) != ((1 : Int) + ((orbWV K0 z0 a1).length : Int))) = false := by simp
  have hqn : decide ((1 : Int) + ((orbWV K0 z0 a1).length : Int) < 0) = false := decide_eq_false (by omega)
  have hkn : decide ((1 : Int) + (n0 : Int) < 0) = false := decide_eq_false (by omega)
  go_enter Try.func3, Try.ntmps3
  go_wp2_with fail
  generalize w.alloc (.cells #[.int .i64 K0, .slice p0 n0 c0] 24) = w1 at H0 I0 kbox hb1 ⊢
  refine (szShift_any K0 p0 n0 c0 z0 _ H0.out).mono ?_
  rintro e w2 ⟨rfl, hb2⟩
  generalize (if szF z0 1048576 < 0 then -1 else szF z0 1048576) = q at hd ⊢
  have qbox := (kbox.keep hb2)
  have qbox0 := qbox.cell 0
  have qbox1 := qbox.cell 1
  change _ = some _ at qbox0
  change _ = some _ at qbox1
  clear qbox
  go_wp2_with fail
  clear qbox0 qbox1
  refine (toShift_any K0 p0 n0 c0 z0 _ (I0.out.keep hb2)).mono ?_
  rintro e w3 ⟨gs, rfl, hos, hb3⟩
  go_wp2_with fail
  refine (sOrbitWords_any K0 (some ⟨gs, 0, none⟩) n0 n0 z0 a1 _ hos.read hF.out).mono ?_
  rintro e w4 ⟨vR, rfl, hpR, hb4⟩
  obtain ⟨aR, cR, rfl, _⟩ := hpR.form
  have hoR : OStrs _ w3.heap.size _ (orbWV K0 z0 a1).length (orbWV K0 z0 a1) := hpR
  clear hpR
  have qbox := (((kbox.keep hb2).keep hb3).keep hb4)
  have qbox0 := qbox.cell 0
  have qbox1 := qbox.cell 1
  change _ = some _ at qbox0
  change _ = some _ at qbox1
  clear qbox
  go_wp2_with fail
  clear qbox0 qbox1
  refine (toShift_any K0 p0 n0 c0 z0 _ (I0.out.keep (step2 (step2 hb2 hb3) hb4))).mono ?_
  rintro e w5 ⟨gx, rfl, hox, hb5⟩
  have hkX := Blk.new w5 27 #[.int .i64 K0, .slice (some ⟨gx, 0, none⟩) n0 n0]
  have hb6 := below1 w5 (.cells #[.int .i64 K0, .slice (some ⟨gx, 0, none⟩) n0 n0] 27)
  go_wp2_with fail
  generalize w5.alloc (.cells #[.int .i64 K0, .slice (some ⟨gx, 0, none⟩) n0 n0] 27) = w6 at hkX hb6 ⊢
  refine (iOrbitWords_any K0 (some ⟨gx, 0, none⟩) n0 n0 z0 a1 _ (hox.since (Since.below (Since.refl _ _ _) hb6 (Nat.le_refl _))).read hF.out (hm.keep (step2 (step2 (step2 (step2 (step2 hb1 hb2) hb3) hb4) hb5) hb6))).mono ?_
  rintro e w7 ⟨vG, rfl, hpG, hb7⟩
  obtain ⟨aG, cG, rfl, _⟩ := hpG.form
  have hoG : OStrs _ w6.heap.size _ (orbWV K0 z0 a1).length (orbWV K0 z0 a1) := hpG
  clear hpG
  go_wp2_with fail
  refine (ofD (eqStrS_same _ _ _ _ _ (orbWV K0 z0 a1) _ hoG.read (hoR.since (Since.below (Since.below (Since.below (Since.refl _ _ _) hb5 (Nat.le_refl _)) hb6 hb5.size) hb7 (Nat.le_trans hb5.size hb6.size))).read)).mono ?_
  rintro e w8 ⟨rfl, hb8⟩
  go_wp2_with fail
  have HXb := Lib.hid (((hkX.keep hb7).keep hb8).drewN 1)
  have HXr := Lib.hid ((hox.since (Since.below (Since.below (Since.below (Since.refl _ _ _) hb6 (Nat.le_refl _)) hb7 hb6.size) hb8 (Nat.le_trans hb6.size hb7.size))).read.drewN 1)
  have HAr := Lib.hid ((I0.out.keep (step2 (step2 (step2 (step2 (step2 (step2 hb2 hb3) hb4) hb5) hb6) hb7) hb8)).drewN 1)
  have HDr : Hid (Below w8.heap.size w8 w8.drew) := below_drewN (Below.refl _ _) 1
  have qB := (((((((kbox.keep hb2).keep hb3).keep hb4).keep hb5).keep hb6).keep hb7).keep hb8).drewN 1
  have qX := HXb.out
  have qB0 : w8.drew.cell? _ = some (.int .i64 K0) := qB.cell 0
  have qB1 : w8.drew.cell? _ = some (.slice p0 n0 c0) := qB.cell 1
  have qX0 : w8.drew.cell? _ = some (.int .i64 K0) := qX.cell 0
  have qX1 : w8.drew.cell? _ = some (.slice (some ⟨gx, 0, none⟩) n0 n0) := qX.cell 1
  clear qB qX
  go_cut [35] (fun v wx => v = .bool false ∧ Below w8.heap.size w8 wx)
  case first =>
    go_region_with (first
      | (go_at_call 12; refine (eqShift_same _ _ _ _ _ _ z0 _ (HXr.out.keep HBe.out) HOe.out.read).mono ?_; rintro e wf ⟨rfl, hbf⟩; have HBf := Lib.hid hbf; clear hbf)
      | (go_at_call 9; refine (toShift_any K0 p0 n0 c0 z0 _ HAr.out).mono ?_; rintro e we ⟨ge, rfl, hoe, hbe⟩; have HOe := Lib.hid hoe; have HBe := Lib.hid hbe; have rX := HXb.out.keep hbe; have rX0 : we.cell? _ = some (.int .i64 K0) := rX.cell 0; have rX1 : we.cell? _ = some (.slice (some ⟨gx, 0, none⟩) n0 n0) := rX.cell 1; clear hoe hbe rX))
    all_goals (go_wp2_with fail; go_meet; exact ⟨rfl, step2 (step2 HDr.out HBe.out) HBf.out⟩)
  case rest =>
  clear qB0 qB1 qX0 qX1
  obtain ⟨rfl, hb9⟩ := hcut
  generalize wc = w9 at hb9 ⊢
  have qX := (((hkX.keep hb7).keep hb8).keep hb9)
  have qX0 := qX.cell 0
  have qX1 := qX.cell 1
  change _ = some _ at qX0
  change _ = some _ at qX1
  clear qX
  go_wp2_with fail
  clear qX0 qX1
  refine (markShift_in K0 _ _ _ z0 _ _ _ hox (Since.below (Since.below (Since.below (Since.below (Since.refl _ _ _) hb6 (Nat.le_refl _)) hb7 hb6.size) hb8 (Nat.le_trans hb6.size hb7.size)) hb9 (Nat.le_trans (Nat.le_trans hb6.size hb7.size) hb8.size))).mono ?_
  rintro e w10 ⟨rfl, hin10⟩
  go_wp2_with fail
  refine (ofD (eqStrS_same _ _ _ _ _ (orbWV K0 z0 a1) _ (hoG.since (Since.newer (Since.below (Since.below (Since.refl _ _ _) hb8 (Nat.le_refl _)) hb9 hb8.size) hin10 hb6.size (Nat.le_trans hb8.size hb9.size))).read (hoR.since (Since.older (Since.below (Since.below (Since.below (Since.below (Since.below (Since.refl _ _ _) hb5 (Nat.le_refl _)) hb6 hb5.size) hb7 (Nat.le_trans hb5.size hb6.size)) hb8 (Nat.le_trans (Nat.le_trans hb5.size hb6.size) hb7.size)) hb9 (Nat.le_trans (Nat.le_trans (Nat.le_trans hb5.size hb6.size) hb7.size) hb8.size)) hin10 (Nat.le_refl _) (Nat.le_trans (Nat.le_trans (Nat.le_trans (Nat.le_trans hb5.size hb6.size) hb7.size) hb8.size) hb9.size))).read)).mono ?_
  rintro e w11 ⟨rfl, hb11⟩
  go_wp2_with fail
  refine (markStrS_in _ _ _ (orbWV K0 z0 a1) _ _ _ hoG (Since.below (Since.newer (Since.below (Since.below (Since.refl _ _ _) hb8 (Nat.le_refl _)) hb9 hb8.size) hin10 hb6.size (Nat.le_trans hb8.size hb9.size)) hb11 (Nat.le_trans (Nat.le_trans hb8.size hb9.size) hin10.size))).mono ?_
  rintro e w12 ⟨rfl, hin12, hmG⟩
  go_wp2_with fail
  refine (heldStrS_any _ _ _ _ hmG.read).mono ?_
  rintro e w13 ⟨rfl, hb13⟩
  have qbox := ((((((((((((kbox.keep hb2).keep hb3).keep hb4).keep hb5).keep hb6).keep hb7).keep hb8).keep hb9).within hin10 (.inl (Nat.lt_of_lt_of_le kbox.lt (Nat.le_trans (Nat.le_trans hb2.size hb3.size) hb4.size)))).keep hb11).within hin12 (.inl (Nat.lt_of_lt_of_le kbox.lt (Nat.le_trans (Nat.le_trans (Nat.le_trans (Nat.le_trans hb2.size hb3.size) hb4.size) hb5.size) hb6.size)))).keep hb13)
  have qbox0 := qbox.cell 0
  have qbox1 := qbox.cell 1
  change _ = some _ at qbox0
  change _ = some _ at qbox1
  clear qbox
  go_wp2_with fail
  clear qbox0 qbox1
  refine (toShift_any K0 p0 n0 c0 z0 _ (I0.out.keep (step2 (Below.past (step2 (Below.past (step2 (step2 (step2 (step2 (step2 (step2 (step2 hb2 hb3) hb4) hb5) hb6) hb7) hb8) hb9) hin10 (Nat.le_trans (Nat.le_trans (Nat.le_trans (Nat.le_trans hb5.size hb6.size) hb7.size) hb8.size) hb9.size) (Nat.le_trans (Nat.le_trans hb2.size hb3.size) hb4.size)) hb11) hin12 (Nat.le_trans (Nat.le_trans (Nat.le_trans (Nat.le_trans hb7.size hb8.size) hb9.size) hin10.size) hb11.size) (Nat.le_trans (Nat.le_trans (Nat.le_trans (Nat.le_trans hb2.size hb3.size) hb4.size) hb5.size) hb6.size)) hb13))).mono ?_
  rintro e w14 ⟨gy, rfl, hoy, hb14⟩
  go_wp2_with fail
  refine (iOrbitWords_any K0 (some ⟨gy, 0, none⟩) n0 n0 z0 a1 _ hoy.read hF.out (hm.keep (step2 (step2 (Below.past (step2 (Below.past (step2 (step2 (step2 (step2 (step2 (step2 (step2 (step2 hb1 hb2) hb3) hb4) hb5) hb6) hb7) hb8) hb9) hin10 (Nat.le_trans (Nat.le_trans (Nat.le_trans (Nat.le_trans hb5.size hb6.size) hb7.size) hb8.size) hb9.size) (Nat.le_trans (Nat.le_trans (Nat.le_trans hb1.size hb2.size) hb3.size) hb4.size)) hb11) hin12 (Nat.le_trans (Nat.le_trans (Nat.le_trans (Nat.le_trans hb7.size hb8.size) hb9.size) hin10.size) hb11.size) (Nat.le_trans (Nat.le_trans (Nat.le_trans (Nat.le_trans (Nat.le_trans hb1.size hb2.size) hb3.size) hb4.size) hb5.size) hb6.size)) hb13) hb14))).mono ?_
  rintro e w15 ⟨vH, rfl, hpH, hb15⟩
  obtain ⟨aH, cH, rfl, _⟩ := hpH.form
  have hoH : OStrs _ w14.heap.size _ (orbWV K0 z0 a1).length (orbWV K0 z0 a1) := hpH
  clear hpH
  go_wp2_with fail
  refine (ofD (eqStrS_same _ _ _ _ _ (orbWV K0 z0 a1) _ hoH.read (hoR.since (Since.below (Since.below (Since.below (Since.older (Since.below (Since.older (Since.below (Since.below (Since.below (Since.below (Since.below (Since.refl _ _ _) hb5 (Nat.le_refl _)) hb6 hb5.size) hb7 (Nat.le_trans hb5.size hb6.size)) hb8 (Nat.le_trans (Nat.le_trans hb5.size hb6.size) hb7.size)) hb9 (Nat.le_trans (Nat.le_trans (Nat.le_trans hb5.size hb6.size) hb7.size) hb8.size)) hin10 (Nat.le_refl _) (Nat.le_trans (Nat.le_trans (Nat.le_trans (Nat.le_trans hb5.size hb6.size) hb7.size) hb8.size) hb9.size)) hb11 (Nat.le_trans (Nat.le_trans (Nat.le_trans (Nat.le_trans (Nat.le_trans hb5.size hb6.size) hb7.size) hb8.size) hb9.size) hin10.size)) hin12 (Nat.le_trans hb5.size hb6.size) (Nat.le_trans (Nat.le_trans (Nat.le_trans (Nat.le_trans (Nat.le_trans (Nat.le_trans hb5.size hb6.size) hb7.size) hb8.size) hb9.size) hin10.size) hb11.size)) hb13 (Nat.le_trans (Nat.le_trans (Nat.le_trans (Nat.le_trans (Nat.le_trans (Nat.le_trans (Nat.le_trans hb5.size hb6.size) hb7.size) hb8.size) hb9.size) hin10.size) hb11.size) hin12.size)) hb14 (Nat.le_trans (Nat.le_trans (Nat.le_trans (Nat.le_trans (Nat.le_trans (Nat.le_trans (Nat.le_trans (Nat.le_trans hb5.size hb6.size) hb7.size) hb8.size) hb9.size) hin10.size) hb11.size) hin12.size) hb13.size)) hb15 (Nat.le_trans (Nat.le_trans (Nat.le_trans (Nat.le_trans (Nat.le_trans (Nat.le_trans (Nat.le_trans (Nat.le_trans (Nat.le_trans hb5.size hb6.size) hb7.size) hb8.size) hb9.size) hin10.size) hb11.size) hin12.size) hb13.size) hb14.size))).read)).mono ?_
  rintro e w16 ⟨rfl, hb16⟩
  go_wp2_with fail
  refine (heldStrS_any _ _ _ _ (hmG.since (Since.below (Since.below (Since.below (Since.below (Since.refl _ _ _) hb13 (Nat.le_refl _)) hb14 hb13.size) hb15 (Nat.le_trans hb13.size hb14.size)) hb16 (Nat.le_trans (Nat.le_trans hb13.size hb14.size) hb15.size))).read).mono ?_
  rintro e w17 ⟨rfl, hb17⟩
  go_wp2_with fail
  go_ret
  exact ⟨rfl, (step2 (step2 (step2 (step2 (step2 (Below.past (step2 (Below.past (step2 (step2 (step2 (step2 (step2 (step2 (step2 (step2 hb1 hb2) hb3) hb4) hb5) hb6) hb7) hb8) hb9) hin10 (Nat.le_trans (Nat.le_trans (Nat.le_trans (Nat.le_trans hb5.size hb6.size) hb7.size) hb8.size) hb9.size) (Nat.le_trans (Nat.le_trans (Nat.le_trans hb1.size hb2.size) hb3.size) hb4.size)) hb11) hin12 (Nat.le_trans (Nat.le_trans (Nat.le_trans (Nat.le_trans hb7.size hb8.size) hb9.size) hin10.size) hb11.size) (Nat.le_trans (Nat.le_trans (Nat.le_trans (Nat.le_trans (Nat.le_trans hb1.size hb2.size) hb3.size) hb4.size) hb5.size) hb6.size)) hb13) hb14) hb15) hb16) hb17)⟩

namespace fnExactOrbitWords
open Go.ChangeShapes Go.WideShapes Go.ChangeAt
open Go.ChangeMaps (open_string shut_string)
set_option maxRecDepth 100000 in
theorem lifted (os : Os) (started : os.Started) (H : Type) (enc : TypeId × Value → H) :
    ReturnsInHanded {} Try.checked os 3 .any (Rows.fnExactOrbitWordsSpec.pre6 enc Try.prog Try.f3 Rows.fnExactOrbitWordsRow.domain false) (Rows.fnExactOrbitWordsSpec.post enc Try.prog Try.f3 false true false false) := by
  refine returnsInHanded_of_change_shaped (C := Try.checked) ownKnobNone started (by kernel_rfl) Try.func3
    (ChangeSpec.witness6 (enc := enc) (C := Try.checked) false ⟨#[], #[.agg #[.int .i64 0, .slice none 0 0], .int .i64 0], []⟩ 8 (by kernel_rfl) (by kernel_rfl) (by kernel_rfl) (by kernel_rfl)) ?_
  intro W base args ds gs before hval0 hW hcnd _ hsh _
  have hval : ∀ (j : Nat) t v, Try.f3.params[j]? = some t → args[j]? = some v → Value.okWide Try.prog W .any base t v := hval0
  have hW' := hW
  obtain ⟨p, q, hA0, hV, rfl, hfz, hnd⟩ := hW
  have hA : DataW.TrodAll enc Try.prog W 0 (fun _ => true) true Try.f3.params.toList args.toList ds p := hA0
  rw [Try.params3] at hA hval
  obtain ⟨v0, vs0, d0, ds0, p0, q0, hargs, rfl, rfl, h0, r0⟩ := trodAll_cons hA
  obtain ⟨v1, vs1, d1, ds1, p1, q1, rfl, rfl, rfl, h1, r1⟩ := trodAll_cons r0
  obtain ⟨rfl, rfl, rfl⟩ := trodAll_nil r1
  obtain rfl : args = #[v0, v1] := by cases args; simp_all
  obtain ⟨rfl, rfl⟩ := trodVars_none hV
  obtain ⟨K0, a0, len0, cap0, z0, rfl, w0⟩ := open_shIn (hval 0 24 v0 rfl rfl) h0
  have k0 := h0
  have lt0 : ∀ x ∈ p0, x.block < W.heap.size := by obtain ⟨m, hm⟩ := k0; exact DataW.trod_lt m _ _ _ hm
  obtain ⟨a1, rfl, rfl, rfl, w1⟩ := open_int Try.underlying3 (hval 1 3 v1 rfl rfl) h1
  clear hA0 hval0
  refine (fnExactOrbitWords_walk K0 a0 len0 cap0 z0 a1 W w0 w1 (maxM_of hsh)).mono fun e W' ⟨he, bel⟩ => ?_
  subst he
  exact ⟨_, rfl, _, _, _, [], _, [], hW', trodAll_mk1 (shut_bool Try.underlying4 _), (trodAll_cons_mk (Below.trod laidOutYes (by kernel_rfl) (of_decide_eq_true (by kernel_rfl)) k0 bel lt0) (trodAll_cons_mk (shut_int Try.underlying3 w1) trodAll_mk0)), rfl, bel.frame _, fun h => by cases h⟩

theorem over : Rows.fnExactOrbitWordsRow.holds Try.pinned (OpenSpec.ofChange Rows.fnExactOrbitWordsSpec) :=
  OpenClaim.holds_of_wide 3 Try.f3 rfl rfl rfl rfl rfl rfl rfl ⟨rfl, rfl, rfl, rfl, rfl⟩ rfl rfl rfl rfl rfl (by kernel_rfl) Try.func3 (by kernel_rfl)
    (of_decide_eq_true (by kernel_rfl)) (by unfold Func.isWrapper; first | (rw [if_pos (by decide +kernel)]; kernel_rfl) | (rw [if_neg (by decide +kernel)]; exact ⟨rfl, rfl⟩))
    (fun os started H enc _ => lifted os started H enc)

theorem proved : Rows.FnExactOrbitWordsSaid := over
end fnExactOrbitWords

#print axioms fnExactOrbitWords.proved
end Go.Proofs.Ytgcemkpinmjaeaa
