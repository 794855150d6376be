/- Proved here: the law FnExactRunLabels returns true at every input, and what the program returns shares no memory. No condition. -/
import Derived.Test.YtaomoahcdlkifaaRows
import Derived.Test.YtaomoahcdlkifaaLawKit
import Derived.Test.YtaomoahcdlkifaaLabLaw
import Derived.Test.YtaomoahcdlkifaaSRunLab
import Derived.Test.YtaomoahcdlkifaaIRunLab
namespace Go.Proofs.Ytaomoahcdlkifaa
open Go.RowKit
set_option linter.all false
theorem runX_len (d k : Int) : (runX d k).length ≤ 100 := by
  cases hf : fitsR d k
  · simp [runX, hf]
  · obtain ⟨d, k, rfl, rfl, hdk, hk7⟩ := fitsR_nat hf
    have := runA_len d k (k + 1)
    simp [runX, hf]
    omega
set_option maxHeartbeats 6400000 in
set_option maxRecDepth 100000 in
theorem fnExactRunLabels_walk (a0 : Int) (a1 : Int) (w : World) (h0 : (Lit.int .i64 a0).wf = true) (h1 : (Lit.int .i64 a1).wf = true) :
    Calls Try.prog 4 #[.int .i64 a0, .int .i64 a1] w fun e w' => e = .returned (.bool true) ∧ Below w.heap.size w w' := by
  skip
  have hx0 : (fitsR a0 a1 != fitsR a0 a1) = false := by simp
  have hq : (((1 : Int) + 3 * (((runX a0 a1).length : Nat) : Int)) != ((1 : Int) + 3 * (((runX a0 a1).length : Nat) : Int))) = false := by simp
  go_enter Try.func4, Try.ntmps4
  go_wp2_with fail
  refine (sRunLabels_any a0 a1 _ ).mono ?_
  rintro e w1 ⟨vR, rfl, hpR, hb1⟩
  obtain ⟨aR, cR, rfl, _⟩ := hpR.form
  have hoR : OArcs _ w.heap.size _ (runX a0 a1).length (runX a0 a1) := hpR
  clear hpR
  have hkR := Blk.new w1 26 #[.int .i64 (runL a0 a1), .int .i64 (runS a0 a1), .slice aR (runX a0 a1).length cR]
  have hb2 := below1 w1 (.cells #[.int .i64 (runL a0 a1), .int .i64 (runS a0 a1), .slice aR (runX a0 a1).length cR] 26)
  go_wp2_with fail
  generalize w1.alloc (.cells #[.int .i64 (runL a0 a1), .int .i64 (runS a0 a1), .slice aR (runX a0 a1).length cR] 26) = w2 at hkR hb2 ⊢
  refine (iRunLabels_any a0 a1 _ ).mono ?_
  rintro e w3 ⟨vG, rfl, hpG, hb3⟩
  obtain ⟨aG, cG, rfl, _⟩ := hpG.form
  have hoG : OArcs _ w2.heap.size _ (runX a0 a1).length (runX a0 a1) := hpG
  clear hpG
  have hkG := Blk.new w3 26 #[.int .i64 (runL a0 a1), .int .i64 (runS a0 a1), .slice aG (runX a0 a1).length cG]
  have hb4 := below1 w3 (.cells #[.int .i64 (runL a0 a1), .int .i64 (runS a0 a1), .slice aG (runX a0 a1).length cG] 26)
  have qR := ((hkR.keep hb3).keep hb4)
  have qR0 := qR.c0
  have qR1 := qR.c1
  have qR2 := qR.c2
  clear qR
  go_wp2_with fail
  clear qR0 qR1 qR2
  generalize w3.alloc (.cells #[.int .i64 (runL a0 a1), .int .i64 (runS a0 a1), .slice aG (runX a0 a1).length cG] 26) = w4 at hkG hb4 ⊢
  refine (eqLabels_same _ _ _ _ _ _ _ (runX a0 a1) _ (hoG.since (Since.below (Since.refl _ _ _) hb4 (Nat.le_refl _))).read (hoR.since (Since.below (Since.below (Since.below (Since.refl _ _ _) hb2 (Nat.le_refl _)) hb3 hb2.size) hb4 (Nat.le_trans hb2.size hb3.size))).read).mono ?_
  rintro e w5 ⟨rfl, hb5⟩
  have qG := (hkG.keep hb5)
  have qG0 := qG.c0
  have qG1 := qG.c1
  have qG2 := qG.c2
  clear qG
  go_wp2_with fail
  clear qG0 qG1 qG2
  refine (markLabels_in _ _ _ _ _ (runX a0 a1) 1 _ _ _ hoG (Since.below (Since.below (Since.refl _ _ _) hb4 (Nat.le_refl _)) hb5 hb4.size) (by omega) (by omega)).mono ?_
  rintro e w6 ⟨rfl, hin6, hmG⟩
  have qG := ((hkG.keep hb5).within hin6 (.inr (Nat.le_refl _)))
  have qG0 := qG.c0
  have qG1 := qG.c1
  have qG2 := qG.c2
  clear qG
  go_wp2_with fail
  clear qG0 qG1 qG2
  refine (heldLabels_any _ _ _ _ _ 1 _ hmG.read (by omega) (by omega)).mono ?_
  rintro e w7 ⟨rfl, hb7⟩
  go_wp2_with fail
  refine (iRunLabels_any a0 a1 _ ).mono ?_
  rintro e w8 ⟨vH, rfl, hpH, hb8⟩
  obtain ⟨aH, cH, rfl, _⟩ := hpH.form
  have hoH : OArcs _ w7.heap.size _ (runX a0 a1).length (runX a0 a1) := hpH
  clear hpH
  have hkH := Blk.new w8 26 #[.int .i64 (runL a0 a1), .int .i64 (runS a0 a1), .slice aH (runX a0 a1).length cH]
  have hb9 := below1 w8 (.cells #[.int .i64 (runL a0 a1), .int .i64 (runS a0 a1), .slice aH (runX a0 a1).length cH] 26)
  have qR := (((((((hkR.keep hb3).keep hb4).keep hb5).within hin6 (.inl (Nat.lt_of_lt_of_le hkR.lt (Nat.le_refl _)))).keep hb7).keep hb8).keep hb9)
  have qR0 := qR.c0
  have qR1 := qR.c1
  have qR2 := qR.c2
  clear qR
  go_wp2_with fail
  clear qR0 qR1 qR2
  generalize w8.alloc (.cells #[.int .i64 (runL a0 a1), .int .i64 (runS a0 a1), .slice aH (runX a0 a1).length cH] 26) = w9 at hkH hb9 ⊢
  refine (eqLabels_same _ _ _ _ _ _ _ (runX a0 a1) _ (hoH.since (Since.below (Since.refl _ _ _) hb9 (Nat.le_refl _))).read (hoR.since (Since.below (Since.below (Since.below (Since.older (Since.below (Since.below (Since.below (Since.below (Since.refl _ _ _) hb2 (Nat.le_refl _)) hb3 hb2.size) hb4 (Nat.le_trans hb2.size hb3.size)) hb5 (Nat.le_trans (Nat.le_trans hb2.size hb3.size) hb4.size)) hin6 hb2.size (Nat.le_trans (Nat.le_trans (Nat.le_trans hb2.size hb3.size) hb4.size) hb5.size)) hb7 (Nat.le_trans (Nat.le_trans (Nat.le_trans (Nat.le_trans hb2.size hb3.size) hb4.size) hb5.size) hin6.size)) hb8 (Nat.le_trans (Nat.le_trans (Nat.le_trans (Nat.le_trans (Nat.le_trans hb2.size hb3.size) hb4.size) hb5.size) hin6.size) hb7.size)) hb9 (Nat.le_trans (Nat.le_trans (Nat.le_trans (Nat.le_trans (Nat.le_trans (Nat.le_trans hb2.size hb3.size) hb4.size) hb5.size) hin6.size) hb7.size) hb8.size))).read).mono ?_
  rintro e w10 ⟨rfl, hb10⟩
  have qG := ((((((hkG.keep hb5).within hin6 (.inr (Nat.le_refl _))).keep hb7).keep hb8).keep hb9).keep hb10)
  have qG0 := qG.c0
  have qG1 := qG.c1
  have qG2 := qG.c2
  clear qG
  go_wp2_with fail
  clear qG0 qG1 qG2
  refine (heldLabels_any _ _ _ _ _ 1 _ (hmG.since (Since.below (Since.below (Since.below (Since.below (Since.refl _ _ _) hb7 (Nat.le_refl _)) hb8 hb7.size) hb9 (Nat.le_trans hb7.size hb8.size)) hb10 (Nat.le_trans (Nat.le_trans hb7.size hb8.size) hb9.size))).read (by omega) (by omega)).mono ?_
  rintro e w11 ⟨rfl, hb11⟩
  go_wp2_with fail
  go_ret
  exact ⟨rfl, (step2 (step2 (step2 (step2 (step2 (Below.past (step2 (step2 (step2 (step2 hb1 hb2) hb3) hb4) hb5) hin6 (Nat.le_trans (Nat.le_trans hb3.size hb4.size) hb5.size) (Nat.le_trans hb1.size hb2.size)) hb7) hb8) hb9) hb10) hb11)⟩

namespace fnExactRunLabels
open Go.ChangeShapes Go.WideShapes Go.ChangeAt
open Go.ChangeMaps (open_string shut_string)
set_option maxRecDepth 100000 in
theorem lifted (os : Os) (started : os.Started) (H : Type) (enc : TypeId × Value → H) :
    ReturnsInHanded {} Try.checked os 4 .any (Rows.fnExactRunLabelsSpec.pre6 enc Try.prog Try.f4 Rows.fnExactRunLabelsRow.domain false) (Rows.fnExactRunLabelsSpec.post enc Try.prog Try.f4 false true false false) := by
  refine returnsInHanded_of_change (C := Try.checked) ownKnobNone started (by kernel_rfl) Try.func4
    (ChangeSpec.witness6 (enc := enc) (C := Try.checked) false ⟨#[], #[.int .i64 0, .int .i64 0], []⟩ 8 (by kernel_rfl) (by kernel_rfl) (by kernel_rfl) (by kernel_rfl)) ?_
  intro W base args ds gs before hval0 hW hcnd _
  have hval : ∀ (j : Nat) t v, Try.f4.params[j]? = some t → args[j]? = some v → Value.okWide Try.prog W .any base t v := hval0
  have hW' := hW
  obtain ⟨p, q, hA0, hV, rfl, hfz, hnd⟩ := hW
  have hA : DataW.TrodAll enc Try.prog W 0 (fun _ => true) true Try.f4.params.toList args.toList ds p := hA0
  rw [Try.params4] at hA hval
  obtain ⟨v0, vs0, d0, ds0, p0, q0, hargs, rfl, rfl, h0, r0⟩ := trodAll_cons hA
  obtain ⟨v1, vs1, d1, ds1, p1, q1, rfl, rfl, rfl, h1, r1⟩ := trodAll_cons r0
  obtain ⟨rfl, rfl, rfl⟩ := trodAll_nil r1
  obtain rfl : args = #[v0, v1] := by cases args; simp_all
  obtain ⟨rfl, rfl⟩ := trodVars_none hV
  obtain ⟨a0, rfl, rfl, rfl, w0⟩ := open_int Try.underlying3 (hval 0 3 v0 rfl rfl) h0
  obtain ⟨a1, rfl, rfl, rfl, w1⟩ := open_int Try.underlying3 (hval 1 3 v1 rfl rfl) h1
  clear hA0 hval0
  refine (fnExactRunLabels_walk a0 a1 W w0 w1).mono fun e W' ⟨he, bel⟩ => ?_
  subst he
  exact ⟨_, rfl, _, _, _, [], _, [], hW', trodAll_mk1 (shut_bool Try.underlying4 _), (trodAll_cons_mk (shut_int Try.underlying3 w0) (trodAll_cons_mk (shut_int Try.underlying3 w1) trodAll_mk0)), rfl, bel.frame _, fun h => by cases h⟩

theorem over : Rows.fnExactRunLabelsRow.holds Try.pinned (OpenSpec.ofChange Rows.fnExactRunLabelsSpec) :=
  OpenClaim.holds_of_wide 4 Try.f4 rfl rfl rfl rfl rfl rfl rfl ⟨rfl, rfl, rfl, rfl, rfl⟩ rfl rfl rfl rfl rfl (by kernel_rfl) Try.func4 (by kernel_rfl)
    (of_decide_eq_true (by kernel_rfl)) (by unfold Func.isWrapper; first | (rw [if_pos (by decide +kernel)]; kernel_rfl) | (rw [if_neg (by decide +kernel)]; exact ⟨rfl, rfl⟩))
    (fun os started H enc _ => lifted os started H enc)

theorem proved : Rows.FnExactRunLabelsSaid := over
end fnExactRunLabels

#print axioms fnExactRunLabels.proved
end Go.Proofs.Ytaomoahcdlkifaa
