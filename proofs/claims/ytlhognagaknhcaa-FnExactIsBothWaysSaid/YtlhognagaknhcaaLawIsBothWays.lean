/- Proved here: the law FnExactIsBothWays returns true at every input, and leaves its arguments as they were. No condition. -/
import Derived.Test.YtlhognagaknhcaaRows
import Derived.Test.YtlhognagaknhcaaLawKit
import Derived.Test.YtlhognagaknhcaaSBoth
import Derived.Test.YtlhognagaknhcaaIBoth
namespace Go.Proofs.Ytlhognagaknhcaa
open Go.RowKit
set_option linter.all false
set_option maxHeartbeats 1600000 in
set_option maxRecDepth 100000 in
theorem fnExactIsBothWays_walk (p0 : Option Addr) (n0 c0 : Nat) (z0 : List (List Int)) (w : World) (h0 : IntssIn w p0 n0 z0) :
    Calls Try.prog 11 #[.slice p0 n0 c0] w fun e w' => e = .returned (.bool true) ∧ Below w.heap.size w w' := by
  have H0 := Lib.hid h0
  clear h0
  have hl0 : 0 ≤ (1048576 : Int) ∧ (1048576 : Int) ≤ 1048576 := by decide
  have hr0 := sz2_range z0 1048576 hl0.1
  by_cases hs0 : (sz2 z0 1048576) < 0
  · go_enter Try.func11, Try.ntmps11
    go_wp2_with fail
    refine (szIntSS_any _ _ _ z0 _ _ H0.out hl0.1 hl0.2).mono ?_
    rintro e w' ⟨rfl, rfl⟩
    go_wp2_with fail
    go_ret
    exact ⟨rfl, Below.refl _ _⟩
  have hbd0 := sz2_bound (show 0 ≤ (sz2 z0 1048576) by omega)
  have hlt0 : 0 ≤ (sz2 z0 1048576) ∧ (sz2 z0 1048576) ≤ 1048576 := by omega
  have I0 := Lib.hid (H0.out.intss (by have := H0.out.1; omega) (fun r hr => by have := hbd0.2 r hr; omega))
  clear hbd0
  have ht : (bothB z0 != bothB z0) = false := by simp
  have he0 := eqL_self z0
  go_enter Try.func11, Try.ntmps11
  go_wp2_with fail
  refine (szIntSS_any _ _ _ z0 _ _ H0.out hl0.1 hl0.2).mono ?_
  rintro e w' ⟨rfl, rfl⟩
  go_wp2_with fail
  refine (toIntSS_any _ _ _ z0 _ I0.out).mono ?_
  rintro e w1 ⟨gs0, rfl, hos0, hb1⟩
  go_wp2_with fail
  refine (ofB (sBoth_any _ _ _ z0 _ hos0.intss)).mono ?_
  rintro e w2 ⟨rfl, hb2⟩
  go_wp2_with fail
  refine (toIntSS_any _ _ _ z0 _ (I0.out.keep (step2 hb1 hb2))).mono ?_
  rintro e w3 ⟨gx0, rfl, hox0, hb3⟩
  go_wp2_with fail
  refine (ofB (iBoth_any _ _ _ z0 _ hox0.intss)).mono ?_
  rintro e w4 ⟨rfl, hb4⟩
  go_wp2_with fail
  refine (toIntSS_any _ _ _ z0 _ (I0.out.keep (step2 (step2 (step2 hb1 hb2) hb3) hb4))).mono ?_
  rintro e w5 ⟨ge0, rfl, hoe0, hb5⟩
  go_wp2_with fail
  refine (ofD (eqIntSS_any _ _ _ z0 _ _ _ z0 _ (hox0.keep (step2 hb4 hb5)).intss hoe0.intss)).mono ?_
  rintro e w6 ⟨rfl, hb6⟩
  go_wp2_with fail
  go_ret
  exact ⟨rfl, (step2 (step2 (step2 (step2 (step2 hb1 hb2) hb3) hb4) hb5) hb6)⟩

namespace fnExactIsBothWays
open Go.ChangeShapes Go.WideShapes Go.ChangeAt
open Go.ChangeMaps (open_string shut_string)
set_option maxRecDepth 100000 in
theorem lifted (os : Os) (started : os.Started) (H : Type) (enc : TypeId × Value → H) :
    ReturnsInHanded {} Try.checked os 11 .any (Rows.fnExactIsBothWaysSpec.pre6 enc Try.prog Try.f11 Rows.fnExactIsBothWaysRow.domain false) (Rows.fnExactIsBothWaysSpec.post enc Try.prog Try.f11 false true false false) := by
  refine returnsInHanded_of_change (C := Try.checked) ownKnobNone started (by kernel_rfl) Try.func11
    (ChangeSpec.witness6 (enc := enc) (C := Try.checked) false ⟨#[], #[.slice none 0 0], []⟩ 8 (by kernel_rfl) (by kernel_rfl) (by kernel_rfl) (by kernel_rfl)) ?_
  intro W base args ds gs before hval0 hW hcnd _
  have hval : ∀ (j : Nat) t v, Try.f11.params[j]? = some t → args[j]? = some v → Value.okWide Try.prog W .any base t v := hval0
  have hW' := hW
  obtain ⟨p, q, hA0, hV, rfl, hfz, hnd⟩ := hW
  have hA : DataW.TrodAll enc Try.prog W 0 (fun _ => true) true Try.f11.params.toList args.toList ds p := hA0
  rw [Try.params11] at hA hval
  obtain ⟨v0, vs0, d0, ds0, p0, q0, hargs, rfl, rfl, h0, r0⟩ := trodAll_cons hA
  obtain ⟨rfl, rfl, rfl⟩ := trodAll_nil r0
  obtain rfl : args = #[v0] := by cases args; simp_all
  obtain ⟨rfl, rfl⟩ := trodVars_none hV
  obtain ⟨a0, len0, cap0, rfl⟩ := okWide_slice Try.underlying22 (hval 0 22 v0 rfl rfl)
  have k0 := h0
  have lt0 : ∀ x ∈ p0, x.block < W.heap.size := by obtain ⟨m, hm⟩ := k0; exact DataW.trod_lt m _ _ _ hm
  obtain ⟨z0, w0⟩ := open_intssIn h0
  clear hA0 hval0
  refine (fnExactIsBothWays_walk a0 len0 cap0 z0 W w0).mono fun e W' ⟨he, bel⟩ => ?_
  subst he
  exact ⟨_, rfl, _, _, _, [], _, [], hW', trodAll_mk1 (shut_bool Try.underlying4 _), (trodAll_cons_mk (Below.trod laidOutYes (by kernel_rfl) (of_decide_eq_true (by kernel_rfl)) k0 bel lt0) trodAll_mk0), rfl, bel.frame _, fun h => by cases h⟩

theorem over : Rows.fnExactIsBothWaysRow.holds Try.pinned (OpenSpec.ofChange Rows.fnExactIsBothWaysSpec) :=
  OpenClaim.holds_of_wide 11 Try.f11 rfl rfl rfl rfl rfl rfl rfl ⟨rfl, rfl, rfl, rfl, rfl⟩ rfl rfl rfl rfl rfl (by kernel_rfl) Try.func11 (by kernel_rfl)
    (of_decide_eq_true (by kernel_rfl)) (by unfold Func.isWrapper; first | (rw [if_pos (by decide +kernel)]; kernel_rfl) | (rw [if_neg (by decide +kernel)]; exact ⟨rfl, rfl⟩))
    (fun os started H enc _ => lifted os started H enc)

theorem proved : Rows.FnExactIsBothWaysSaid := over
end fnExactIsBothWays

#print axioms fnExactIsBothWays.proved
end Go.Proofs.Ytlhognagaknhcaa
