/- Proved here: the law FnExactDiffersBy returns true at every input, and leaves its arguments as they were. No condition. -/
import Derived.Test.YtnoghnalopdflaaRows
import Derived.Test.YtnoghnalopdflaaLawKit
import Derived.Test.YtnoghnalopdflaaSDiffers
import Derived.Test.YtnoghnalopdflaaIDiffers
namespace Go.Proofs.Ytnoghnalopdflaa
open Go.RowKit
set_option linter.all false
set_option maxHeartbeats 1600000 in
set_option maxRecDepth 100000 in
theorem fnExactDiffersBy_walk (p0 : Option Addr) (n0 c0 : Nat) (z0 : List (List Int)) (p1 : Option Addr) (n1 c1 : Nat) (z1 : List (List Int)) (w : World) (h0 : IntssIn w p0 n0 z0) (h1 : IntssIn w p1 n1 z1) :
    Calls Try.prog 6 #[.slice p0 n0 c0, .slice p1 n1 c1] w fun e w' => e = .returned (.bool true) ∧ Below w.heap.size w w' := by
  have H0 := Lib.hid h0
  have H1 := Lib.hid h1
  clear h0 h1
  have hl0 : 0 ≤ (1048576 : Int) ∧ (1048576 : Int) ≤ 1048576 := by decide
  have hr0 := sz2_range z0 1048576 hl0.1
  by_cases hs0 : (sz2 z0 1048576) < 0
  · go_enter Try.func6, Try.ntmps6
    go_wp2_with fail
    refine (szIntSS_any _ _ _ z0 _ _ H0.out hl0.1 hl0.2).mono ?_
    rintro e w' ⟨rfl, rfl⟩
    go_wp2_with fail
    go_ret
    exact ⟨rfl, Below.refl _ _⟩
  have hbd0 := sz2_bound (show 0 ≤ (sz2 z0 1048576) by omega)
  have hlt0 : 0 ≤ (sz2 z0 1048576) ∧ (sz2 z0 1048576) ≤ 1048576 := by omega
  have hl1 : 0 ≤ (sz2 z0 1048576) ∧ (sz2 z0 1048576) ≤ 1048576 := by omega
  have hr1 := sz2_range z1 (sz2 z0 1048576) hl1.1
  by_cases hs1 : (sz2 z1 (sz2 z0 1048576)) < 0
  · go_enter Try.func6, Try.ntmps6
    go_wp2_with fail
    refine (szIntSS_any _ _ _ z0 _ _ H0.out hl0.1 hl0.2).mono ?_
    rintro e w' ⟨rfl, rfl⟩
    go_wp2_with fail
    refine (szIntSS_any _ _ _ z1 _ _ H1.out hl1.1 hl1.2).mono ?_
    rintro e w' ⟨rfl, rfl⟩
    go_wp2_with fail
    go_ret
    exact ⟨rfl, Below.refl _ _⟩
  have hbd1 := sz2_bound (show 0 ≤ (sz2 z1 (sz2 z0 1048576)) by omega)
  have hlt1 : 0 ≤ (sz2 z1 (sz2 z0 1048576)) ∧ (sz2 z1 (sz2 z0 1048576)) ≤ 1048576 := by omega
  have I0 := Lib.hid (H0.out.intss (by have := H0.out.1; omega) (fun r hr => by have := hbd0.2 r hr; omega))
  clear hbd0
  have I1 := Lib.hid (H1.out.intss (by have := H1.out.1; omega) (fun r hr => by have := hbd1.2 r hr; omega))
  clear hbd1
  have he0 := eqL_self z0
  have he1 := eqL_self z1
  go_enter Try.func6, Try.ntmps6
  go_wp2_with fail
  refine (szIntSS_any _ _ _ z0 _ _ H0.out hl0.1 hl0.2).mono ?_
  rintro e w' ⟨rfl, rfl⟩
  go_wp2_with fail
  refine (szIntSS_any _ _ _ z1 _ _ H1.out hl1.1 hl1.2).mono ?_
  rintro e w' ⟨rfl, rfl⟩
  go_wp2_with fail
  refine (toIntSS_any _ _ _ z0 _ I0.out).mono ?_
  rintro e w1 ⟨gs0, rfl, hos0, hb1⟩
  go_wp2_with fail
  refine (toIntSS_any _ _ _ z1 _ (I1.out.keep hb1)).mono ?_
  rintro e w2 ⟨gs1, rfl, hos1, hb2⟩
  go_wp2_with fail
  refine (ofB (sDiffers_any _ _ _ z0 _ _ _ z1 _ (hos0.keep hb2).intss hos1.intss)).mono ?_
  rintro e w3 ⟨rfl, hb3⟩
  go_wp2_with fail
  refine (toIntSS_any _ _ _ z0 _ (I0.out.keep (step2 (step2 hb1 hb2) hb3))).mono ?_
  rintro e w4 ⟨gx0, rfl, hox0, hb4⟩
  go_wp2_with fail
  refine (toIntSS_any _ _ _ z1 _ (I1.out.keep (step2 (step2 (step2 hb1 hb2) hb3) hb4))).mono ?_
  rintro e w5 ⟨gx1, rfl, hox1, hb5⟩
  go_wp2_with fail
  refine (ofB (iDiffers_any _ _ _ z0 _ _ _ z1 _ (hox0.keep hb5).intss hox1.intss)).mono ?_
  rintro e w6 ⟨rfl, hb6⟩
  go_wp2_with fail
  refine (toIntSS_any _ _ _ z0 _ (I0.out.keep (step2 (step2 (step2 (step2 (step2 hb1 hb2) hb3) hb4) hb5) hb6))).mono ?_
  rintro e w7 ⟨ge0, rfl, hoe0, hb7⟩
  go_wp2_with fail
  refine (ofD (eqIntSS_any _ _ _ z0 _ _ _ z0 _ (hox0.keep (step2 (step2 hb5 hb6) hb7)).intss hoe0.intss)).mono ?_
  rintro e w8 ⟨rfl, hb8⟩
  go_wp2_with fail
  refine (toIntSS_any _ _ _ z1 _ (I1.out.keep (step2 (step2 (step2 (step2 (step2 (step2 (step2 hb1 hb2) hb3) hb4) hb5) hb6) hb7) hb8))).mono ?_
  rintro e w9 ⟨ge1, rfl, hoe1, hb9⟩
  go_wp2_with fail
  refine (ofD (eqIntSS_any _ _ _ z1 _ _ _ z1 _ (hox1.keep (step2 (step2 (step2 hb6 hb7) hb8) hb9)).intss hoe1.intss)).mono ?_
  rintro e w10 ⟨rfl, hb10⟩
  go_wp2_with fail
  go_ret
  exact ⟨rfl, (step2 (step2 (step2 (step2 (step2 (step2 (step2 (step2 (step2 hb1 hb2) hb3) hb4) hb5) hb6) hb7) hb8) hb9) hb10)⟩

namespace fnExactDiffersBy
open Go.ChangeShapes Go.WideShapes Go.ChangeAt
open Go.ChangeMaps (open_string shut_string)
set_option maxRecDepth 100000 in
theorem lifted (os : Os) (started : os.Started) (H : Type) (enc : TypeId × Value → H) :
    ReturnsInHanded {} Try.checked os 6 .any (Rows.fnExactDiffersBySpec.pre6 enc Try.prog Try.f6 Rows.fnExactDiffersByRow.domain false) (Rows.fnExactDiffersBySpec.post enc Try.prog Try.f6 false true false false) := by
  refine returnsInHanded_of_change (C := Try.checked) ownKnobNone started (by kernel_rfl) Try.func6
    (ChangeSpec.witness6 (enc := enc) (C := Try.checked) false ⟨#[], #[.slice none 0 0, .slice none 0 0], []⟩ 8 (by kernel_rfl) (by kernel_rfl) (by kernel_rfl) (by kernel_rfl)) ?_
  intro W base args ds gs before hval0 hW hcnd _
  have hval : ∀ (j : Nat) t v, Try.f6.params[j]? = some t → args[j]? = some v → Value.okWide Try.prog W .any base t v := hval0
  have hW' := hW
  obtain ⟨p, q, hA0, hV, rfl, hfz, hnd⟩ := hW
  have hA : DataW.TrodAll enc Try.prog W 0 (fun _ => true) true Try.f6.params.toList args.toList ds p := hA0
  rw [Try.params6] at hA hval
  obtain ⟨v0, vs0, d0, ds0, p0, q0, hargs, rfl, rfl, h0, r0⟩ := trodAll_cons hA
  obtain ⟨v1, vs1, d1, ds1, p1, q1, rfl, rfl, rfl, h1, r1⟩ := trodAll_cons r0
  obtain ⟨rfl, rfl, rfl⟩ := trodAll_nil r1
  obtain rfl : args = #[v0, v1] := by cases args; simp_all
  obtain ⟨rfl, rfl⟩ := trodVars_none hV
  obtain ⟨a0, len0, cap0, rfl⟩ := okWide_slice Try.underlying49 (hval 0 49 v0 rfl rfl)
  have k0 := h0
  have lt0 : ∀ x ∈ p0, x.block < W.heap.size := by obtain ⟨m, hm⟩ := k0; exact DataW.trod_lt m _ _ _ hm
  obtain ⟨z0, w0⟩ := open_intssIn h0
  obtain ⟨a1, len1, cap1, rfl⟩ := okWide_slice Try.underlying49 (hval 1 49 v1 rfl rfl)
  have k1 := h1
  have lt1 : ∀ x ∈ p1, x.block < W.heap.size := by obtain ⟨m, hm⟩ := k1; exact DataW.trod_lt m _ _ _ hm
  obtain ⟨z1, w1⟩ := open_intssIn h1
  clear hA0 hval0
  refine (fnExactDiffersBy_walk a0 len0 cap0 z0 a1 len1 cap1 z1 W w0 w1).mono fun e W' ⟨he, bel⟩ => ?_
  subst he
  exact ⟨_, rfl, _, _, _, [], _, [], hW', trodAll_mk1 (shut_bool Try.underlying4 _), (trodAll_cons_mk (Below.trod laidOutYes (by kernel_rfl) (of_decide_eq_true (by kernel_rfl)) k0 bel lt0) (trodAll_cons_mk (Below.trod laidOutYes (by kernel_rfl) (of_decide_eq_true (by kernel_rfl)) k1 bel lt1) trodAll_mk0)), rfl, bel.frame _, fun h => by cases h⟩

theorem over : Rows.fnExactDiffersByRow.holds Try.pinned (OpenSpec.ofChange Rows.fnExactDiffersBySpec) :=
  OpenClaim.holds_of_wide 6 Try.f6 rfl rfl rfl rfl rfl rfl rfl ⟨rfl, rfl, rfl, rfl, rfl⟩ rfl rfl rfl rfl rfl (by kernel_rfl) Try.func6 (by kernel_rfl)
    (of_decide_eq_true (by kernel_rfl)) (by unfold Func.isWrapper; first | (rw [if_pos (by decide +kernel)]; kernel_rfl) | (rw [if_neg (by decide +kernel)]; exact ⟨rfl, rfl⟩))
    (fun os started H enc _ => lifted os started H enc)

theorem proved : Rows.FnExactDiffersBySaid := over
end fnExactDiffersBy

#print axioms fnExactDiffersBy.proved
end Go.Proofs.Ytnoghnalopdflaa
