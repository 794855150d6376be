/- Proved here: the law FnExactGroupText returns true at every input, and leaves its argument as it was (the tied card). No condition. -/
import Derived.Test.YtnoghnalopdflaaDoorRows
import Derived.Test.YtnoghnalopdflaaDoorTie
import Derived.Test.YtnoghnalopdflaaDoorCards
import Derived.Test.YtnoghnalopdflaaDoorLawKit
import Derived.Test.YtnoghnalopdflaaDoorDoorWrap
import Derived.Test.YtnoghnalopdflaaDoorSGrp
import Derived.Test.YtnoghnalopdflaaDoorIGrp
namespace Go.Proofs.YtnoghnalopdflaaDoor
open Go.RowKit
set_option linter.all false
theorem wf_le {w : World} {ao : Option Addr} {n : Nat} {xs : List Int} (h : IntsIn w ao n xs) : ∀ x ∈ xs, x ≤ 9223372036854775807 := fun x hx => by
  have h1 := h.2.2 x hx
  simp only [Lit.wf, Bool.and_eq_true, decide_eq_true_eq] at h1
  have h2 : IntKind.i64.max = 9223372036854775807 := by decide
  rw [h2] at h1
  exact h1.2
set_option maxHeartbeats 1600000 in
set_option maxRecDepth 100000 in
theorem fnExactGroupText_walk (p0 : Option Addr) (n0 c0 : Nat) (z0 : List Int) (w : World) (h0 : IntsIn w p0 n0 z0) (hm : PowV w) :
    Calls Tryd.prog 3 #[.slice p0 n0 c0] w fun e w' => e = .returned (.bool true) ∧ Below w.heap.size w w' := by
  by_cases hbig0 : 1048576 < n0
  · clear h0
    go_enter Tryd.func3, Tryd.ntmps3
    go_wp2
    go_ret
    exact ⟨rfl, Below.refl _ _⟩
  have hbn0 : n0 ≤ 1048576 := by omega
  clear hbig0
  have H0 := Lib.hid h0
  clear h0
  have I0 := Lib.hid (H0.out.ints (by omega))
  have HW0 := Lib.hid (wf_le H0.out)
  have he0 := eqL_self z0
  go_enter Tryd.func3, Tryd.ntmps3
  go_wp2_with fail
  refine (toIntS_any _ _ _ z0 _ I0.out).mono ?_
  rintro e w1 ⟨gs0, rfl, hos0, hb1⟩
  go_wp2_with fail
  refine (ofB (sGroupText_any _ _ _ z0 _ hos0.ints hbn0 HW0.out)).mono ?_
  rintro e w2 ⟨rfl, hb2⟩
  go_wp2_with fail
  refine (toIntS_any _ _ _ z0 _ (I0.out.keep (step2 hb1 hb2))).mono ?_
  rintro e w3 ⟨gx0, rfl, hox0, hb3⟩
  go_wp2_with fail
  refine (ofB (iGroupText_any _ _ _ z0 _ hox0.ints hbn0 HW0.out (hm.keep (step2 (step2 hb1 hb2) hb3)))).mono ?_
  rintro e w4 ⟨rfl, hb4⟩
  go_wp2_with fail
  refine (toIntS_any _ _ _ z0 _ (I0.out.keep (step2 (step2 (step2 hb1 hb2) hb3) hb4))).mono ?_
  rintro e w5 ⟨ge0, rfl, hoe0, hb5⟩
  go_wp2_with fail
  refine (ofD (eqIntS_any _ _ _ z0 _ _ _ z0 _ (hox0.keep (step2 hb4 hb5)).ints hoe0.ints)).mono ?_
  rintro e w6 ⟨rfl, hb6⟩
  go_wp2_with fail
  go_ret
  exact ⟨rfl, (step2 (step2 (step2 (step2 (step2 hb1 hb2) hb3) hb4) hb5) hb6)⟩

namespace fnExactGroupText
open Go.ChangeShapes Go.WideShapes Go.ChangeAt
open Go.ChangeMaps (open_string shut_string)
set_option maxRecDepth 100000 in
theorem lifted (os : Os) (started : os.Started) (H : Type) (enc : TypeId × Value → H) :
    ReturnsInHanded {} Tryd.checked os 3 .any (fun w args => (Rows.fnExactGroupTextSpec.pre enc Tryd.prog Tryd.f3 [] false w args ∧ laidMetH Tryd.prog Rows.fnExactGroupTextRow.laid w) ∧ sizedMet enc Tryd.prog Tryd.f3 (OpenSpec.ofChange Rows.fnExactGroupTextSpec) false w args) (Rows.fnExactGroupTextSpec.post enc Tryd.prog Tryd.f3 false true false false) := by
  refine returnsInHanded_door (C := Tryd.checked) (X := fun w _ => laidMetH Tryd.prog Rows.fnExactGroupTextRow.laid w) (fun _ _ _ hh h => h.of_heap hh) ownKnobNone started (by kernel_rfl) Tryd.func3
    (ChangeSpec.witness_shaped (enc := enc) (C := Tryd.checked) (os := os) (X := fun w _ => laidMetH Tryd.prog Rows.fnExactGroupTextRow.laid w) false (World.laidAll Tryd.prog os Rows.fnExactGroupTextRow.laid) #[.slice none 0 0] 8 (World.laidAll_os _ _ _) (World.shaped_of_ZipB (by kernel_rfl) (by kernel_rfl)) (by kernel_rfl) (by kernel_rfl) (by kernel_rfl)
      (by rw [MakeChecks.laidMetH_plain _ _ _ (by kernel_rfl)]; exact laidMet_laidAll _ (by kernel_rfl) (by kernel_rfl))) ?_
  intro W base args ds gs before hval0 hW hL hsh
  have hval : ∀ (j : Nat) t v, Tryd.f3.params[j]? = some t → args[j]? = some v → Value.okWide Tryd.prog W .any base t v := hval0
  have hW' := hW
  obtain ⟨p, q, hA0, hV, rfl, hfz, hnd⟩ := hW
  have hA : DataW.TrodAll enc Tryd.prog W 0 (fun _ => true) true Tryd.f3.params.toList args.toList ds p := hA0
  rw [Tryd.params3] at hA hval
  obtain ⟨v0, vs0, d0, ds0, p0, q0, hargs, rfl, rfl, h0, r0⟩ := trodAll_cons hA
  obtain ⟨rfl, rfl, rfl⟩ := trodAll_nil r0
  obtain rfl : args = #[v0] := by cases args; simp_all
  obtain ⟨rfl, rfl⟩ := trodVars_none hV
  obtain ⟨a0, len0, cap0, rfl⟩ := okWide_slice Tryd.underlying22 (hval 0 22 v0 rfl rfl)
  have k0 := h0
  have lt0 : ∀ x ∈ p0, x.block < W.heap.size := by obtain ⟨m, hm⟩ := k0; exact DataW.trod_lt m _ _ _ hm
  obtain ⟨z0, w0⟩ := open_intsIn h0
  clear hA0 hval0
  refine (fnExactGroupText_walk a0 len0 cap0 z0 W w0 (powV_of (by kernel_rfl) (by first | exact .head _ | exact .tail _ (.head _) | exact .tail _ (.tail _ (.head _)) | exact .tail _ (.tail _ (.tail _ (.head _)))) hL)).mono fun e W' ⟨he, bel⟩ => ?_
  subst he
  exact ⟨_, rfl, _, _, _, [], _, [], hW', trodAll_mk1 (shut_bool Tryd.underlying4 _), (trodAll_cons_mk (Below.trod laidOutYes (by kernel_rfl) (of_decide_eq_true (by kernel_rfl)) k0 bel lt0) trodAll_mk0), rfl, bel.frame _, fun h => by cases h⟩

theorem over : Rows.fnExactGroupTextRow.holds Tryd.pinned (OpenSpec.ofChange Rows.fnExactGroupTextSpec) :=
  OpenClaim.holds_of_wide 3 Tryd.f3 rfl rfl rfl rfl rfl rfl rfl ⟨rfl, rfl, rfl, rfl, rfl⟩ rfl rfl rfl rfl rfl (by kernel_rfl) Tryd.func3 (by kernel_rfl)
    (of_decide_eq_true (by kernel_rfl)) (by unfold Func.isWrapper; first | (rw [if_pos (by decide +kernel)]; kernel_rfl) | (rw [if_neg (by decide +kernel)]; exact ⟨rfl, rfl⟩))
    (fun os started H enc _ => lifted os started H enc)

theorem proved : Rows.FnExactGroupTextCardSaid :=
  Claim7.holds_tied_plain_at .later [] [.data, .data, .data] true (true, "fdc43c725705bf310600304d226d47c1706285aead0d74acdcb20ffbc2e0a687") false over (fun _ h => by cases h) (by kernel_rfl) (fun _ h => by cases h) fnExactGroupText_row_tie rfl ⟨rfl, rfl⟩ (by kernel_rfl) rfl
    (fun f fn hf hfn => by
      obtain rfl : f = 3 := Option.some.inj ((show Tryd.prog.funcNamed "loop.example/g03103/laws.FnExactGroupText" = some 3 by kernel_rfl).symm.trans hf) |>.symm
      obtain rfl : fn = Tryd.f3 := (Option.some.inj (Tryd.func3.symm.trans hfn)).symm
      exact ⟨by kernel_rfl, fun j t ht => by
        rw [Tryd.params3] at ht
        have hm : t ∈ [22] := by simpa using Array.mem_of_getElem? ht
        have hall : ([22].all fun u => !Tryd.prog.wantsStandIn u) = true := by kernel_rfl
        exact (show Tryd.prog.wantsStandIn t = false by simpa using List.all_eq_true.1 hall t hm)⟩)
    (by kernel_rfl)
end fnExactGroupText

#print axioms fnExactGroupText.proved
end Go.Proofs.YtnoghnalopdflaaDoor
