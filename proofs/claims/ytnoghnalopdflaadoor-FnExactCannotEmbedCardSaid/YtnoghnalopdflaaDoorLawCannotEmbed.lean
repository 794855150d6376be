/- Proved here: the law FnExactCannotEmbed returns true at every input, and leaves its arguments as they were (the tied card). No condition. -/
import Derived.Test.YtnoghnalopdflaaDoorRows
import Derived.Test.YtnoghnalopdflaaDoorTie
import Derived.Test.YtnoghnalopdflaaDoorCards
import Derived.Test.YtnoghnalopdflaaDoorLawKit
import Derived.Test.YtnoghnalopdflaaDoorDoorWrap
import Derived.Test.YtnoghnalopdflaaDoorSCannot
import Derived.Test.YtnoghnalopdflaaDoorICannot
import Derived.Test.YtnoghnalopdflaaDoorIFormat
namespace Go.Proofs.YtnoghnalopdflaaDoor
open Go.RowKit
set_option linter.all false
set_option maxHeartbeats 1600000 in
set_option maxRecDepth 100000 in
theorem fnExactCannotEmbed_walk (p0 : Option Addr) (n0 c0 : Nat) (z0 : List (List Int)) (p1 : Option Addr) (n1 c1 : Nat) (z1 : List (List Int)) (a2 : Int) (w : World) (h0 : IntssIn w p0 n0 z0) (h1 : IntssIn w p1 n1 z1) (h2 : (Lit.int .i64 a2).wf = true) (hm : PowV w) :
    Calls Tryd.prog 6 #[.slice p0 n0 c0, .slice p1 n1 c1, .int .i64 a2] w fun e w' => e = .returned (.bool true) ∧ Below w.heap.size w w' := by
  have H0 := Lib.hid h0
  have H1 := Lib.hid h1
  have H2 := Lib.hid h2
  clear h0 h1 h2
  have hl0 : 0 ≤ (1048576 : Int) ∧ (1048576 : Int) ≤ 1048576 := by decide
  have hr0 := sz2_range z0 1048576 hl0.1
  by_cases hs0 : (sz2 z0 1048576) < 0
  · go_enter Tryd.func6, Tryd.ntmps6
    go_wp2_with fail
    refine (szIntSS_any _ _ _ z0 _ _ H0.out hl0.1 hl0.2).mono ?_
    rintro e w' ⟨rfl, rfl⟩
    go_wp2_with fail
    go_ret
    exact ⟨rfl, Below.refl _ _⟩
  have hbd0 := sz2_bound (show 0 ≤ (sz2 z0 1048576) by omega)
  have hlt0 : 0 ≤ (sz2 z0 1048576) ∧ (sz2 z0 1048576) ≤ 1048576 := by omega
  have hl1 : 0 ≤ (sz2 z0 1048576) ∧ (sz2 z0 1048576) ≤ 1048576 := by omega
  have hr1 := sz2_range z1 (sz2 z0 1048576) hl1.1
  by_cases hs1 : (sz2 z1 (sz2 z0 1048576)) < 0
  · go_enter Tryd.func6, Tryd.ntmps6
    go_wp2_with fail
    refine (szIntSS_any _ _ _ z0 _ _ H0.out hl0.1 hl0.2).mono ?_
    rintro e w' ⟨rfl, rfl⟩
    go_wp2_with fail
    refine (szIntSS_any _ _ _ z1 _ _ H1.out hl1.1 hl1.2).mono ?_
    rintro e w' ⟨rfl, rfl⟩
    go_wp2_with fail
    go_ret
    exact ⟨rfl, Below.refl _ _⟩
  have hbd1 := sz2_bound (show 0 ≤ (sz2 z1 (sz2 z0 1048576)) by omega)
  have hlt1 : 0 ≤ (sz2 z1 (sz2 z0 1048576)) ∧ (sz2 z1 (sz2 z0 1048576)) ≤ 1048576 := by omega
  have I0 := Lib.hid (H0.out.intss (by have := H0.out.1; omega) (fun r hr => by have := hbd0.2 r hr; omega))
  clear hbd0
  have I1 := Lib.hid (H1.out.intss (by have := H1.out.1; omega) (fun r hr => by have := hbd1.2 r hr; omega))
  clear hbd1
  have he0 := eqL_self z0
  have he1 := eqL_self z1
  go_enter Tryd.func6, Tryd.ntmps6
  go_wp2_with fail
  refine (szIntSS_any _ _ _ z0 _ _ H0.out hl0.1 hl0.2).mono ?_
  rintro e w' ⟨rfl, rfl⟩
  go_wp2_with fail
  refine (szIntSS_any _ _ _ z1 _ _ H1.out hl1.1 hl1.2).mono ?_
  rintro e w' ⟨rfl, rfl⟩
  go_wp2_with fail
  refine (toIntSS_any _ _ _ z0 _ I0.out).mono ?_
  rintro e w1 ⟨gs0, rfl, hos0, hb1⟩
  go_wp2_with fail
  refine (toIntSS_any _ _ _ z1 _ (I1.out.keep hb1)).mono ?_
  rintro e w2 ⟨gs1, rfl, hos1, hb2⟩
  go_wp2_with fail
  refine (ofB (sCannot_any _ _ _ z0 _ _ _ z1 _ _ (hos0.keep hb2).intss hos1.intss)).mono ?_
  rintro e w3 ⟨rfl, hb3⟩
  go_wp2_with fail
  refine (toIntSS_any _ _ _ z0 _ (I0.out.keep (step2 (step2 hb1 hb2) hb3))).mono ?_
  rintro e w4 ⟨gx0, rfl, hox0, hb4⟩
  go_wp2_with fail
  refine (toIntSS_any _ _ _ z1 _ (I1.out.keep (step2 (step2 (step2 hb1 hb2) hb3) hb4))).mono ?_
  rintro e w5 ⟨gx1, rfl, hox1, hb5⟩
  go_wp2_with fail
  refine (ofB (iCannot_any _ _ _ z0 _ _ _ z1 _ _ (hox0.keep hb5).intss hox1.intss)).mono ?_
  rintro e w6 ⟨rfl, hb6⟩
  go_wp2_with fail
  refine (toIntSS_any _ _ _ z0 _ (I0.out.keep (step2 (step2 (step2 (step2 (step2 hb1 hb2) hb3) hb4) hb5) hb6))).mono ?_
  rintro e w7 ⟨ge0, rfl, hoe0, hb7⟩
  go_wp2_with fail
  refine (ofD (eqIntSS_any _ _ _ z0 _ _ _ z0 _ (hox0.keep (step2 (step2 hb5 hb6) hb7)).intss hoe0.intss)).mono ?_
  rintro e w8 ⟨rfl, hb8⟩
  go_wp2_with fail
  refine (toIntSS_any _ _ _ z1 _ (I1.out.keep (step2 (step2 (step2 (step2 (step2 (step2 (step2 hb1 hb2) hb3) hb4) hb5) hb6) hb7) hb8))).mono ?_
  rintro e w9 ⟨ge1, rfl, hoe1, hb9⟩
  go_wp2_with fail
  refine (ofD (eqIntSS_any _ _ _ z1 _ _ _ z1 _ (hox1.keep (step2 (step2 (step2 hb6 hb7) hb8) hb9)).intss hoe1.intss)).mono ?_
  rintro e w10 ⟨rfl, hb10⟩
  go_wp2_with fail
  go_ret
  exact ⟨rfl, (step2 (step2 (step2 (step2 (step2 (step2 (step2 (step2 (step2 hb1 hb2) hb3) hb4) hb5) hb6) hb7) hb8) hb9) hb10)⟩

namespace fnExactCannotEmbed
open Go.ChangeShapes Go.WideShapes Go.ChangeAt
open Go.ChangeMaps (open_string shut_string)
set_option maxRecDepth 100000 in
theorem lifted (os : Os) (started : os.Started) (H : Type) (enc : TypeId × Value → H) :
    ReturnsInHanded {} Tryd.checked os 6 .any (fun w args => (Rows.fnExactCannotEmbedSpec.pre enc Tryd.prog Tryd.f6 [] false w args ∧ laidMetH Tryd.prog Rows.fnExactCannotEmbedRow.laid w) ∧ sizedMet enc Tryd.prog Tryd.f6 (OpenSpec.ofChange Rows.fnExactCannotEmbedSpec) false w args) (Rows.fnExactCannotEmbedSpec.post enc Tryd.prog Tryd.f6 false true false false) := by
  refine returnsInHanded_door (C := Tryd.checked) (X := fun w _ => laidMetH Tryd.prog Rows.fnExactCannotEmbedRow.laid w) (fun _ _ _ hh h => h.of_heap hh) ownKnobNone started (by kernel_rfl) Tryd.func6
    (ChangeSpec.witness_shaped (enc := enc) (C := Tryd.checked) (os := os) (X := fun w _ => laidMetH Tryd.prog Rows.fnExactCannotEmbedRow.laid w) false (World.laidAll Tryd.prog os Rows.fnExactCannotEmbedRow.laid) #[.slice none 0 0, .slice none 0 0, .int .i64 0] 8 (World.laidAll_os _ _ _) (World.shaped_of_ZipB (by kernel_rfl) (by kernel_rfl)) (by kernel_rfl) (by kernel_rfl) (by kernel_rfl)
      (by rw [MakeChecks.laidMetH_plain _ _ _ (by kernel_rfl)]; exact laidMet_laidAll _ (by kernel_rfl) (by kernel_rfl))) ?_
  intro W base args ds gs before hval0 hW hL hsh
  have hval : ∀ (j : Nat) t v, Tryd.f6.params[j]? = some t → args[j]? = some v → Value.okWide Tryd.prog W .any base t v := hval0
  have hW' := hW
  obtain ⟨p, q, hA0, hV, rfl, hfz, hnd⟩ := hW
  have hA : DataW.TrodAll enc Tryd.prog W 0 (fun _ => true) true Tryd.f6.params.toList args.toList ds p := hA0
  rw [Tryd.params6] at hA hval
  obtain ⟨v0, vs0, d0, ds0, p0, q0, hargs, rfl, rfl, h0, r0⟩ := trodAll_cons hA
  obtain ⟨v1, vs1, d1, ds1, p1, q1, rfl, rfl, rfl, h1, r1⟩ := trodAll_cons r0
  obtain ⟨v2, vs2, d2, ds2, p2, q2, rfl, rfl, rfl, h2, r2⟩ := trodAll_cons r1
  obtain ⟨rfl, rfl, rfl⟩ := trodAll_nil r2
  obtain rfl : args = #[v0, v1, v2] := by cases args; simp_all
  obtain ⟨rfl, rfl⟩ := trodVars_none hV
  obtain ⟨a0, len0, cap0, rfl⟩ := okWide_slice Tryd.underlying32 (hval 0 32 v0 rfl rfl)
  have k0 := h0
  have lt0 : ∀ x ∈ p0, x.block < W.heap.size := by obtain ⟨m, hm⟩ := k0; exact DataW.trod_lt m _ _ _ hm
  obtain ⟨z0, w0⟩ := open_intssIn h0
  obtain ⟨a1, len1, cap1, rfl⟩ := okWide_slice Tryd.underlying32 (hval 1 32 v1 rfl rfl)
  have k1 := h1
  have lt1 : ∀ x ∈ p1, x.block < W.heap.size := by obtain ⟨m, hm⟩ := k1; exact DataW.trod_lt m _ _ _ hm
  obtain ⟨z1, w1⟩ := open_intssIn h1
  obtain ⟨a2, rfl, rfl, rfl, w2⟩ := open_int Tryd.underlying3 (hval 2 3 v2 rfl rfl) h2
  clear hA0 hval0
  refine (fnExactCannotEmbed_walk a0 len0 cap0 z0 a1 len1 cap1 z1 a2 W w0 w1 w2 (powV_of (by kernel_rfl) (by first | exact .head _ | exact .tail _ (.head _) | exact .tail _ (.tail _ (.head _)) | exact .tail _ (.tail _ (.tail _ (.head _)))) hL)).mono fun e W' ⟨he, bel⟩ => ?_
  subst he
  exact ⟨_, rfl, _, _, _, [], _, [], hW', trodAll_mk1 (shut_bool Tryd.underlying4 _), (trodAll_cons_mk (Below.trod laidOutYes (by kernel_rfl) (of_decide_eq_true (by kernel_rfl)) k0 bel lt0) (trodAll_cons_mk (Below.trod laidOutYes (by kernel_rfl) (of_decide_eq_true (by kernel_rfl)) k1 bel lt1) (trodAll_cons_mk (shut_int Tryd.underlying3 w2) trodAll_mk0))), rfl, bel.frame _, fun h => by cases h⟩

theorem over : Rows.fnExactCannotEmbedRow.holds Tryd.pinned (OpenSpec.ofChange Rows.fnExactCannotEmbedSpec) :=
  OpenClaim.holds_of_wide 6 Tryd.f6 rfl rfl rfl rfl rfl rfl rfl ⟨rfl, rfl, rfl, rfl, rfl⟩ rfl rfl rfl rfl rfl (by kernel_rfl) Tryd.func6 (by kernel_rfl)
    (of_decide_eq_true (by kernel_rfl)) (by unfold Func.isWrapper; first | (rw [if_pos (by decide +kernel)]; kernel_rfl) | (rw [if_neg (by decide +kernel)]; exact ⟨rfl, rfl⟩))
    (fun os started H enc _ => lifted os started H enc)

theorem proved : Rows.FnExactCannotEmbedCardSaid :=
  Claim7.holds_tied_plain_at .later [] [.data, .data, .data] true (true, "fdc43c725705bf310600304d226d47c1706285aead0d74acdcb20ffbc2e0a687") false over (fun _ h => by cases h) (by kernel_rfl) (fun _ h => by cases h) fnExactCannotEmbed_row_tie rfl ⟨rfl, rfl⟩ (by kernel_rfl) rfl
    (fun f fn hf hfn => by
      obtain rfl : f = 6 := Option.some.inj ((show Tryd.prog.funcNamed "loop.example/g03103/laws.FnExactCannotEmbed" = some 6 by kernel_rfl).symm.trans hf) |>.symm
      obtain rfl : fn = Tryd.f6 := (Option.some.inj (Tryd.func6.symm.trans hfn)).symm
      exact ⟨by kernel_rfl, fun j t ht => by
        rw [Tryd.params6] at ht
        have hm : t ∈ [32, 32, 3] := by simpa using Array.mem_of_getElem? ht
        have hall : ([32, 32, 3].all fun u => !Tryd.prog.wantsStandIn u) = true := by kernel_rfl
        exact (show Tryd.prog.wantsStandIn t = false by simpa using List.all_eq_true.1 hall t hm)⟩)
    (by kernel_rfl)
end fnExactCannotEmbed

#print axioms fnExactCannotEmbed.proved
end Go.Proofs.YtnoghnalopdflaaDoor
