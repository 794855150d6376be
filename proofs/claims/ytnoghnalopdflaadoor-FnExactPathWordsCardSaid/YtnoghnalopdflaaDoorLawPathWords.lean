/- Proved here: the law FnExactPathWords returns true at every input, leaves its argument as it was, and what the program returns shares no memory (the tied card). No condition. -/
import Derived.Test.YtnoghnalopdflaaDoorRows
import Derived.Test.YtnoghnalopdflaaDoorTie
import Derived.Test.YtnoghnalopdflaaDoorCards
import Derived.Test.YtnoghnalopdflaaDoorLawKit
import Derived.Test.YtnoghnalopdflaaDoorDoorWrap
import Derived.Test.YtnoghnalopdflaaDoorLawStrs
import Derived.Test.YtnoghnalopdflaaDoorSPathW
import Derived.Test.YtnoghnalopdflaaDoorIPathW
import Derived.Test.YtnoghnalopdflaaDoorIFormat
namespace Go.Proofs.YtnoghnalopdflaaDoor
open Go.RowKit
set_option linter.all false
set_option maxHeartbeats 3200000 in
set_option maxRecDepth 100000 in
theorem fnExactPathWords_walk (p0 : Option Addr) (n0 c0 : Nat) (z0 : List (List Int)) (a1 : Int) (w : World) (h0 : IntssIn w p0 n0 z0) (h1 : (Lit.int .i64 a1).wf = true) (hm : PowV w) :
    Calls Tryd.prog 5 #[.slice p0 n0 c0, .int .i64 a1] w fun e w' => e = .returned (.bool true) ∧ Below w.heap.size w w' := by
  have H0 := Lib.hid h0
  have H1 := Lib.hid h1
  clear h0 h1
  have hl0 : 0 ≤ (1048576 : Int) ∧ (1048576 : Int) ≤ 1048576 := by decide
  have hr0 := sz2_range z0 1048576 hl0.1
  by_cases hs0 : (sz2 z0 1048576) < 0
  · go_enter Tryd.func5, Tryd.ntmps5
    go_wp2_with fail
    refine (szIntSS_any _ _ _ z0 _ _ H0.out hl0.1 hl0.2).mono ?_
    rintro e w' ⟨rfl, rfl⟩
    go_wp2_with fail
    go_ret
    exact ⟨rfl, Below.refl _ _⟩
  have hbd0 := sz2_bound (show 0 ≤ (sz2 z0 1048576) by omega)
  have htt0 := sz2_tot (show 0 ≤ (sz2 z0 1048576) by omega)
  have htu0 := tot_nonneg z0
  have hlt0 : 0 ≤ (sz2 z0 1048576) ∧ (sz2 z0 1048576) ≤ 1048576 := by omega
  have I0 := Lib.hid (H0.out.intss (by have := H0.out.1; omega) (fun r hr => by have := hbd0.2 r hr; omega))
  clear hbd0
  have he0 := eqL_self z0
  have hq : (((1 : Int) + ((pathW z0 a1).length : Int)) != ((1 : Int) + ((pathW z0 a1).length : Int))) = false := by simp
  go_enter Tryd.func5, Tryd.ntmps5
  go_wp2_with fail
  refine (szIntSS_any _ _ _ z0 _ _ H0.out hl0.1 hl0.2).mono ?_
  rintro e w' ⟨rfl, rfl⟩
  go_wp2_with fail
  refine (toIntSS_any _ _ _ z0 _ I0.out).mono ?_
  rintro e w1 ⟨gs0, rfl, hos0, hb1⟩
  go_wp2_with fail
  refine (sPathW_any _ _ _ z0 _ _ hos0.read).mono ?_
  rintro e w2 ⟨vR, rfl, hpR, hb2⟩
  obtain ⟨aR, cR, rfl, _⟩ := hpR.form
  have hoR : OStrs _ w1.heap.size _ (pathW z0 a1).length (pathW z0 a1) := hpR
  clear hpR
  go_wp2_with fail
  refine (toIntSS_any _ _ _ z0 _ (I0.out.keep (step2 hb1 hb2))).mono ?_
  rintro e w3 ⟨gx0, rfl, hox0, hb3⟩
  go_wp2_with fail
  refine (iPathW_any _ _ _ z0 _ _ hox0.read).mono ?_
  rintro e w4 ⟨vG, rfl, hpG, hb4⟩
  obtain ⟨aG, cG, rfl, _⟩ := hpG.form
  have hoG : OStrs _ w3.heap.size _ (pathW z0 a1).length (pathW z0 a1) := hpG
  clear hpG
  go_wp2_with fail
  refine (ofD (eqStrS_same _ _ _ _ _ (pathW z0 a1) _ hoG.read (hoR.since (Since.below (Since.below (Since.refl _ _ _) hb3 (Nat.le_refl _)) hb4 hb3.size)).read)).mono ?_
  rintro e w5 ⟨rfl, hb5⟩
  go_wp2_with fail
  refine (toIntSS_any _ _ _ z0 _ (I0.out.keep (step2 (step2 (step2 (step2 hb1 hb2) hb3) hb4) hb5))).mono ?_
  rintro e w6 ⟨ge0, rfl, hoe0, hb6⟩
  go_wp2_with fail
  refine (ofD (eqIntSS_any _ _ _ z0 _ _ _ z0 _ (hox0.since (Since.below (Since.below (Since.below (Since.refl _ _ _) hb4 (Nat.le_refl _)) hb5 hb4.size) hb6 (Nat.le_trans hb4.size hb5.size))).read hoe0.read)).mono ?_
  rintro e w7 ⟨rfl, hb7⟩
  go_wp2_with fail
  refine (markIntSS_in _ _ _ (z0) 1 _ _ _ hox0 (Since.below (Since.below (Since.below (Since.below (Since.refl _ _ _) hb4 (Nat.le_refl _)) hb5 hb4.size) hb6 (Nat.le_trans hb4.size hb5.size)) hb7 (Nat.le_trans (Nat.le_trans hb4.size hb5.size) hb6.size)) (by omega) (by omega)).mono ?_
  rintro e w8 ⟨rfl, hin8, hmx0⟩
  go_wp2_with fail
  refine (ofD (eqStrS_same _ _ _ _ _ (pathW z0 a1) _ (hoG.since (Since.newer (Since.below (Since.below (Since.below (Since.refl _ _ _) hb5 (Nat.le_refl _)) hb6 hb5.size) hb7 (Nat.le_trans hb5.size hb6.size)) hin8 (Nat.le_refl _) (Nat.le_trans (Nat.le_trans hb5.size hb6.size) hb7.size))).read (hoR.since (Since.older (Since.below (Since.below (Since.below (Since.below (Since.below (Since.refl _ _ _) hb3 (Nat.le_refl _)) hb4 hb3.size) hb5 (Nat.le_trans hb3.size hb4.size)) hb6 (Nat.le_trans (Nat.le_trans hb3.size hb4.size) hb5.size)) hb7 (Nat.le_trans (Nat.le_trans (Nat.le_trans hb3.size hb4.size) hb5.size) hb6.size)) hin8 (Nat.le_refl _) (Nat.le_trans (Nat.le_trans (Nat.le_trans (Nat.le_trans hb3.size hb4.size) hb5.size) hb6.size) hb7.size))).read)).mono ?_
  rintro e w9 ⟨rfl, hb9⟩
  go_wp2_with fail
  refine (markStrS_in _ _ _ (pathW z0 a1) _ _ _ hoG (Since.below (Since.newer (Since.below (Since.below (Since.below (Since.refl _ _ _) hb5 (Nat.le_refl _)) hb6 hb5.size) hb7 (Nat.le_trans hb5.size hb6.size)) hin8 (Nat.le_refl _) (Nat.le_trans (Nat.le_trans hb5.size hb6.size) hb7.size)) hb9 (Nat.le_trans (Nat.le_trans (Nat.le_trans hb5.size hb6.size) hb7.size) hin8.size))).mono ?_
  rintro e w10 ⟨rfl, hin10, hmG⟩
  go_wp2_with fail
  refine (heldStrS_any _ _ _ _ hmG.read).mono ?_
  rintro e w11 ⟨rfl, hb11⟩
  go_wp2_with fail
  refine (toIntSS_any _ _ _ z0 _ (I0.out.keep (step2 (Below.past (step2 (Below.past (step2 (step2 (step2 (step2 (step2 (step2 hb1 hb2) hb3) hb4) hb5) hb6) hb7) hin8 (Nat.le_trans (Nat.le_trans (Nat.le_trans (Nat.le_trans hb3.size hb4.size) hb5.size) hb6.size) hb7.size) (Nat.le_trans hb1.size hb2.size)) hb9) hin10 (Nat.le_trans (Nat.le_trans (Nat.le_trans (Nat.le_trans (Nat.le_trans hb4.size hb5.size) hb6.size) hb7.size) hin8.size) hb9.size) (Nat.le_trans (Nat.le_trans hb1.size hb2.size) hb3.size)) hb11))).mono ?_
  rintro e w12 ⟨gy0, rfl, hoy0, hb12⟩
  go_wp2_with fail
  refine (iPathW_any _ _ _ z0 _ _ hoy0.read).mono ?_
  rintro e w13 ⟨vQ, rfl, hpQ, hb13⟩
  obtain ⟨aQ, cQ, rfl, _⟩ := hpQ.form
  have hoQ : OStrs _ w12.heap.size _ (pathW z0 a1).length (pathW z0 a1) := hpQ
  clear hpQ
  go_wp2_with fail
  refine (ofD (eqStrS_same _ _ _ _ _ (pathW z0 a1) _ hoQ.read (hoR.since (Since.below (Since.below (Since.below (Since.older (Since.below (Since.older (Since.below (Since.below (Since.below (Since.below (Since.below (Since.refl _ _ _) hb3 (Nat.le_refl _)) hb4 hb3.size) hb5 (Nat.le_trans hb3.size hb4.size)) hb6 (Nat.le_trans (Nat.le_trans hb3.size hb4.size) hb5.size)) hb7 (Nat.le_trans (Nat.le_trans (Nat.le_trans hb3.size hb4.size) hb5.size) hb6.size)) hin8 (Nat.le_refl _) (Nat.le_trans (Nat.le_trans (Nat.le_trans (Nat.le_trans hb3.size hb4.size) hb5.size) hb6.size) hb7.size)) hb9 (Nat.le_trans (Nat.le_trans (Nat.le_trans (Nat.le_trans (Nat.le_trans hb3.size hb4.size) hb5.size) hb6.size) hb7.size) hin8.size)) hin10 hb3.size (Nat.le_trans (Nat.le_trans (Nat.le_trans (Nat.le_trans (Nat.le_trans (Nat.le_trans hb3.size hb4.size) hb5.size) hb6.size) hb7.size) hin8.size) hb9.size)) hb11 (Nat.le_trans (Nat.le_trans (Nat.le_trans (Nat.le_trans (Nat.le_trans (Nat.le_trans (Nat.le_trans hb3.size hb4.size) hb5.size) hb6.size) hb7.size) hin8.size) hb9.size) hin10.size)) hb12 (Nat.le_trans (Nat.le_trans (Nat.le_trans (Nat.le_trans (Nat.le_trans (Nat.le_trans (Nat.le_trans (Nat.le_trans hb3.size hb4.size) hb5.size) hb6.size) hb7.size) hin8.size) hb9.size) hin10.size) hb11.size)) hb13 (Nat.le_trans (Nat.le_trans (Nat.le_trans (Nat.le_trans (Nat.le_trans (Nat.le_trans (Nat.le_trans (Nat.le_trans (Nat.le_trans hb3.size hb4.size) hb5.size) hb6.size) hb7.size) hin8.size) hb9.size) hin10.size) hb11.size) hb12.size))).read)).mono ?_
  rintro e w14 ⟨rfl, hb14⟩
  go_wp2_with fail
  refine (heldStrS_any _ _ _ _ (hmG.since (Since.below (Since.below (Since.below (Since.below (Since.refl _ _ _) hb11 (Nat.le_refl _)) hb12 hb11.size) hb13 (Nat.le_trans hb11.size hb12.size)) hb14 (Nat.le_trans (Nat.le_trans hb11.size hb12.size) hb13.size))).read).mono ?_
  rintro e w15 ⟨rfl, hb15⟩
  go_wp2_with fail
  go_ret
  exact ⟨rfl, (step2 (step2 (step2 (step2 (step2 (Below.past (step2 (Below.past (step2 (step2 (step2 (step2 (step2 (step2 hb1 hb2) hb3) hb4) hb5) hb6) hb7) hin8 (Nat.le_trans (Nat.le_trans (Nat.le_trans (Nat.le_trans hb3.size hb4.size) hb5.size) hb6.size) hb7.size) (Nat.le_trans hb1.size hb2.size)) hb9) hin10 (Nat.le_trans (Nat.le_trans (Nat.le_trans (Nat.le_trans (Nat.le_trans hb4.size hb5.size) hb6.size) hb7.size) hin8.size) hb9.size) (Nat.le_trans (Nat.le_trans hb1.size hb2.size) hb3.size)) hb11) hb12) hb13) hb14) hb15)⟩

namespace fnExactPathWords
open Go.ChangeShapes Go.WideShapes Go.ChangeAt
open Go.ChangeMaps (open_string shut_string)
set_option maxRecDepth 100000 in
theorem lifted (os : Os) (started : os.Started) (H : Type) (enc : TypeId × Value → H) :
    ReturnsInHanded {} Tryd.checked os 5 .any (fun w args => (Rows.fnExactPathWordsSpec.pre enc Tryd.prog Tryd.f5 [] false w args ∧ laidMetH Tryd.prog Rows.fnExactPathWordsRow.laid w) ∧ sizedMet enc Tryd.prog Tryd.f5 (OpenSpec.ofChange Rows.fnExactPathWordsSpec) false w args) (Rows.fnExactPathWordsSpec.post enc Tryd.prog Tryd.f5 false true false false) := by
  refine returnsInHanded_door (C := Tryd.checked) (X := fun w _ => laidMetH Tryd.prog Rows.fnExactPathWordsRow.laid w) (fun _ _ _ hh h => h.of_heap hh) ownKnobNone started (by kernel_rfl) Tryd.func5
    (ChangeSpec.witness_shaped (enc := enc) (C := Tryd.checked) (os := os) (X := fun w _ => laidMetH Tryd.prog Rows.fnExactPathWordsRow.laid w) false (World.laidAll Tryd.prog os Rows.fnExactPathWordsRow.laid) #[.slice none 0 0, .int .i64 0] 8 (World.laidAll_os _ _ _) (World.shaped_of_ZipB (by kernel_rfl) (by kernel_rfl)) (by kernel_rfl) (by kernel_rfl) (by kernel_rfl)
      (by rw [MakeChecks.laidMetH_plain _ _ _ (by kernel_rfl)]; exact laidMet_laidAll _ (by kernel_rfl) (by kernel_rfl))) ?_
  intro W base args ds gs before hval0 hW hL hsh
  have hval : ∀ (j : Nat) t v, Tryd.f5.params[j]? = some t → args[j]? = some v → Value.okWide Tryd.prog W .any base t v := hval0
  have hW' := hW
  obtain ⟨p, q, hA0, hV, rfl, hfz, hnd⟩ := hW
  have hA : DataW.TrodAll enc Tryd.prog W 0 (fun _ => true) true Tryd.f5.params.toList args.toList ds p := hA0
  rw [Tryd.params5] at hA hval
  obtain ⟨v0, vs0, d0, ds0, p0, q0, hargs, rfl, rfl, h0, r0⟩ := trodAll_cons hA
  obtain ⟨v1, vs1, d1, ds1, p1, q1, rfl, rfl, rfl, h1, r1⟩ := trodAll_cons r0
  obtain ⟨rfl, rfl, rfl⟩ := trodAll_nil r1
  obtain rfl : args = #[v0, v1] := by cases args; simp_all
  obtain ⟨rfl, rfl⟩ := trodVars_none hV
  obtain ⟨a0, len0, cap0, rfl⟩ := okWide_slice Tryd.underlying32 (hval 0 32 v0 rfl rfl)
  have k0 := h0
  have lt0 : ∀ x ∈ p0, x.block < W.heap.size := by obtain ⟨m, hm⟩ := k0; exact DataW.trod_lt m _ _ _ hm
  obtain ⟨z0, w0⟩ := open_intssIn h0
  obtain ⟨a1, rfl, rfl, rfl, w1⟩ := open_int Tryd.underlying3 (hval 1 3 v1 rfl rfl) h1
  clear hA0 hval0
  refine (fnExactPathWords_walk a0 len0 cap0 z0 a1 W w0 w1 (powV_of (by kernel_rfl) (by first | exact .head _ | exact .tail _ (.head _) | exact .tail _ (.tail _ (.head _)) | exact .tail _ (.tail _ (.tail _ (.head _)))) hL)).mono fun e W' ⟨he, bel⟩ => ?_
  subst he
  exact ⟨_, rfl, _, _, _, [], _, [], hW', trodAll_mk1 (shut_bool Tryd.underlying4 _), (trodAll_cons_mk (Below.trod laidOutYes (by kernel_rfl) (of_decide_eq_true (by kernel_rfl)) k0 bel lt0) (trodAll_cons_mk (shut_int Tryd.underlying3 w1) trodAll_mk0)), rfl, bel.frame _, fun h => by cases h⟩

theorem over : Rows.fnExactPathWordsRow.holds Tryd.pinned (OpenSpec.ofChange Rows.fnExactPathWordsSpec) :=
  OpenClaim.holds_of_wide 5 Tryd.f5 rfl rfl rfl rfl rfl rfl rfl ⟨rfl, rfl, rfl, rfl, rfl⟩ rfl rfl rfl rfl rfl (by kernel_rfl) Tryd.func5 (by kernel_rfl)
    (of_decide_eq_true (by kernel_rfl)) (by unfold Func.isWrapper; first | (rw [if_pos (by decide +kernel)]; kernel_rfl) | (rw [if_neg (by decide +kernel)]; exact ⟨rfl, rfl⟩))
    (fun os started H enc _ => lifted os started H enc)

theorem proved : Rows.FnExactPathWordsCardSaid :=
  Claim7.holds_tied_plain_at .later [] [.data, .data, .data] true (true, "fdc43c725705bf310600304d226d47c1706285aead0d74acdcb20ffbc2e0a687") false over (fun _ h => by cases h) (by kernel_rfl) (fun _ h => by cases h) fnExactPathWords_row_tie rfl ⟨rfl, rfl⟩ (by kernel_rfl) rfl
    (fun f fn hf hfn => by
      obtain rfl : f = 5 := Option.some.inj ((show Tryd.prog.funcNamed "loop.example/g03103/laws.FnExactPathWords" = some 5 by kernel_rfl).symm.trans hf) |>.symm
      obtain rfl : fn = Tryd.f5 := (Option.some.inj (Tryd.func5.symm.trans hfn)).symm
      exact ⟨by kernel_rfl, fun j t ht => by
        rw [Tryd.params5] at ht
        have hm : t ∈ [32, 3] := by simpa using Array.mem_of_getElem? ht
        have hall : ([32, 3].all fun u => !Tryd.prog.wantsStandIn u) = true := by kernel_rfl
        exact (show Tryd.prog.wantsStandIn t = false by simpa using List.all_eq_true.1 hall t hm)⟩)
    (by kernel_rfl)
end fnExactPathWords

#print axioms fnExactPathWords.proved
end Go.Proofs.YtnoghnalopdflaaDoor
