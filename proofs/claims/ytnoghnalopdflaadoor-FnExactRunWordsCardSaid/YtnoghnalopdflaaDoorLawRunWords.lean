/- Proved here: the law FnExactRunWords returns true at every input, and what the program returns shares no memory (the tied card). No condition. -/
import Derived.Test.YtnoghnalopdflaaDoorRows
import Derived.Test.YtnoghnalopdflaaDoorTie
import Derived.Test.YtnoghnalopdflaaDoorCards
import Derived.Test.YtnoghnalopdflaaDoorLawKit
import Derived.Test.YtnoghnalopdflaaDoorDoorWrap
import Derived.Test.YtnoghnalopdflaaDoorLawStrs
import Derived.Test.YtnoghnalopdflaaDoorSRunW
import Derived.Test.YtnoghnalopdflaaDoorIRunW
namespace Go.Proofs.YtnoghnalopdflaaDoor
open Go.RowKit
set_option linter.all false
set_option maxHeartbeats 3200000 in
set_option maxRecDepth 100000 in
theorem fnExactRunWords_walk (a0 : Int) (a1 : Int) (a2 : Int) (w : World) (h0 : (Lit.int .i64 a0).wf = true) (h1 : (Lit.int .i64 a1).wf = true) (h2 : (Lit.int .i64 a2).wf = true) (hm : MaxL w) :
    Calls Tryd.prog 4 #[.int .i64 a0, .int .i64 a1, .int .i64 a2] w fun e w' => e = .returned (.bool true) ∧ Below w.heap.size w w' := by
  have H0 := Lib.hid h0
  have H1 := Lib.hid h1
  have H2 := Lib.hid h2
  clear h0 h1 h2
  have hq : (((1 : Int) + ((runWV a0 a1 a2).length : Int)) != ((1 : Int) + ((runWV a0 a1 a2).length : Int))) = false := by simp
  go_enter Tryd.func4, Tryd.ntmps4
  go_wp2_with fail
  refine (sRunWords_any _ _ _ _ ).mono ?_
  rintro e w1 ⟨vR, rfl, hpR, hb1⟩
  obtain ⟨aR, cR, rfl, _⟩ := hpR.form
  have hoR := hpR
  clear hpR
  go_wp2_with fail
  refine (iRunWords_any _ _ _ _  (hm.keep hb1)).mono ?_
  rintro e w2 ⟨vG, rfl, hpG, hb2⟩
  obtain ⟨aG, cG, rfl, _⟩ := hpG.form
  have hoG : OStrs _ w1.heap.size _ (runWV a0 a1 a2).length (runWV a0 a1 a2) := hpG
  clear hpG
  go_wp2_with fail
  refine (ofD (eqStrS_same _ _ _ _ _ (runWV a0 a1 a2) _ hoG.read (hoR.since (Since.below (Since.refl _ _ _) hb2 (Nat.le_refl _))).read)).mono ?_
  rintro e w3 ⟨rfl, hb3⟩
  go_wp2_with fail
  refine (markStrS_in _ _ _ (runWV a0 a1 a2) _ _ _ hoG (Since.below (Since.refl _ _ _) hb3 (Nat.le_refl _))).mono ?_
  rintro e w4 ⟨rfl, hin4, hmG⟩
  go_wp2_with fail
  refine (heldStrS_any _ _ _ _ hmG.read).mono ?_
  rintro e w5 ⟨rfl, hb5⟩
  go_wp2_with fail
  refine (iRunWords_any _ _ _ _  (hm.keep (step2 (Below.past (step2 (step2 hb1 hb2) hb3) hin4 (Nat.le_trans hb2.size hb3.size) hb1.size) hb5))).mono ?_
  rintro e w6 ⟨vQ, rfl, hpQ, hb6⟩
  obtain ⟨aQ, cQ, rfl, _⟩ := hpQ.form
  have hoQ : OStrs _ w5.heap.size _ (runWV a0 a1 a2).length (runWV a0 a1 a2) := hpQ
  clear hpQ
  go_wp2_with fail
  refine (ofD (eqStrS_same _ _ _ _ _ (runWV a0 a1 a2) _ hoQ.read (hoR.since (Since.below (Since.below (Since.older (Since.below (Since.below (Since.refl _ _ _) hb2 (Nat.le_refl _)) hb3 hb2.size) hin4 (Nat.le_refl _) (Nat.le_trans hb2.size hb3.size)) hb5 (Nat.le_trans (Nat.le_trans hb2.size hb3.size) hin4.size)) hb6 (Nat.le_trans (Nat.le_trans (Nat.le_trans hb2.size hb3.size) hin4.size) hb5.size))).read)).mono ?_
  rintro e w7 ⟨rfl, hb7⟩
  go_wp2_with fail
  refine (heldStrS_any _ _ _ _ (hmG.since (Since.below (Since.below (Since.below (Since.refl _ _ _) hb5 (Nat.le_refl _)) hb6 hb5.size) hb7 (Nat.le_trans hb5.size hb6.size))).read).mono ?_
  rintro e w8 ⟨rfl, hb8⟩
  go_wp2_with fail
  go_ret
  exact ⟨rfl, (step2 (step2 (step2 (step2 (Below.past (step2 (step2 hb1 hb2) hb3) hin4 (Nat.le_trans hb2.size hb3.size) hb1.size) hb5) hb6) hb7) hb8)⟩

namespace fnExactRunWords
open Go.ChangeShapes Go.WideShapes Go.ChangeAt
open Go.ChangeMaps (open_string shut_string)
set_option maxRecDepth 100000 in
theorem lifted (os : Os) (started : os.Started) (H : Type) (enc : TypeId × Value → H) :
    ReturnsInHanded {} Tryd.checked os 4 .any (fun w args => (Rows.fnExactRunWordsSpec.pre enc Tryd.prog Tryd.f4 [] false w args ∧ laidMetH Tryd.prog Rows.fnExactRunWordsRow.laid w) ∧ sizedMet enc Tryd.prog Tryd.f4 (OpenSpec.ofChange Rows.fnExactRunWordsSpec) false w args) (Rows.fnExactRunWordsSpec.post enc Tryd.prog Tryd.f4 false true false false) := by
  refine returnsInHanded_door (C := Tryd.checked) (X := fun w _ => laidMetH Tryd.prog Rows.fnExactRunWordsRow.laid w) (fun _ _ _ hh h => h.of_heap hh) ownKnobNone started (by kernel_rfl) Tryd.func4
    (ChangeSpec.witness_shaped (enc := enc) (C := Tryd.checked) (os := os) (X := fun w _ => laidMetH Tryd.prog Rows.fnExactRunWordsRow.laid w) false (World.laidAll Tryd.prog os Rows.fnExactRunWordsRow.laid) #[.int .i64 0, .int .i64 0, .int .i64 0] 8 (World.laidAll_os _ _ _) (World.shaped_of_ZipB (by kernel_rfl) (by kernel_rfl)) (by kernel_rfl) (by kernel_rfl) (by kernel_rfl)
      (by rw [MakeChecks.laidMetH_plain _ _ _ (by kernel_rfl)]; exact laidMet_laidAll _ (by kernel_rfl) (by kernel_rfl))) ?_
  intro W base args ds gs before hval0 hW hL hsh
  have hval : ∀ (j : Nat) t v, Tryd.f4.params[j]? = some t → args[j]? = some v → Value.okWide Tryd.prog W .any base t v := hval0
  have hW' := hW
  obtain ⟨p, q, hA0, hV, rfl, hfz, hnd⟩ := hW
  have hA : DataW.TrodAll enc Tryd.prog W 0 (fun _ => true) true Tryd.f4.params.toList args.toList ds p := hA0
  rw [Tryd.params4] at hA hval
  obtain ⟨v0, vs0, d0, ds0, p0, q0, hargs, rfl, rfl, h0, r0⟩ := trodAll_cons hA
  obtain ⟨v1, vs1, d1, ds1, p1, q1, rfl, rfl, rfl, h1, r1⟩ := trodAll_cons r0
  obtain ⟨v2, vs2, d2, ds2, p2, q2, rfl, rfl, rfl, h2, r2⟩ := trodAll_cons r1
  obtain ⟨rfl, rfl, rfl⟩ := trodAll_nil r2
  obtain rfl : args = #[v0, v1, v2] := by cases args; simp_all
  obtain ⟨rfl, rfl⟩ := trodVars_none hV
  obtain ⟨a0, rfl, rfl, rfl, w0⟩ := open_int Tryd.underlying3 (hval 0 3 v0 rfl rfl) h0
  obtain ⟨a1, rfl, rfl, rfl, w1⟩ := open_int Tryd.underlying3 (hval 1 3 v1 rfl rfl) h1
  obtain ⟨a2, rfl, rfl, rfl, w2⟩ := open_int Tryd.underlying3 (hval 2 3 v2 rfl rfl) h2
  clear hA0 hval0
  refine (fnExactRunWords_walk a0 a1 a2 W w0 w1 w2 (maxL_of hsh)).mono fun e W' ⟨he, bel⟩ => ?_
  subst he
  exact ⟨_, rfl, _, _, _, [], _, [], hW', trodAll_mk1 (shut_bool Tryd.underlying4 _), (trodAll_cons_mk (shut_int Tryd.underlying3 w0) (trodAll_cons_mk (shut_int Tryd.underlying3 w1) (trodAll_cons_mk (shut_int Tryd.underlying3 w2) trodAll_mk0))), rfl, bel.frame _, fun h => by cases h⟩

theorem over : Rows.fnExactRunWordsRow.holds Tryd.pinned (OpenSpec.ofChange Rows.fnExactRunWordsSpec) :=
  OpenClaim.holds_of_wide 4 Tryd.f4 rfl rfl rfl rfl rfl rfl rfl ⟨rfl, rfl, rfl, rfl, rfl⟩ rfl rfl rfl rfl rfl (by kernel_rfl) Tryd.func4 (by kernel_rfl)
    (of_decide_eq_true (by kernel_rfl)) (by unfold Func.isWrapper; first | (rw [if_pos (by decide +kernel)]; kernel_rfl) | (rw [if_neg (by decide +kernel)]; exact ⟨rfl, rfl⟩))
    (fun os started H enc _ => lifted os started H enc)

theorem proved : Rows.FnExactRunWordsCardSaid :=
  Claim7.holds_tied_plain_at .later [] [.data, .pinned] true (true, "fdc43c725705bf310600304d226d47c1706285aead0d74acdcb20ffbc2e0a687") false over (fun _ h => by cases h) (by kernel_rfl) (fun _ h => by cases h) fnExactRunWords_row_tie rfl ⟨rfl, rfl⟩ (by kernel_rfl) rfl
    (fun f fn hf hfn => by
      obtain rfl : f = 4 := Option.some.inj ((show Tryd.prog.funcNamed "loop.example/g03103/laws.FnExactRunWords" = some 4 by kernel_rfl).symm.trans hf) |>.symm
      obtain rfl : fn = Tryd.f4 := (Option.some.inj (Tryd.func4.symm.trans hfn)).symm
      exact ⟨by kernel_rfl, fun j t ht => by
        rw [Tryd.params4] at ht
        have hm : t ∈ [3, 3, 3] := by simpa using Array.mem_of_getElem? ht
        have hall : ([3, 3, 3].all fun u => !Tryd.prog.wantsStandIn u) = true := by kernel_rfl
        exact (show Tryd.prog.wantsStandIn t = false by simpa using List.all_eq_true.1 hall t hm)⟩)
    (by kernel_rfl)
end fnExactRunWords

#print axioms fnExactRunWords.proved
end Go.Proofs.YtnoghnalopdflaaDoor
