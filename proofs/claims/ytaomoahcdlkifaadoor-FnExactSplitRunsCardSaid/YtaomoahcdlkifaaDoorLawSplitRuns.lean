/- Proved here: the law FnExactSplitRuns returns true at every input (the tied card). No condition. -/
import Derived.Test.YtaomoahcdlkifaaDoorRows
import Derived.Test.YtaomoahcdlkifaaDoorTie
import Derived.Test.YtaomoahcdlkifaaDoorCards
import Derived.Test.YtaomoahcdlkifaaDoorLawKit
import Derived.Test.YtaomoahcdlkifaaDoorDoorWrap
import Derived.Test.YtaomoahcdlkifaaDoorSplitRunsC
namespace Go.Proofs.YtaomoahcdlkifaaDoor
open Go.RowKit
set_option linter.all false
set_option maxHeartbeats 6400000 in
set_option maxRecDepth 100000 in
theorem fnExactSplitRuns_walk (a0 : Int) (a1 : Int) (a2 : ByteArray) (w : World) (h0 : (Lit.int .i64 a0).wf = true) (h1 : (Lit.int .i64 a1).wf = true) (h2 : a2.size ≤ maxLen) (hm : MaxL w) :
    Calls Tryd.prog 4 #[.int .i64 a0, .int .i64 a1, .string a2] w fun e w' => e = .returned (.bool true) ∧ Below w.heap.size w w' := by
  by_cases hbig2 : 1048576 < a2.size
  · clear h0 h1 h2
    go_enter Tryd.func4, Tryd.ntmps4
    go_wp2_with fail
    go_ret
    exact ⟨rfl, Below.refl _ _⟩
  have hbn2 : a2.size ≤ 1048576 := by omega
  clear hbig2
  skip
  have hq : (((1 : Int) + ((splitR a0 a1 a2).length : Int)) != ((1 : Int) + ((splitR a0 a1 a2).length : Int))) = false := by simp
  have heR := eqL_self (splitR a0 a1 a2)
  go_enter Tryd.func4, Tryd.ntmps4
  go_wp2_with fail
  refine (sSplitRuns_any a0 a1 a2 _ hbn2).mono ?_
  rintro e w1 ⟨vR, rfl, hpR, hb1⟩
  obtain ⟨aR, cR, rfl, _⟩ := hpR.form
  have hoR : OInts _ w.heap.size _ (splitR a0 a1 a2).length (splitR a0 a1 a2) := hpR
  clear hpR
  go_wp2_with fail
  refine (iSplitRuns_any a0 a1 a2 _ hbn2 (hm.keep hb1)).mono ?_
  rintro e w2 ⟨vG, rfl, hpG, hb2⟩
  obtain ⟨aG, cG, rfl, _⟩ := hpG.form
  have hoG : OInts _ w1.heap.size _ (splitR a0 a1 a2).length (splitR a0 a1 a2) := hpG
  clear hpG
  go_wp2_with fail
  refine (ofD (eqIntS_any _ _ _ (splitR a0 a1 a2) _ _ _ (splitR a0 a1 a2) _ hoG.read (hoR.since (Since.below (Since.refl _ _ _) hb2 (Nat.le_refl _))).read)).mono ?_
  rintro e w3 ⟨rfl, hb3⟩
  go_wp2_with fail
  refine (markIntS_in _ _ _ (splitR a0 a1 a2) 1 _ _ _ hoG (Since.below (Since.refl _ _ _) hb3 (Nat.le_refl _)) (by omega) (by omega)).mono ?_
  rintro e w4 ⟨rfl, hin4, hmG⟩
  go_wp2_with fail
  refine (ofD (heldIntS_any _ _ _ 1 _ hmG.read (by omega) (by omega))).mono ?_
  rintro e w5 ⟨rfl, hb5⟩
  go_wp2_with fail
  refine (iSplitRuns_any a0 a1 a2 _ hbn2 (hm.keep (step2 (Below.past (step2 (step2 hb1 hb2) hb3) hin4 (Nat.le_trans hb2.size hb3.size) hb1.size) hb5))).mono ?_
  rintro e w6 ⟨vH, rfl, hpH, hb6⟩
  obtain ⟨aH, cH, rfl, _⟩ := hpH.form
  have hoH : OInts _ w5.heap.size _ (splitR a0 a1 a2).length (splitR a0 a1 a2) := hpH
  clear hpH
  go_wp2_with fail
  refine (ofD (eqIntS_any _ _ _ (splitR a0 a1 a2) _ _ _ (splitR a0 a1 a2) _ hoH.read (hoR.since (Since.below (Since.below (Since.older (Since.below (Since.below (Since.refl _ _ _) hb2 (Nat.le_refl _)) hb3 hb2.size) hin4 (Nat.le_refl _) (Nat.le_trans hb2.size hb3.size)) hb5 (Nat.le_trans (Nat.le_trans hb2.size hb3.size) hin4.size)) hb6 (Nat.le_trans (Nat.le_trans (Nat.le_trans hb2.size hb3.size) hin4.size) hb5.size))).read)).mono ?_
  rintro e w7 ⟨rfl, hb7⟩
  go_wp2_with fail
  refine (ofD (heldIntS_any _ _ _ 1 _ (hmG.since (Since.below (Since.below (Since.below (Since.refl _ _ _) hb5 (Nat.le_refl _)) hb6 hb5.size) hb7 (Nat.le_trans hb5.size hb6.size))).read (by omega) (by omega))).mono ?_
  rintro e w8 ⟨rfl, hb8⟩
  go_wp2_with fail
  go_ret
  exact ⟨rfl, (step2 (step2 (step2 (step2 (Below.past (step2 (step2 hb1 hb2) hb3) hin4 (Nat.le_trans hb2.size hb3.size) hb1.size) hb5) hb6) hb7) hb8)⟩

namespace fnExactSplitRuns
open Go.ChangeShapes Go.WideShapes Go.ChangeAt
open Go.ChangeMaps (open_string shut_string)
set_option maxRecDepth 100000 in
theorem lifted (os : Os) (started : os.Started) (H : Type) (enc : TypeId × Value → H) :
    ReturnsInHanded {} Tryd.checked os 4 .any (fun w args => (Rows.fnExactSplitRunsSpec.pre enc Tryd.prog Tryd.f4 [] false w args ∧ laidMetH Tryd.prog Rows.fnExactSplitRunsRow.laid w) ∧ sizedMet enc Tryd.prog Tryd.f4 (OpenSpec.ofChange Rows.fnExactSplitRunsSpec) false w args) (Rows.fnExactSplitRunsSpec.post enc Tryd.prog Tryd.f4 false true false false) := by
  refine returnsInHanded_door (C := Tryd.checked) (X := fun w _ => laidMetH Tryd.prog Rows.fnExactSplitRunsRow.laid w) (fun _ _ _ hh h => h.of_heap hh) ownKnobNone started (by kernel_rfl) Tryd.func4
    (ChangeSpec.witness_shaped (enc := enc) (C := Tryd.checked) (os := os) (X := fun w _ => laidMetH Tryd.prog Rows.fnExactSplitRunsRow.laid w) false (World.laidAll Tryd.prog os Rows.fnExactSplitRunsRow.laid) #[.int .i64 0, .int .i64 0, .string ByteArray.empty] 8 (World.laidAll_os _ _ _) (World.shaped_of_ZipB (by kernel_rfl) (by kernel_rfl)) (by kernel_rfl) (by kernel_rfl) (by kernel_rfl)
      (by rw [MakeChecks.laidMetH_plain _ _ _ (by kernel_rfl)]; exact laidMet_laidAll _ (by kernel_rfl) (by kernel_rfl))) ?_
  intro W base args ds gs before hval0 hW hL hsh
  have hval : ∀ (j : Nat) t v, Tryd.f4.params[j]? = some t → args[j]? = some v → Value.okWide Tryd.prog W .any base t v := hval0
  have hW' := hW
  obtain ⟨p, q, hA0, hV, rfl, hfz, hnd⟩ := hW
  have hA : DataW.TrodAll enc Tryd.prog W 0 (fun _ => true) true Tryd.f4.params.toList args.toList ds p := hA0
  rw [Tryd.params4] at hA hval
  obtain ⟨v0, vs0, d0, ds0, p0, q0, hargs, rfl, rfl, h0, r0⟩ := trodAll_cons hA
  obtain ⟨v1, vs1, d1, ds1, p1, q1, rfl, rfl, rfl, h1, r1⟩ := trodAll_cons r0
  obtain ⟨v2, vs2, d2, ds2, p2, q2, rfl, rfl, rfl, h2, r2⟩ := trodAll_cons r1
  obtain ⟨rfl, rfl, rfl⟩ := trodAll_nil r2
  obtain rfl : args = #[v0, v1, v2] := by cases args; simp_all
  obtain ⟨rfl, rfl⟩ := trodVars_none hV
  obtain ⟨a0, rfl, rfl, rfl, w0⟩ := open_int Tryd.underlying3 (hval 0 3 v0 rfl rfl) h0
  obtain ⟨a1, rfl, rfl, rfl, w1⟩ := open_int Tryd.underlying3 (hval 1 3 v1 rfl rfl) h1
  obtain ⟨a2, rfl, rfl, rfl, w2⟩ := open_string Tryd.underlying9 (hval 2 9 v2 rfl rfl) h2
  clear hA0 hval0
  refine (fnExactSplitRuns_walk a0 a1 a2 W w0 w1 w2 (maxL_of hsh)).mono fun e W' ⟨he, bel⟩ => ?_
  subst he
  exact ⟨_, rfl, _, _, _, [], _, [], hW', trodAll_mk1 (shut_bool Tryd.underlying4 _), (trodAll_cons_mk (shut_int Tryd.underlying3 w0) (trodAll_cons_mk (shut_int Tryd.underlying3 w1) (trodAll_cons_mk (shut_string Tryd.underlying9 w2) trodAll_mk0))), rfl, bel.frame _, fun h => by cases h⟩

theorem over : Rows.fnExactSplitRunsRow.holds Tryd.pinned (OpenSpec.ofChange Rows.fnExactSplitRunsSpec) :=
  OpenClaim.holds_of_wide 4 Tryd.f4 rfl rfl rfl rfl rfl rfl rfl ⟨rfl, rfl, rfl, rfl, rfl⟩ rfl rfl rfl rfl rfl (by kernel_rfl) Tryd.func4 (by kernel_rfl)
    (of_decide_eq_true (by kernel_rfl)) (by unfold Func.isWrapper; first | (rw [if_pos (by decide +kernel)]; kernel_rfl) | (rw [if_neg (by decide +kernel)]; exact ⟨rfl, rfl⟩))
    (fun os started H enc _ => lifted os started H enc)

theorem proved : Rows.FnExactSplitRunsCardSaid :=
  Claim7.holds_tied_plain_at .later [] [.data, .pinned] true (true, "85948bd615aabcfaded7d539363d5e01a3d62bc8e6ae321b775647be289a6936") false over (fun _ h => by cases h) (by kernel_rfl) (fun _ h => by cases h) fnExactSplitRuns_row_tie rfl ⟨rfl, rfl⟩ (by kernel_rfl) rfl
    (fun f fn hf hfn => by
      obtain rfl : f = 4 := Option.some.inj ((show Tryd.prog.funcNamed "loop.example/g03103/laws.FnExactSplitRuns" = some 4 by kernel_rfl).symm.trans hf) |>.symm
      obtain rfl : fn = Tryd.f4 := (Option.some.inj (Tryd.func4.symm.trans hfn)).symm
      exact ⟨by kernel_rfl, fun j t ht => by
        rw [Tryd.params4] at ht
        have hm : t ∈ [3, 3, 9] := by simpa using Array.mem_of_getElem? ht
        have hall : ([3, 3, 9].all fun u => !Tryd.prog.wantsStandIn u) = true := by kernel_rfl
        exact (show Tryd.prog.wantsStandIn t = false by simpa using List.all_eq_true.1 hall t hm)⟩)
    (by kernel_rfl)
end fnExactSplitRuns

#print axioms fnExactSplitRuns.proved
end Go.Proofs.YtaomoahcdlkifaaDoor
