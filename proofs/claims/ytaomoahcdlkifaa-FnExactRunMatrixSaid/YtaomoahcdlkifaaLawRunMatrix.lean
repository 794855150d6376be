/- Proved here: the law FnExactRunMatrix returns true at every input, and what the program returns shares no memory. No condition. -/
import Derived.Test.YtaomoahcdlkifaaRows
import Derived.Test.YtaomoahcdlkifaaLawKit
import Derived.Test.YtaomoahcdlkifaaSRunMat
import Derived.Test.YtaomoahcdlkifaaIRunMat
namespace Go.Proofs.Ytaomoahcdlkifaa
open Go.RowKit
set_option linter.all false
theorem tot9 : ∀ {T : List (List Int)} {m : Nat}, (∀ r ∈ T, r.length ≤ m) → tot T ≤ (T.length : Int) * (m : Int) := fun h => tot_rows h
theorem runM_tot (d k : Int) : tot (runMV d k) ≤ 1000000000 := by
  cases h : matOk (runL d k) (runS d k) (runX d k)
  · simp [runMV, matV, h, tot]
  · obtain ⟨h1, h2⟩ := matV_rows h
    have h3 := tot9 (T := runMV d k) (m := (runS d k).toNat) (fun r hr => Nat.le_of_eq (h1.2 r hr))
    have h4 : (runMV d k).length = (runS d k).toNat := h1.1
    rw [h4] at h3
    have : (((runS d k).toNat : Nat) : Int) * ((runS d k).toNat : Int) ≤ 9 * 9 := by
      have a : (((runS d k).toNat : Nat) : Int) ≤ 9 := by omega
      exact Int.mul_le_mul a a (by omega) (by omega)
    omega
set_option maxHeartbeats 3200000 in
set_option maxRecDepth 100000 in
theorem fnExactRunMatrix_walk (a0 : Int) (a1 : Int) (w : World) (h0 : (Lit.int .i64 a0).wf = true) (h1 : (Lit.int .i64 a1).wf = true) :
    Calls Try.prog 7 #[.int .i64 a0, .int .i64 a1] w fun e w' => e = .returned (.bool true) ∧ Below w.heap.size w w' := by
  have H0 := Lib.hid h0
  have H1 := Lib.hid h1
  clear h0 h1
  have hx0 : (runMO a0 a1 != runMO a0 a1) = false := by simp
  have heR := eqL_self (runMV a0 a1)
  have hq : (((1 : Int) + tot (runMV a0 a1)) != ((1 : Int) + tot (runMV a0 a1))) = false := by simp
  have htR := tot_nonneg (runMV a0 a1)
  have htS : tot (runMV a0 a1) ≤ 1000000000 := runM_tot _ _
  go_enter Try.func7, Try.ntmps7
  go_wp2_with fail
  refine (sRunMatrix_any _ _ _ ).mono ?_
  rintro e w1 ⟨vR, rfl, hpR, hb1⟩
  obtain ⟨aR, cR, rfl, _⟩ := hpR.form
  have hoR := hpR
  clear hpR
  go_wp2_with fail
  refine (iRunMatrix_any _ _ _ ).mono ?_
  rintro e w2 ⟨vG, rfl, hpG, hb2⟩
  obtain ⟨aG, cG, rfl, _⟩ := hpG.form
  have hoG : OIntss _ w1.heap.size _ (runMV a0 a1).length (runMV a0 a1) := hpG
  clear hpG
  go_wp2_with fail
  refine (ofD (eqIntSS_any _ _ _ (runMV a0 a1) _ _ _ (runMV a0 a1) _ hoG.read (hoR.since (Since.below (Since.refl _ _ _) hb2 (Nat.le_refl _))).read)).mono ?_
  rintro e w3 ⟨rfl, hb3⟩
  go_wp2_with fail
  refine (markIntSS_in _ _ _ (runMV a0 a1) 1 _ _ _ hoG (Since.below (Since.refl _ _ _) hb3 (Nat.le_refl _)) (by omega) (by omega)).mono ?_
  rintro e w4 ⟨rfl, hin4, hmG⟩
  go_wp2_with fail
  refine (ofD (heldIntSS_any _ _ _ (runMV a0 a1) 1 _ hmG.read (by omega) (by omega))).mono ?_
  rintro e w5 ⟨rfl, hb5⟩
  go_wp2_with fail
  refine (iRunMatrix_any _ _ _ ).mono ?_
  rintro e w6 ⟨vQ, rfl, hpQ, hb6⟩
  obtain ⟨aQ, cQ, rfl, _⟩ := hpQ.form
  have hoQ : OIntss _ w5.heap.size _ (runMV a0 a1).length (runMV a0 a1) := hpQ
  clear hpQ
  go_wp2_with fail
  refine (ofD (eqIntSS_any _ _ _ (runMV a0 a1) _ _ _ (runMV a0 a1) _ hoQ.read (hoR.since (Since.below (Since.below (Since.older (Since.below (Since.below (Since.refl _ _ _) hb2 (Nat.le_refl _)) hb3 hb2.size) hin4 (Nat.le_refl _) (Nat.le_trans hb2.size hb3.size)) hb5 (Nat.le_trans (Nat.le_trans hb2.size hb3.size) hin4.size)) hb6 (Nat.le_trans (Nat.le_trans (Nat.le_trans hb2.size hb3.size) hin4.size) hb5.size))).read)).mono ?_
  rintro e w7 ⟨rfl, hb7⟩
  go_wp2_with fail
  refine (ofD (heldIntSS_any _ _ _ (runMV a0 a1) 1 _ (hmG.since (Since.below (Since.below (Since.below (Since.refl _ _ _) hb5 (Nat.le_refl _)) hb6 hb5.size) hb7 (Nat.le_trans hb5.size hb6.size))).read (by omega) (by omega))).mono ?_
  rintro e w8 ⟨rfl, hb8⟩
  go_wp2_with fail
  go_ret
  exact ⟨rfl, (step2 (step2 (step2 (step2 (Below.past (step2 (step2 hb1 hb2) hb3) hin4 (Nat.le_trans hb2.size hb3.size) hb1.size) hb5) hb6) hb7) hb8)⟩

namespace fnExactRunMatrix
open Go.ChangeShapes Go.WideShapes Go.ChangeAt
open Go.ChangeMaps (open_string shut_string)
set_option maxRecDepth 100000 in
theorem lifted (os : Os) (started : os.Started) (H : Type) (enc : TypeId × Value → H) :
    ReturnsInHanded {} Try.checked os 7 .any (Rows.fnExactRunMatrixSpec.pre6 enc Try.prog Try.f7 Rows.fnExactRunMatrixRow.domain false) (Rows.fnExactRunMatrixSpec.post enc Try.prog Try.f7 false true false false) := by
  refine returnsInHanded_of_change (C := Try.checked) ownKnobNone started (by kernel_rfl) Try.func7
    (ChangeSpec.witness6 (enc := enc) (C := Try.checked) false ⟨#[], #[.int .i64 0, .int .i64 0], []⟩ 8 (by kernel_rfl) (by kernel_rfl) (by kernel_rfl) (by kernel_rfl)) ?_
  intro W base args ds gs before hval0 hW hcnd _
  have hval : ∀ (j : Nat) t v, Try.f7.params[j]? = some t → args[j]? = some v → Value.okWide Try.prog W .any base t v := hval0
  have hW' := hW
  obtain ⟨p, q, hA0, hV, rfl, hfz, hnd⟩ := hW
  have hA : DataW.TrodAll enc Try.prog W 0 (fun _ => true) true Try.f7.params.toList args.toList ds p := hA0
  rw [Try.params7] at hA hval
  obtain ⟨v0, vs0, d0, ds0, p0, q0, hargs, rfl, rfl, h0, r0⟩ := trodAll_cons hA
  obtain ⟨v1, vs1, d1, ds1, p1, q1, rfl, rfl, rfl, h1, r1⟩ := trodAll_cons r0
  obtain ⟨rfl, rfl, rfl⟩ := trodAll_nil r1
  obtain rfl : args = #[v0, v1] := by cases args; simp_all
  obtain ⟨rfl, rfl⟩ := trodVars_none hV
  obtain ⟨a0, rfl, rfl, rfl, w0⟩ := open_int Try.underlying3 (hval 0 3 v0 rfl rfl) h0
  obtain ⟨a1, rfl, rfl, rfl, w1⟩ := open_int Try.underlying3 (hval 1 3 v1 rfl rfl) h1
  clear hA0 hval0
  refine (fnExactRunMatrix_walk a0 a1 W w0 w1).mono fun e W' ⟨he, bel⟩ => ?_
  subst he
  exact ⟨_, rfl, _, _, _, [], _, [], hW', trodAll_mk1 (shut_bool Try.underlying4 _), (trodAll_cons_mk (shut_int Try.underlying3 w0) (trodAll_cons_mk (shut_int Try.underlying3 w1) trodAll_mk0)), rfl, bel.frame _, fun h => by cases h⟩

theorem over : Rows.fnExactRunMatrixRow.holds Try.pinned (OpenSpec.ofChange Rows.fnExactRunMatrixSpec) :=
  OpenClaim.holds_of_wide 7 Try.f7 rfl rfl rfl rfl rfl rfl rfl ⟨rfl, rfl, rfl, rfl, rfl⟩ rfl rfl rfl rfl rfl (by kernel_rfl) Try.func7 (by kernel_rfl)
    (of_decide_eq_true (by kernel_rfl)) (by unfold Func.isWrapper; first | (rw [if_pos (by decide +kernel)]; kernel_rfl) | (rw [if_neg (by decide +kernel)]; exact ⟨rfl, rfl⟩))
    (fun os started H enc _ => lifted os started H enc)

theorem proved : Rows.FnExactRunMatrixSaid := over
end fnExactRunMatrix

#print axioms fnExactRunMatrix.proved
end Go.Proofs.Ytaomoahcdlkifaa
