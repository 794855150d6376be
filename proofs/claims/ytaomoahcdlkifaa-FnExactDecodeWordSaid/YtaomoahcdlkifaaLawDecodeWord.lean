/- Proved here: the law FnExactDecodeWord returns true at every input, and leaves its arguments as they were. No condition. -/
import Derived.Test.YtaomoahcdlkifaaRows
import Derived.ShutString
import Derived.Deep.RegionWith
import Derived.Test.YtaomoahcdlkifaaFrameLab
import Derived.Test.YtaomoahcdlkifaaLabLaw
import Derived.Test.YtaomoahcdlkifaaSDec
import Derived.Test.YtaomoahcdlkifaaIDec
namespace Go.Proofs.Ytaomoahcdlkifaa
open Go.RowKit
set_option linter.all false
set_option maxHeartbeats 6400000 in
set_option maxRecDepth 100000 in
theorem fnExactDecodeWord_walk (L0 S0 : Int) (p0 : Option Addr) (n0 c0 : Nat) (z0 : List Ar) (a1 : Int) (a2 : ByteArray) (w : World) (h0 : LabIn w p0 n0 z0) (h1 : (Lit.int .i64 a1).wf = true) (h2 : a2.size ≤ maxLen) :
    Calls Try.prog 10 #[.agg #[.int .i64 L0, .int .i64 S0, .slice p0 n0 c0], .int .i64 a1, .string a2] w fun e w' => e = .returned (.bool true) ∧ Below w.heap.size w w' := by
  by_cases hbig2 : 1048576 < a2.size
  · clear h0 h1 h2
    go_enter Try.func10, Try.ntmps10
    go_wp2_with fail
    go_ret
    exact ⟨rfl, below1 _ _⟩
  have hbn2 : a2.size ≤ 1048576 := by omega
  clear hbig2
  by_cases hbigL : 1048576 < n0
  · have hmx := h0.2.1
    clear h0 h1 h2
    go_enter Try.func10, Try.ntmps10
    go_wp2_with fail
    refine (szLabels_no L0 S0 1048576 p0 n0 c0 _ (by omega) (by omega) hmx (by omega)).mono ?_
    rintro e w' ⟨rfl, hb⟩
    go_wp2_with fail
    go_ret
    exact ⟨rfl, step2 (below1 _ _) hb⟩
  have hbnL : n0 ≤ 1048576 := by omega
  clear hbigL
  have I0 := Lib.hid ((h0.arcs (by omega)).keep (below1 w (.cells #[.int .i64 L0, .int .i64 S0, .slice p0 n0 c0] 34)))
  have kbox := Blk.new w 34 #[.int .i64 L0, .int .i64 S0, .slice p0 n0 c0]
  have hb1 := below1 w (.cells #[.int .i64 L0, .int .i64 S0, .slice p0 n0 c0] 34)
  clear h0
  have hv1 : ((decOk L0 S0 z0 a1 a2) != (decOk L0 S0 z0 a1 a2)) = false := by simp
  go_enter Try.func10, Try.ntmps10
  go_wp2_with fail
  generalize w.alloc (.cells #[.int .i64 L0, .int .i64 S0, .slice p0 n0 c0] 34) = w1 at I0 kbox hb1 ⊢
  refine (szLabels_ok L0 S0 1048576 p0 n0 c0 _ (by omega) (by omega)).mono ?_
  rintro e w2 ⟨rfl, hb2⟩
  have hszv : decide ((1048576 : Int) - (n0 : Int) < 0) = false := decide_eq_false (by omega)
  have qbox := (kbox.keep hb2)
  have qbox0 := qbox.c0
  have qbox1 := qbox.c1
  have qbox2 := qbox.c2
  clear qbox
  go_wp2_with fail
  clear qbox0 qbox1 qbox2
  refine (toLabels_any L0 S0 p0 n0 c0 z0 _ (I0.out.keep hb2)).mono ?_
  rintro e w3 ⟨gs, rfl, hos, hb3⟩
  go_wp2_with fail
  refine (sDecodeWord_any L0 S0 (some ⟨gs, 0, none⟩) n0 n0 z0 a1 a2 _ hos.read hbn2).mono ?_
  rintro e w4 ⟨rfl, hb4⟩
  have qbox := (((kbox.keep hb2).keep hb3).keep hb4)
  have qbox0 := qbox.c0
  have qbox1 := qbox.c1
  have qbox2 := qbox.c2
  clear qbox
  go_wp2_with fail
  clear qbox0 qbox1 qbox2
  refine (toLabels_any L0 S0 p0 n0 c0 z0 _ (I0.out.keep (step2 (step2 hb2 hb3) hb4))).mono ?_
  rintro e w5 ⟨gx, rfl, hox, hb5⟩
  have hkX := Blk.new w5 26 #[.int .i64 L0, .int .i64 S0, .slice (some ⟨gx, 0, none⟩) n0 n0]
  have hb6 := below1 w5 (.cells #[.int .i64 L0, .int .i64 S0, .slice (some ⟨gx, 0, none⟩) n0 n0] 26)
  go_wp2_with fail
  generalize w5.alloc (.cells #[.int .i64 L0, .int .i64 S0, .slice (some ⟨gx, 0, none⟩) n0 n0] 26) = w6 at hkX hb6 ⊢
  refine (iDecodeWord_any L0 S0 (some ⟨gx, 0, none⟩) n0 n0 z0 a1 a2 _ (hox.since (Since.below (Since.refl _ _ _) hb6 (Nat.le_refl _))).read hbn2).mono ?_
  rintro e w7 ⟨rfl, hb7⟩
  go_wp2_with fail
  have HXb := Lib.hid ((hkX.keep hb7).drewN 1)
  have HXr := Lib.hid ((hox.since (Since.below (Since.below (Since.refl _ _ _) hb6 (Nat.le_refl _)) hb7 hb6.size)).read.drewN 1)
  have HAr := Lib.hid (Arcs.drewN (I0.out.keep (step2 (step2 (step2 (step2 (step2 hb2 hb3) hb4) hb5) hb6) hb7)) 1)
  have HDr : Hid (Below w7.heap.size w7 w7.drew) := below_drewN (Below.refl _ _) 1
  have qB := ((((((kbox.keep hb2).keep hb3).keep hb4).keep hb5).keep hb6).keep hb7).drewN 1
  have qX := HXb.out
  have qB0 : w7.drew.cell? _ = _ := qB.c0
  have qB1 : w7.drew.cell? _ = _ := qB.c1
  have qB2 : w7.drew.cell? _ = _ := qB.c2
  have qX0 : w7.drew.cell? _ = _ := qX.c0
  have qX1 : w7.drew.cell? _ = _ := qX.c1
  have qX2 : w7.drew.cell? _ = _ := qX.c2
  clear qB qX
  go_cut [50] (fun v wx => v = .bool false ∧ Below w7.heap.size w7 wx)
  case first =>
    go_region_with (first
      | (go_at_call 16; refine (eqLabels_same _ _ _ _ _ _ _ z0 _ (HXr.out.keep HBe.out) HOe.out.read).mono ?_; rintro e wf ⟨rfl, hbf⟩; have HBf := Lib.hid hbf; clear hbf)
      | (go_at_call 21; refine (toLabels_any L0 S0 p0 n0 c0 z0 _ HAr.out).mono ?_; rintro e we ⟨ge, rfl, hoe, hbe⟩; have HOe := Lib.hid hoe; have HBe := Lib.hid hbe; have rX := HXb.out.keep hbe; have rX0 := rX.c0; have rX1 := rX.c1; have rX2 := rX.c2; clear hoe hbe rX))
    all_goals (go_wp2_with fail; go_meet; exact ⟨rfl, step2 (step2 HDr.out HBe.out) HBf.out⟩)
  case rest =>
  clear qB0 qB1 qB2 qX0 qX1 qX2
  obtain ⟨rfl, hb8⟩ := hcut
  generalize wc = w8 at hb8 ⊢
  go_wp2_with fail
  go_ret
  exact ⟨rfl, (step2 (step2 (step2 (step2 (step2 (step2 (step2 hb1 hb2) hb3) hb4) hb5) hb6) hb7) hb8)⟩

namespace fnExactDecodeWord
open Go.ChangeShapes Go.WideShapes Go.ChangeAt
open Go.ChangeMaps (open_string shut_string)
set_option maxRecDepth 100000 in
theorem lifted (os : Os) (started : os.Started) (H : Type) (enc : TypeId × Value → H) :
    ReturnsInHanded {} Try.checked os 10 .any (Rows.fnExactDecodeWordSpec.pre6 enc Try.prog Try.f10 Rows.fnExactDecodeWordRow.domain false) (Rows.fnExactDecodeWordSpec.post enc Try.prog Try.f10 false true false false) := by
  refine returnsInHanded_of_change (C := Try.checked) ownKnobNone started (by kernel_rfl) Try.func10
    (ChangeSpec.witness6 (enc := enc) (C := Try.checked) false ⟨#[], #[.agg #[.int .i64 0, .int .i64 0, .slice none 0 0], .int .i64 0, .string ByteArray.empty], []⟩ 8 (by kernel_rfl) (by kernel_rfl) (by kernel_rfl) (by kernel_rfl)) ?_
  intro W base args ds gs before hval0 hW hcnd _
  have hval : ∀ (j : Nat) t v, Try.f10.params[j]? = some t → args[j]? = some v → Value.okWide Try.prog W .any base t v := hval0
  have hW' := hW
  obtain ⟨p, q, hA0, hV, rfl, hfz, hnd⟩ := hW
  have hA : DataW.TrodAll enc Try.prog W 0 (fun _ => true) true Try.f10.params.toList args.toList ds p := hA0
  rw [Try.params10] at hA hval
  obtain ⟨v0, vs0, d0, ds0, p0, q0, hargs, rfl, rfl, h0, r0⟩ := trodAll_cons hA
  obtain ⟨v1, vs1, d1, ds1, p1, q1, rfl, rfl, rfl, h1, r1⟩ := trodAll_cons r0
  obtain ⟨v2, vs2, d2, ds2, p2, q2, rfl, rfl, rfl, h2, r2⟩ := trodAll_cons r1
  obtain ⟨rfl, rfl, rfl⟩ := trodAll_nil r2
  obtain rfl : args = #[v0, v1, v2] := by cases args; simp_all
  obtain ⟨rfl, rfl⟩ := trodVars_none hV
  obtain ⟨L0, S0, a0, len0, cap0, z0, rfl, w0⟩ := open_labIn (hval 0 34 v0 rfl rfl) h0
  have k0 := h0
  have lt0 : ∀ x ∈ p0, x.block < W.heap.size := by obtain ⟨m, hm⟩ := k0; exact DataW.trod_lt m _ _ _ hm
  obtain ⟨a1, rfl, rfl, rfl, w1⟩ := open_int Try.underlying3 (hval 1 3 v1 rfl rfl) h1
  obtain ⟨a2, rfl, rfl, rfl, w2⟩ := open_string Try.underlying9 (hval 2 9 v2 rfl rfl) h2
  clear hA0 hval0
  refine (fnExactDecodeWord_walk L0 S0 a0 len0 cap0 z0 a1 a2 W w0 w1 w2).mono fun e W' ⟨he, bel⟩ => ?_
  subst he
  exact ⟨_, rfl, _, _, _, [], _, [], hW', trodAll_mk1 (shut_bool Try.underlying4 _), (trodAll_cons_mk (Below.trod laidOutYes (by kernel_rfl) (of_decide_eq_true (by kernel_rfl)) k0 bel lt0) (trodAll_cons_mk (shut_int Try.underlying3 w1) (trodAll_cons_mk (shut_string Try.underlying9 w2) trodAll_mk0))), rfl, bel.frame _, fun h => by cases h⟩

theorem over : Rows.fnExactDecodeWordRow.holds Try.pinned (OpenSpec.ofChange Rows.fnExactDecodeWordSpec) :=
  OpenClaim.holds_of_wide 10 Try.f10 rfl rfl rfl rfl rfl rfl rfl ⟨rfl, rfl, rfl, rfl, rfl⟩ rfl rfl rfl rfl rfl (by kernel_rfl) Try.func10 (by kernel_rfl)
    (of_decide_eq_true (by kernel_rfl)) (by unfold Func.isWrapper; first | (rw [if_pos (by decide +kernel)]; kernel_rfl) | (rw [if_neg (by decide +kernel)]; exact ⟨rfl, rfl⟩))
    (fun os started H enc _ => lifted os started H enc)

theorem proved : Rows.FnExactDecodeWordSaid := over
end fnExactDecodeWord

#print axioms fnExactDecodeWord.proved
end Go.Proofs.Ytaomoahcdlkifaa
