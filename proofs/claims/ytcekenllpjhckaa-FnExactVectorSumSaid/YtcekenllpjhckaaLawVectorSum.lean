/- Proved here: the law FnExactVectorSum returns true at every input, and leaves its argument as it was. No condition. -/
import Derived.Test.YtcekenllpjhckaaRows
import Derived.Test.YtcekenllpjhckaaProg
import Derived.Test.YtcekenllpjhckaaFrameInts
import Derived.Test.YtcekenllpjhckaaIVectorSum
import Derived.Test.YtcekenllpjhckaaSVectorSum
import Derived.Test.YtcekenllpjhckaaToIntS
import Derived.Test.YtcekenllpjhckaaEqIntS
namespace Go.Proofs.Ytcekenllpjhckaa
open Go.RowKit
set_option linter.all false
set_option maxHeartbeats 400000 in
theorem fnExactVectorSum_walk (ao : Option Addr) (n cap : Nat) (xs : List Int) (w : World) (h : IntsIn w ao n xs) :
    Calls Try.prog 4 #[.slice ao n cap] w fun e w' => e = .returned (.bool true) ∧ Below w.heap.size w w' := by
  by_cases hbig : 1048576 < n
  · clear h
    go_enter Try.func4, Try.ntmps4
    go_wp2
    go_ret
    exact ⟨rfl, Below.refl _ _⟩
  · have hi := h.ints (by omega)
    have hbn : n ≤ 1048576 := by omega
    have H := Lib.hid hi
    clear h hi
    go_enter Try.func4, Try.ntmps4
    go_wp2_with fail
    refine (toIntS_any _ _ _ xs _ H.out).mono ?_
    rintro e w1 ⟨g1, rfl, ho1, hb1⟩
    go_wp2_with fail
    refine (sVectorSum_any _ _ _ xs _ ho1.ints).mono ?_
    rintro e w' ⟨rfl, rfl⟩
    go_wp2_with fail
    refine (toIntS_any _ _ _ xs _ (H.out.keep hb1)).mono ?_
    rintro e w2 ⟨g2, rfl, ho2, hb2⟩
    have hb2' : Below w.heap.size w w2 := hb1.trans (hb2.mono hb1.size)
    go_wp2_with fail
    refine (iVectorSum_any _ _ _ xs _ ho2.ints).mono ?_
    rintro e w' ⟨rfl, rfl⟩
    have ht : (vsum xs != vsum xs) = false := by simp
    go_wp2_with fail
    refine (toIntS_any _ _ _ xs _ (H.out.keep hb2')).mono ?_
    rintro e w3 ⟨g3, rfl, ho3, hb3⟩
    go_wp2_with fail
    refine (eqIntS_any _ _ _ xs _ _ _ xs _ (ho2.keep hb3).ints ho3.ints).mono ?_
    rintro e w4 ⟨rfl, hd⟩
    have he := eqL_self xs
    go_wp2_with fail
    go_ret
    exact ⟨rfl, hb2'.trans ((hb3.mono hb2'.size).trans (hd.below _))⟩

namespace fnExactVectorSum
open Go.ChangeShapes Go.WideShapes Go.ChangeAt
open Go.ChangeMaps (open_string shut_string)
set_option maxRecDepth 100000 in
theorem lifted (os : Os) (started : os.Started) (H : Type) (enc : TypeId × Value → H) :
    ReturnsInHanded {} Try.checked os 4 .any (Rows.fnExactVectorSumSpec.pre6 enc Try.prog Try.f4 Rows.fnExactVectorSumRow.domain false) (Rows.fnExactVectorSumSpec.post enc Try.prog Try.f4 false true false false) := by
  refine returnsInHanded_of_change (C := Try.checked) ownKnobNone started (by kernel_rfl) Try.func4
    (ChangeSpec.witness6 (enc := enc) (C := Try.checked) false ⟨#[], #[.slice none 0 0], []⟩ 8 (by kernel_rfl) (by kernel_rfl) (by kernel_rfl) (by kernel_rfl)) ?_
  intro W base args ds gs before hval0 hW hcnd _
  have hval : ∀ (j : Nat) t v, Try.f4.params[j]? = some t → args[j]? = some v → Value.okWide Try.prog W .any base t v := hval0
  have hW' := hW
  obtain ⟨p, q, hA0, hV, rfl, hfz, hnd⟩ := hW
  have hA : DataW.TrodAll enc Try.prog W 0 (fun _ => true) true Try.f4.params.toList args.toList ds p := hA0
  rw [Try.params4] at hA hval
  obtain ⟨v0, vs0, d0, ds0, p0, q0, hargs, rfl, rfl, h0, r0⟩ := trodAll_cons hA
  obtain ⟨rfl, rfl, rfl⟩ := trodAll_nil r0
  obtain rfl : args = #[v0] := by cases args; simp_all
  obtain ⟨rfl, rfl⟩ := trodVars_none hV
  obtain ⟨a0, len0, cap0, rfl⟩ := okWide_slice Try.underlying22 (hval 0 22 v0 rfl rfl)
  have k0 := h0
  have lt0 : ∀ x ∈ p0, x.block < W.heap.size := by obtain ⟨m, hm⟩ := k0; exact DataW.trod_lt m _ _ _ hm
  obtain ⟨z0, w0⟩ := open_intsIn h0
  clear hA0 hval0
  refine (fnExactVectorSum_walk a0 len0 cap0 z0 W w0).mono fun e W' ⟨he, bel⟩ => ?_
  subst he
  exact ⟨_, rfl, _, _, _, [], _, [], hW', trodAll_mk1 (shut_bool Try.underlying4 _), (trodAll_cons_mk (Below.trod laidOutYes (by kernel_rfl) (of_decide_eq_true (by kernel_rfl)) k0 bel lt0) trodAll_mk0), rfl, bel.frame _, fun h => by cases h⟩

theorem over : Rows.fnExactVectorSumRow.holds Try.pinned (OpenSpec.ofChange Rows.fnExactVectorSumSpec) :=
  OpenClaim.holds_of_wide 4 Try.f4 rfl rfl rfl rfl rfl rfl rfl ⟨rfl, rfl, rfl, rfl, rfl⟩ rfl rfl rfl rfl rfl (by kernel_rfl) Try.func4 (by kernel_rfl)
    (of_decide_eq_true (by kernel_rfl)) (by unfold Func.isWrapper; first | (rw [if_pos (by decide +kernel)]; kernel_rfl) | (rw [if_neg (by decide +kernel)]; exact ⟨rfl, rfl⟩))
    (fun os started H enc _ => lifted os started H enc)

theorem proved : Rows.FnExactVectorSumSaid := over
end fnExactVectorSum

#print axioms fnExactVectorSum.proved
end Go.Proofs.Ytcekenllpjhckaa
