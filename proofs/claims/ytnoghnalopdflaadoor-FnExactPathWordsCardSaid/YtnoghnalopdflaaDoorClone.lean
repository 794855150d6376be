/- Clone: a part of the proofs of this seat. -/
import Derived.Lib.SliceRun
import Derived.Test.YtnoghnalopdflaaDoorProg
import Derived.Test.YtnoghnalopdflaaDoorBase
namespace Go.Proofs.YtnoghnalopdflaaDoor
open Go.RowKit
set_option linter.all false
set_option maxHeartbeats 800000 in
theorem clone_any (ao : Option Addr) (n cap : Nat) (xs : List Int) (w : World) (h : Ints w ao n xs) :
    Calls Tryd.prog 109 #[.slice ao n cap] w fun e w' => ∃ v, e = .returned v ∧ OInts w' w.heap.size v n xs ∧ Below w.heap.size w w' := by
  have hm := h.2.1
  rcases ao with _ | q
  · have hn : n = 0 := by
      rcases Nat.eq_zero_or_pos n with h0 | h0
      · exact h0
      · obtain ⟨b, o, e, _⟩ := h.2.2 0 (by rw [h.1]; exact h0)
        cases e
    subst hn
    have hx : xs = [] := List.eq_nil_of_length_eq_zero h.1
    subst hx
    have hnn := fun (wx : World) => Lib.run_eql_slice_nil (P := Tryd.prog) wx 22 3 none 0 cap 0 0 Tryd.underlying22
    simp only [Option.isNone] at hnn
    clear h
    go_enter Tryd.func109, Tryd.ntmps109
    go_wp2_with fail
    go_ret
    exact ⟨_, rfl, OInts.none_ _ _, Below.refl _ _⟩
  · have hns := fun (wx : World) => Lib.run_eql_slice_nil (P := Tryd.prog) wx 22 3 (some q) n cap 0 0 Tryd.underlying22
    simp only [Option.isNone] at hns
    have HE := Lib.hid (OInts.empty w w.heap.size (Nat.le_refl _))
    have HB : Hid (Below w.heap.size w (w.alloc (.cells #[] 3))) := (Below.refl _ _).alloc (Nat.le_refl _) _
    have H := Lib.hid (h.keep HB.out)
    clear h
    go_enter Tryd.func109, Tryd.ntmps109
    go_wp2_with (first | (at_builtin; refine wpList_app_ints _ rfl _ _ rfl w.heap.size _ 0 [] rfl HE.out _ _ _ xs rfl H.out (by omega) HB.out.size ?_; intro v1 w1 ho1 hg1; rw [Nat.zero_add, List.nil_append] at ho1; have Ho1 := Lib.hid ho1; have Hb1 : Hid (Below w.heap.size w w1) := HB.out.grown hg1 HB.out.size (fun k hk => (HE.out.ownlt k hk).1); clear ho1 hg1))
    go_ret
    exact ⟨_, rfl, Ho1.out, Hb1.out⟩
end Go.Proofs.YtnoghnalopdflaaDoor
