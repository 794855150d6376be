/- IVectorSums: a part of the proofs of this seat. -/
import Derived.Test.YtalibdjckkdioaaProg
import Derived.Test.YtalibdjckkdioaaVSums
import Derived.Test.YtalibdjckkdioaaIPowM
import Derived.Test.YtalibdjckkdioaaTotal
import Derived.Test.YtalibdjckkdioaaPushOne
import Derived.Test.YtalibdjckkdioaaFill
namespace Go.Proofs.Ytalibdjckkdioaa
open Go.RowKit
set_option linter.all false
set_option maxHeartbeats 1600000 in
theorem iVectorSums_any (pm : Option Addr) (nm cm : Nat) (m : List (List Int)) (n : Int) (w : World) (hm : Intss w pm nm m) :
    Calls Try.prog 46 #[.slice pm nm cm, .int .i64 n] w fun e w' => ∃ v, e = .returned (.tuple #[v, .bool (powM m n).isSome]) ∧ OInts w' w.heap.size v (vsL m n).length (vsL m n) ∧ Below w.heap.size w w' := by
  have HM := Lib.hid hm
  clear hm
  cases hp : powM m n with
  | none =>
    have HP := Lib.hid hp
    have HV : Hid (vsL m n = []) := vsL_none hp
    have hs : (powM m n).isSome = false := by rw [hp]; rfl
    clear hp
    go_enter Try.func46, Try.ntmps46
    go_wp2_with fail
    refine (iPowM_any _ _ _ m n _ HM.out).mono ?_
    rintro e w1 ⟨v1, rfl, ho1, hb1⟩
    rw [hs]
    go_wp2_with fail
    go_ret2
    rw [HV.out]
    exact ⟨_, rfl, OInts.none_ _ _, hb1⟩
  | some p =>
    have HP := Lib.hid hp
    have hs : (powM m n).isSome = true := by rw [hp]; rfl
    have hg : (powM m n).getD [] = p := by rw [hp]; rfl
    have HPL : Hid (p.length ≤ 9) := (isMat_len (powM_mat hp).2.1).2
    have hpl := HPL.out
    clear hp
    go_enter Try.func46, Try.ntmps46
    go_wp2_with fail
    refine (iPowM_any _ _ _ m n _ HM.out).mono ?_
    rintro e w1 ⟨v1, rfl, ho1, hb1⟩
    rw [hs]
    rw [hg] at ho1
    obtain ⟨ao1, cap1, rfl, hi1⟩ := ho1.form
    have Hi1 := Lib.hid hi1
    have Hb1 := Lib.hid hb1
    clear ho1 hi1 hb1
    go_wp2_with fail
    go_loopw [8, 22] (fun v x wr => ∃ k : Nat, k ≤ p.length ∧ x = .int .i64 k ∧ OInts wr w1.heap.size v k ((vsL m n).take k) ∧ Below w1.heap.size w1 wr) (fun _ x _ => p.length - (intOf x).toNat)
    case atStart => exact ⟨0, Nat.zero_le _, rfl, OInts.empty _ _ (Nat.le_refl _), (Below.refl _ _).alloc (Nat.le_refl _) _⟩
    case round =>
      obtain ⟨k, hk, rfl, hown, hbl⟩ := hrel
      obtain ⟨ao2, cap2, e2, _⟩ := hown.form
      subst e2
      by_cases hlt : k < p.length
      · obtain ⟨b, o, ai, ci, r, rfl, hcell, hrow, hget⟩ := Hi1.out.at_ hlt
        have q1 := (hbl.cell (World.block_lt_of_cell? w1 _ hcell)).trans hcell
        have HE := Lib.hid (vsL_get HP.out hget.out)
        have Hrow := Lib.hid (hrow.keep hbl)
        have Hown := Lib.hid hown
        have Hbl := Lib.hid hbl
        clear hown hbl hcell hrow
        go_wp2_with (first | (go_at_call 94; refine (total_any _ _ _ r _ Hrow.out).mono ?_; rintro e w' ⟨rfl, rfl⟩) | (at_builtin; refine wpList_push_one _ _ rfl _ _ rfl w1.heap.size _ _ _ rfl Hown.out (by omega) Hbl.out.size _ rfl rfl ?_; intro v1 w3 ho1 hb3; have Ho1 := Lib.hid ho1; have Hb3 := Lib.hid hb3; clear ho1 hb3))
        go_roundw
        case rel =>
          have ho1 := Ho1.out
          rw [push_take HE.out] at ho1
          exact ⟨k + 1, hlt, by go_num, ho1, Hbl.out.trans Hb3.out⟩
        case measure => simp [intOf]; omega
      · have e : k = p.length := by omega
        subst e
        rw [List.take_of_length_le (by rw [vsL_len HP.out]; omega)] at hown
        have hown' : OInts wr w1.heap.size (.slice ao2 p.length cap2) (vsL m n).length (vsL m n) := by rw [vsL_len HP.out]; exact hown
        have Hown := Lib.hid hown'
        clear hown hown'
        go_wp2_with fail
        go_ret2
        exact ⟨_, rfl, Hown.out.mono Hb1.out.size, Hb1.out.trans (hbl.mono Hb1.out.size)⟩
end Go.Proofs.Ytalibdjckkdioaa
