/- IPathW: a part of the proofs of this seat. -/
import Derived.Test.YtonfdiaefkghbaaGreatDoorProg
import Derived.Test.YtonfdiaefkghbaaGreatDoorEG1a
import Derived.Test.YtonfdiaefkghbaaGreatDoorEIPaths
import Derived.Test.YtonfdiaefkghbaaGreatDoorEG0d
namespace Go.Proofs.YtonfdiaefkghbaaGreatDoor
open Go.RowKit
set_option linter.all false
set_option maxRecDepth 20000 in
set_option maxHeartbeats 3200000 in
theorem iPathW_any (p : Option Addr) (n c : Nat) (m : List (List Int)) (t : Int) (w : World) (h : Intss w p n m) :
    Calls Tryz.prog 10 #[.slice p n c, .int .i64 t] w fun e w' => ∃ v, e = .returned v ∧ OStrs w' w.heap.size v (pathW m t).length (pathW m t) ∧ Below w.heap.size w w' := by
  have H := Lib.hid h
  clear h
  have HPM : Hid (∀ q ∈ pathsV m t, 1 ≤ q.length ∧ q.length ≤ 6 ∧ Idx 60 q) := fun q hq => pathsV_mem (p := []) hq
  go_enter Tryz.func10, Tryz.ntmps10
  go_wp2_with fail
  refine (iPathsOf_any _ _ _ m t _ H.out).mono ?_
  rintro e w1 ⟨v1, rfl, ho1, hb1⟩
  obtain ⟨a1, c1, rfl, hi1⟩ := ho1.form
  have HI1 := Lib.hid hi1
  have HB1 := Lib.hid hb1
  have hL := hi1.2.1
  clear ho1 hb1 hi1
  rcases a1 with _ | q1
  · have hnn := fun (wx : World) => Lib.run_eql_slice_nil (P := Tryz.prog) wx 24 34 none (pathsV m t).length c1 0 0 Tryz.underlying24
    simp only [Option.isNone] at hnn
    have hp0 : pathsV m t = [] := by
      rcases Nat.eq_zero_or_pos (pathsV m t).length with h0 | h0
      · exact List.eq_nil_of_length_eq_zero h0
      · obtain ⟨b, o, _, _, _, e, _⟩ := HI1.out.at_ h0
        cases e
    have hv := Lib.hid (pathW_not hp0)
    clear hp0
    go_wp2_with fail
    go_ret
    rw [hv.out]
    exact ⟨_, rfl, OStrs.none_ _ _, HB1.out⟩
  have hnn := fun (wx : World) => Lib.run_eql_slice_nil (P := Tryz.prog) wx 24 34 (some q1) (pathsV m t).length c1 0 0 Tryz.underlying24
  simp only [Option.isNone] at hnn
  by_cases hb : 10 < sumOf m
  · have hv : Hid (pathW m t = []) := by show _ = _; unfold pathW; rw [if_pos hb]
    have hd : decide ((10 : Int) < sumOf m) = true := by simpa using hb
    clear hb
    go_wp2_with (go_at_call 50; refine (iSumOf_any _ _ _ m _ (H.out.keep HB1.out)).mono ?_; rintro e w' ⟨rfl, rfl⟩)
    go_ret
    rw [hv.out]
    exact ⟨_, rfl, OStrs.none_ _ _, HB1.out⟩
  · have hv : Hid (pathW m t = (pathsV m t).map txtP) := by show _ = _; unfold pathW; rw [if_neg hb]
    have hd : decide ((10 : Int) < sumOf m) = false := by simpa using hb
    clear hb
    generalize pathsV m t = P at HI1 HPM hL hv hnn ⊢
    have HE := Lib.hid (OStrs.empty w1 w1.heap.size (Nat.le_refl _))
    have HBA := Lib.hid (belowA w1 (.cells #[] 9))
    go_wp2_with (go_at_call 50; refine (iSumOf_any _ _ _ m _ (H.out.keep HB1.out)).mono ?_; rintro e w' ⟨rfl, rfl⟩)
    clear hd hnn
    go_loopw [6, 22] (fun v x wr => ∃ k : Nat, k ≤ P.length ∧ x = .int .i64 k ∧ OStrs wr w1.heap.size v k ((P.map txtP).take k) ∧ Below w1.heap.size w1 wr) (fun _ x _ => P.length - (intOf x).toNat)
    case atStart => exact ⟨0, Nat.zero_le _, rfl, by simpa using HE.out, HBA.out⟩
    case round =>
      obtain ⟨k, hk, rfl, hown, hbl⟩ := hrel
      clear HE HBA
      have Hown := Lib.hid hown
      have Hbl := Lib.hid hbl
      clear hown hbl
      by_cases hlt : k < P.length
      · obtain ⟨b1, o1, a3, c3, q, e1, q1', hrow, hget⟩ := HI1.out.at_ hlt
        injection e1 with e1
        subst e1
        have hqm := HPM.out q (List.mem_of_getElem? hget.out)
        have HPT : Hid ((P.map txtP).take k ++ [txtP q] = (P.map txtP).take (k + 1)) := push_take (by rw [List.getElem?_map, hget.out]; rfl)
        have q2 := (Hbl.out.cell (World.block_lt_of_cell? w1 _ q1')).trans q1'
        have HN := Lib.hid (iNumbers_any a3 q.length c3 q wr (hrow.keep Hbl.out) hqm.1 hqm.2.1 hqm.2.2)
        clear hget hqm hrow q1'
        go_wp2_with (first
          | (refine wpList_push_str w5 (txtP q) rfl (.tmp 26) (.tmp 29) rfl w1.heap.size _ _ _ rfl HO5.out (by omega) HB5.out.size _ rfl rfl ?_; intro v6 w6 ho6 hb6; have HO6 := Lib.hid ho6; have HB6 := Lib.hid (HB5.out.trans hb6); clear ho6 hb6)
          | (go_at_call 51; refine HN.out.mono ?_; rintro e w5 ⟨rfl, hb5⟩; have HO5 := Lib.hid (Hown.out.keep hb5); have HB5 := Lib.hid (step2 Hbl.out hb5); clear hb5))
        go_roundw
        case rel =>
          have h9 := HO6.out
          rw [HPT.out] at h9
          first | exact ⟨k + 1, hlt, by go_num, h9, HB6.out⟩ | ((repeat apply Exists.intro); exact ⟨⟨k + 1, hlt, by go_num, h9, HB6.out⟩, rfl⟩)
        case measure => (simp [intOf] <;> omega)
      · have hk2 : k = P.length := by omega
        have HT : Hid ((P.map txtP).take k = P.map txtP) := by show _ = _; rw [List.take_of_length_le (by simp; omega)]
        go_wp2_with fail
        go_ret
        rw [hv.out]
        have h9 := Hown.out
        rw [HT.out, hk2] at h9
        exact ⟨_, rfl, by rw [List.length_map]; exact h9.mono HB1.out.size, step2 HB1.out Hbl.out⟩
end Go.Proofs.YtonfdiaefkghbaaGreatDoor
