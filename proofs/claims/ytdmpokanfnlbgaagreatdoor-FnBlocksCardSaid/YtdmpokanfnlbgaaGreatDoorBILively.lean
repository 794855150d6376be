/- ILively: a part of the proofs of this seat. -/
import Derived.BigQuiet
import Derived.Test.YtdmpokanfnlbgaaGreatDoorProg
import Derived.Test.YtdmpokanfnlbgaaGreatDoorBG0b
import Derived.Test.YtdmpokanfnlbgaaGreatDoorBG0a
namespace Go.Proofs.YtdmpokanfnlbgaaGreatDoor
open Go.RowKit
set_option linter.all false
set_option maxRecDepth 20000 in
set_option maxHeartbeats 6400000 in
theorem iLively_any (ao : Option Addr) (n c : Nat) (N : List (List Int)) (w : World) (h : Intss w ao n N) (hn : n ≤ 9) (hk : ∀ r ∈ N, ∀ x ∈ r, 0 ≤ x ∧ x < (n : Int)) :
    Calls Tryz.prog 94 #[.slice ao n c] w fun e w' => ∃ g, e = .returned (.slice (some ⟨g, 0, none⟩) n n) ∧ OBo w' w.heap.size (.slice (some ⟨g, 0, none⟩) n n) n (livF N n n (fun i => decide (i < n))) ∧ Below w.heap.size w w' := by
  have H := Lib.hid h
  have HK := Lib.hid hk
  have HL : Hid (N.length = n) := h.1
  obtain ⟨R, hR⟩ : ∃ R, livF N n n (fun i => decide (i < n)) = R := ⟨_, rfl⟩
  rw [hR]
  have HRR := Lib.hid hR
  have hmk := make_bools n (by omega)
  have hmade := OBo.made w n (by omega)
  have HB0 := belowA w (.cells (madeCells #[.bool false] n) 4)
  have HM : Hid (OBo (w.alloc (.cells (madeCells #[.bool false] n) 4)) w.heap.size (.slice (some ⟨w.heap.size, 0, none⟩) n n) n (fun i => decide (i < 0))) := by
    show OBo _ _ _ _ _
    have e : (fun i => decide (i < 0)) = (fun _ : Nat => false) := by funext i; simp
    rw [e]
    exact hmade
  have HBM := Lib.hid HB0
  clear h hk hR hmade HB0
  go_enter Tryz.func94, Tryz.ntmps94
  go_wp2_with fail
  go_loopw [17] (fun x wr => ∃ k : Nat, k ≤ n ∧ x = .int .i64 k ∧ OBo wr w.heap.size (.slice (some ⟨w.heap.size, 0, none⟩) n n) n (fun i => decide (i < k)) ∧ Below w.heap.size w wr) (fun x _ => n - (intOf x).toNat)
  case atStart => exact ⟨0, Nat.zero_le _, rfl, HM.out, HBM.out⟩
  case round =>
    obtain ⟨k, hk, rfl, hown, hbl⟩ := hrel
    clear HM HBM
    by_cases hlt : k < n
    · have q1 := hown.cell hlt
      have q2 := hown.frozen k
      have hs := hown.set k true
      rw [true_step] at hs
      have HS := Lib.hid hs
      have hgl := hown.lt
      have HB := Lib.hid (hbl.setCell (p := ⟨w.heap.size, k, none⟩) (Nat.le_refl _) (.bool true))
      clear hown hbl hs
      go_wp2_with fail
      go_roundw
      case rel => exact ⟨k + 1, hlt, by go_num, HS.out, HB.out⟩
      case measure => simp [intOf]; omega
    · have e : k = n := by omega
      subst e
      have HO := Lib.hid hown
      have HB := Lib.hid hbl
      clear hown hbl
      go_wp2_with fail
      go_loopw [26] (fun x wr => ∃ (j : Nat) (O : Nat → Bool), j ≤ k ∧ x = .int .i64 j ∧ OBo wr w.heap.size (.slice (some ⟨w.heap.size, 0, none⟩) k k) k O ∧ Hid (livF N k (k - j) O = R) ∧ Below w.heap.size w wr) (fun x _ => k - (intOf x).toNat)
      case atStart => exact ⟨0, _, Nat.zero_le _, rfl, HO.out, HRR.out, HB.out⟩
      case round =>
        clear HO HB
        obtain ⟨j, O, hj, rfl, hown, hr, hbl⟩ := hrel
        have HO := Lib.hid hown
        have HB := Lib.hid hbl
        by_cases hjn : j < k
        · have HST := Lib.hid (livF_step hjn hr.out)
          have HGL := Lib.hid hown.lt
          obtain ⟨wo, rfl⟩ : ∃ wo : World, wo = wr := ⟨_, rfl⟩
          have HT2 := Lib.hid (two_bools wo k (by omega))
          clear hown hbl hr
          go_wp2_with fail
          go_cut [5, 6] (fun v5 v6 wx => ∃ g5 g6, v5 = .slice (some ⟨g5, 0, none⟩) k k ∧ v6 = .slice (some ⟨g6, 0, none⟩) k k ∧ g5 ≠ g6 ∧ OBo wx wo.heap.size (.slice (some ⟨g5, 0, none⟩) k k) k (fun _ => false) ∧ OBo wx wo.heap.size (.slice (some ⟨g6, 0, none⟩) k k) k (fun _ => false) ∧ Below wo.heap.size wo wx)
          case first =>
            go_region
            all_goals
              go_wp2_with fail
              go_meet
              first
                | exact ⟨wo.heap.size, wo.heap.size + 1, rfl, rfl, Nat.ne_of_lt (Nat.lt_succ_self _), HT2.out.1, HT2.out.2.1, HT2.out.2.2⟩
                | exact ⟨wo.heap.size, wo.heap.size + 1, rfl, rfl, Nat.ne_of_lt (Nat.lt_succ_self _), HT2.out.1, HT2.out.2.1, HT2.out.2.2.drew⟩
                | exact ⟨wo.heap.size + 1, wo.heap.size, rfl, rfl, Nat.ne_of_gt (Nat.lt_succ_self _), HT2.out.2.1, HT2.out.1, HT2.out.2.2⟩
                | exact ⟨wo.heap.size + 1, wo.heap.size, rfl, rfl, Nat.ne_of_gt (Nat.lt_succ_self _), HT2.out.2.1, HT2.out.1, HT2.out.2.2.drew⟩
          case rest =>
          obtain ⟨g5, g6, rfl, rfl, hne, h5, h6, hbc⟩ := hcut
          have HO1 := Lib.hid (HO.out.keep hbc)
          have HB1 := Lib.hid (HB.out.trans (hbc.mono HB.out.size))
          have H5 := Lib.hid h5
          have H6 := Lib.hid h6
          clear h5 h6 hbc HO HB HT2
          obtain ⟨Y, hY⟩ : ∃ Y, rowsL O 0 N (fun _ => false, fun _ => false) = Y := ⟨_, rfl⟩
          have HSY : Hid (stepF N k O = partL O Y.1 Y.2 k) := by show _ = _; rw [← hY]; rfl
          have HY := Lib.hid hY
          clear hY
          go_wp2_with fail
          go_loopw [36] (fun x wr => ∃ (i : Nat) (F T : Nat → Bool), i ≤ k ∧ x = .int .i64 i ∧ OBo wr w.heap.size (.slice (some ⟨w.heap.size, 0, none⟩) k k) k O ∧ OBo wr wo.heap.size (.slice (some ⟨g5, 0, none⟩) k k) k F ∧ OBo wr wo.heap.size (.slice (some ⟨g6, 0, none⟩) k k) k T ∧ Hid (rowsL O i (N.drop i) (F, T) = Y) ∧ Below w.heap.size w wr) (fun x _ => k - (intOf x).toNat)
          case atStart => exact ⟨0, _, _, Nat.zero_le _, rfl, HO1.out, H5.out, H6.out, HY.out, HB1.out⟩
          case round =>
            clear HO1 H5 H6 HB1 HY
            obtain ⟨i, F, T, hi, rfl, hown, h5, h6, hr, hbl⟩ := hrel
            have HO := Lib.hid hown
            have HB := Lib.hid hbl
            have H5 := Lib.hid h5
            have H6 := Lib.hid h6
            clear hown hbl h5 h6
            by_cases hik : i < k
            · obtain ⟨b, o, ai, ci, r, rfl, hc, hrow, hget⟩ := H.out.at_ hik
              have hcr := (HB.out.cell (World.block_lt_of_cell? w _ hc)).trans hc
              have HROW := Lib.hid hrow
              have hrm := hrow.2.1
              have HRS := Lib.hid (rowsL_step hget.out hr.out)
              have HKR := Lib.hid (HK.out r (List.mem_of_getElem? hget.out))
              clear hc hrow hr hget
              go_wp2_with fail
              clear hcr
              go_loopw [43] (fun x wr => ∃ (q : Nat) (F T : Nat → Bool), q ≤ r.length ∧ x = .int .i64 q ∧ OBo wr w.heap.size (.slice (some ⟨w.heap.size, 0, none⟩) k k) k O ∧ OBo wr wo.heap.size (.slice (some ⟨g5, 0, none⟩) k k) k F ∧ OBo wr wo.heap.size (.slice (some ⟨g6, 0, none⟩) k k) k T ∧ Hid (rowsL O (i + 1) (N.drop (i + 1)) (rowL O i (r.drop q) (F, T)) = Y) ∧ Below w.heap.size w wr) (fun x _ => r.length - (intOf x).toNat)
              case atStart => exact ⟨0, F, T, Nat.zero_le _, rfl, HO.out, H5.out, H6.out, HRS.out, HB.out⟩
              case round =>
                clear HO H5 H6 HB HRS F T
                obtain ⟨q, F, T, hq, rfl, hown, h5, h6, hr, hbl⟩ := hrel
                have HO := Lib.hid hown
                have HB := Lib.hid hbl
                have H5 := Lib.hid h5
                have H6 := Lib.hid h6
                clear hown hbl h5 h6
                by_cases hqr : q < r.length
                · obtain ⟨b2, o2, x, rfl, hcx, hgx⟩ := HROW.out.at_ hqr
                  have hcx2 := (HB.out.cell (World.block_lt_of_cell? w _ hcx)).trans hcx
                  have hx := HKR.out x (List.mem_of_getElem? hgx.out)
                  obtain ⟨z, rfl⟩ : ∃ z : Nat, x = z := ⟨x.toNat, by omega⟩
                  have hzk : z < k := by omega
                  have HRS := Lib.hid (rowL_step (G := rowsL O (i + 1) (N.drop (i + 1))) hgx.out hr.out)
                  have ci := HO.out.cell hik
                  have cz := HO.out.cell hzk
                  have e5 := H5.out.lt
                  have e6 := H6.out.lt
                  have eg := HGL.out
                  have f1 := H5.out.cell hik
                  have f2 := H5.out.frozen i
                  have HO2 := Lib.hid (HO.out.setFar (g' := g5) (by omega) i (.bool true) H5.out)
                  have H52 := Lib.hid (H5.out.set i true)
                  have H62 := Lib.hid (H6.out.setFar (g' := g5) hne i (.bool true) H5.out)
                  have f3 := H62.out.cell hzk
                  have f4 := H62.out.frozen z
                  have HO3 := Lib.hid (HO2.out.setFar (g' := g6) (by omega) z (.bool true) H62.out)
                  have H53 := Lib.hid (H52.out.setFar (g' := g6) (fun e => hne e.symm) z (.bool true) H62.out)
                  have H63 := Lib.hid (H62.out.set z true)
                  have HB3 := Lib.hid ((HB.out.setCell (p := ⟨g5, i, none⟩) (by show w.heap.size ≤ g5; omega) (.bool true)).setCell (p := ⟨g6, z, none⟩) (by show w.heap.size ≤ g6; omega) (.bool true))
                  clear hcx hx hgx hr e5 e6 eg
                  cases hOi : O i
                  · have HN := Lib.hid (HRS.out.2 (by simp [hOi]))
                    rw [hOi] at ci
                    clear HRS f1 f2 f3 f4
                    go_wp2_with fail
                    go_roundw
                    case rel => exact ⟨q + 1, F, T, hqr, by go_num, HO.out, H5.out, H6.out, HN.out, HB.out⟩
                    case measure => simp [intOf]; omega
                  · cases hOz : O z
                    · have HN := Lib.hid (HRS.out.2 (by simp [hOi, hOz]))
                      rw [hOi] at ci
                      rw [hOz] at cz
                      clear HRS f1 f2 f3 f4
                      go_wp2_with fail
                      go_roundw
                      case rel => exact ⟨q + 1, F, T, hqr, by go_num, HO.out, H5.out, H6.out, HN.out, HB.out⟩
                      case measure => simp [intOf]; omega
                    · have HN := Lib.hid (HRS.out.1 (by simp [hOi, hOz]))
                      rw [hOi] at ci
                      rw [hOz] at cz
                      clear HRS
                      go_wp2_with fail
                      go_roundw
                      case rel => exact ⟨q + 1, _, _, hqr, by go_num, HO3.out, H53.out, H63.out, HN.out, HB3.out⟩
                      case measure => simp [intOf]; omega
                · have HN := Lib.hid (rowL_end (G := rowsL O (i + 1) (N.drop (i + 1))) (by omega) hr.out)
                  clear hr
                  go_wp2_with fail
                  go_roundw
                  case rel => exact ⟨i + 1, F, T, hik, by go_num, HO.out, H5.out, H6.out, HN.out, HB.out⟩
                  case measure => simp [intOf]; omega
            · have HE := Lib.hid (rowsL_end (by have := HL.out; omega) hr.out)
              have HSE : Hid (stepF N k O = partL O F T k) := by show _ = _; rw [HSY.out, ← HE.out]
              have HOP : Hid (OBo wr w.heap.size (.slice (some ⟨w.heap.size, 0, none⟩) k k) k (partL O F T 0)) := by show OBo _ _ _ _ _; rw [partL_zero]; exact HO.out
              clear hr HE
              go_wp2_with fail
              go_loopw [67] (fun x wr => ∃ (q : Nat), q ≤ k ∧ x = .int .i64 q ∧ OBo wr w.heap.size (.slice (some ⟨w.heap.size, 0, none⟩) k k) k (partL O F T q) ∧ OBo wr wo.heap.size (.slice (some ⟨g5, 0, none⟩) k k) k F ∧ OBo wr wo.heap.size (.slice (some ⟨g6, 0, none⟩) k k) k T ∧ Below w.heap.size w wr) (fun x _ => k - (intOf x).toNat)
              case atStart => exact ⟨0, Nat.zero_le _, rfl, HOP.out, H5.out, H6.out, HB.out⟩
              case round =>
                clear HO HOP H5 H6 HB
                obtain ⟨q, hq, rfl, hown, h5, h6, hbl⟩ := hrel
                have HO := Lib.hid hown
                have HB := Lib.hid hbl
                have H5 := Lib.hid h5
                have H6 := Lib.hid h6
                clear hown hbl h5 h6
                by_cases hqk : q < k
                · have c0 := HO.out.cell hqk
                  rw [partL_at] at c0
                  have c5 := H5.out.cell hqk
                  have c6 := H6.out.cell hqk
                  have fz := HO.out.frozen q
                  have e5 := H5.out.lt
                  have e6 := H6.out.lt
                  have eg := HGL.out
                  have HN : Hid (∀ b, b = (O q && F q && T q) → OBo (wr.setCell ⟨w.heap.size, q, none⟩ (.bool b)) w.heap.size (.slice (some ⟨w.heap.size, 0, none⟩) k k) k (partL O F T (q + 1))) := by
                    show ∀ b, _
                    intro b hb
                    rw [← partL_step O F T q hb]
                    exact HO.out.set q b
                  have H5N := Lib.hid (fun b => H5.out.setFar (g' := w.heap.size) (by omega) q (.bool b) HO.out)
                  have H6N := Lib.hid (fun b => H6.out.setFar (g' := w.heap.size) (by omega) q (.bool b) HO.out)
                  have HBN := Lib.hid (fun b => HB.out.setCell (p := ⟨w.heap.size, q, none⟩) (Nat.le_refl _) (.bool b))
                  clear e5 e6 eg
                  cases hOq : O q
                  · rw [hOq] at c0
                    go_wp2_with fail
                    go_roundw
                    case rel => exact ⟨q + 1, hqk, by go_num, HN.out _ (by simp [hOq]), H5N.out _, H6N.out _, HBN.out _⟩
                    case measure => simp [intOf]; omega
                  · rw [hOq] at c0
                    cases hFq : F q
                    · rw [hFq] at c5
                      go_wp2_with fail
                      go_roundw
                      case rel => exact ⟨q + 1, hqk, by go_num, HN.out _ (by simp [hOq, hFq]), H5N.out _, H6N.out _, HBN.out _⟩
                      case measure => simp [intOf]; omega
                    · rw [hFq] at c5
                      go_wp2_with fail
                      go_roundw
                      case rel => exact ⟨q + 1, hqk, by go_num, HN.out _ (by simp [hOq, hFq]), H5N.out _, H6N.out _, HBN.out _⟩
                      case measure => simp [intOf]; omega
                · have e : q = k := by omega
                  subst e
                  have HN : Hid (OBo wr w.heap.size (.slice (some ⟨w.heap.size, 0, none⟩) q q) q (stepF N q O)) := by show OBo _ _ _ _ _; rw [HSE.out]; exact HO.out
                  go_wp2_with fail
                  go_roundw
                  case rel => exact ⟨j + 1, _, hjn, by go_num, HN.out, HST.out, HB.out⟩
                  case measure => simp [intOf]; omega
        · have e : k - j = 0 := by omega
          have HE : Hid (O = R) := by show _ = _; have := hr.out; rw [e] at this; exact this
          clear hown hbl hr
          go_wp2_with fail
          go_ret
          rw [← HE.out]
          exact ⟨_, rfl, HO.out, HB.out⟩
end Go.Proofs.YtdmpokanfnlbgaaGreatDoor
