/- SGreatest: a part of the proofs of this seat. -/
import Derived.Test.YtgcemkpinmjaeaaProg
import Derived.Test.YtgcemkpinmjaeaaVG0a
import Derived.Test.YtgcemkpinmjaeaaVG0b
namespace Go.Proofs.Ytgcemkpinmjaeaa
open Go.RowKit
set_option linter.all false
set_option maxRecDepth 20000 in
set_option maxHeartbeats 3200000 in
theorem sGreatest_any (p : Option Addr) (n c : Nat) (m : List (List Int)) (a b : Int) (w : World) (h : Intss w p n m) :
    Calls Try.prog 40 #[.slice p n c, .int .i64 a, .int .i64 b] w fun e w' => ∃ v, e = .returned (.tuple #[v, .bool (great m a b)]) ∧ OInts w' w.heap.size v (greatV m a b).length (greatV m a b) ∧ Below w.heap.size w w' := by
  have hm := h.2.1
  have HL : Hid (m.length = n) := h.1
  have H := Lib.hid h
  clear h
  have Hempty := Lib.hid (OInts.empty w w.heap.size (Nat.le_refl _))
  have Hbe : Hid (Below w.heap.size w (w.alloc (.cells #[] 3))) := (Below.refl _ _).alloc (Nat.le_refl _) _
  have HN : Hid (∀ (_ : greatOk m a b = false), great m a b = false ∧ greatV m a b = []) := fun e => by simp [great, greatV, e]
  cases hgr : isGraph m
  · have hg := Lib.hid (HN.out (by simp [greatOk, hgr]))
    go_enter Try.func40, Try.ntmps40
    go_wp2_with (first | (go_at_call 117; refine (sIsGraph_any _ _ _ m _ H.out).mono ?_; rintro e w' ⟨rfl, rfl⟩) | (go_at_call 76; refine (l1In_any _ _ _ _).mono ?_; rintro e w' ⟨rfl, rfl⟩))
    go_ret2
    rw [hg.out.1, hg.out.2]
    exact ⟨_, rfl, Hempty.out, Hbe.out⟩
  cases hia : inR a 1 9
  · have hg := Lib.hid (HN.out (by simp [greatOk, hia]))
    go_enter Try.func40, Try.ntmps40
    go_wp2_with (first | (go_at_call 117; refine (sIsGraph_any _ _ _ m _ H.out).mono ?_; rintro e w' ⟨rfl, rfl⟩) | (go_at_call 76; refine (l1In_any _ _ _ _).mono ?_; rintro e w' ⟨rfl, rfl⟩))
    go_ret2
    rw [hg.out.1, hg.out.2]
    exact ⟨_, rfl, Hempty.out, Hbe.out⟩
  cases hib : inR b 1 9
  · have hg := Lib.hid (HN.out (by simp [greatOk, hib]))
    go_enter Try.func40, Try.ntmps40
    go_wp2_with (first | (go_at_call 117; refine (sIsGraph_any _ _ _ m _ H.out).mono ?_; rintro e w' ⟨rfl, rfl⟩) | (go_at_call 76; refine (l1In_any _ _ _ _).mono ?_; rintro e w' ⟨rfl, rfl⟩))
    go_ret2
    rw [hg.out.1, hg.out.2]
    exact ⟨_, rfl, Hempty.out, Hbe.out⟩
  have HM : Hid (isMat m = true) := by
    show isMat m = true
    cases e : isMat m
    · simp [isGraph, e] at hgr
    · rfl
  have hn9 : n ≤ 9 := by have := isMat_len HM.out; have := HL.out; omega
  have ha1 : 1 ≤ a := (inR_true hia).1
  have ha9 : a ≤ 9 := (inR_true hia).2
  have H9 : Hid (Nine n (List.replicate n b)) := nine_rep hib
  have HGO : Hid (greatOk m a b = true) := by show greatOk m a b = true; simp [greatOk, hgr, hia, hib]
  have HGL : Hid (gvN m a (List.replicate n b) = greatL m a b) := by show _ = greatL m a b; unfold greatL; rw [HL.out]
  go_enter Try.func40, Try.ntmps40
  go_wp2_with (first | (go_at_call 117; refine (sIsGraph_any _ _ _ m _ H.out).mono ?_; rintro e w' ⟨rfl, rfl⟩) | (go_at_call 76; refine (l1In_any _ _ _ _).mono ?_; rintro e w' ⟨rfl, rfl⟩))
  clear hgr hia hib
  clear Hempty Hbe HN
  go_loopw [8, 9] (fun v x wr => ∃ k : Nat, k ≤ n ∧ x = .int .i64 k ∧ OInts wr w.heap.size v k (List.replicate k b) ∧ Below w.heap.size w wr) (fun _ x _ => n - (intOf x).toNat)
  case atStart => exact ⟨0, Nat.zero_le _, rfl, OInts.empty w _ (Nat.le_refl _), (Below.refl _ _).alloc (Nat.le_refl _) _⟩
  case round =>
    obtain ⟨k, hk, rfl, hown, hbl⟩ := hrel
    obtain ⟨ao5, cap5, e5, _⟩ := hown.form
    subst e5
    have Hown := Lib.hid hown
    have Hbl := Lib.hid hbl
    clear hown hbl
    by_cases hlt : k < n
    · go_wp2_with (first | (at_builtin; refine wpList_push_one _ _ rfl _ _ rfl w.heap.size _ _ _ rfl Hown.out (by omega) Hbl.out.size _ rfl rfl ?_; intro v1 w3 ho1 hb3; have Ho1 := Lib.hid ho1; have Hb3 := Lib.hid hb3; clear ho1 hb3))
      go_roundw
      case rel =>
        have ho1 := Ho1.out
        rw [rep_push] at ho1
        exact ⟨k + 1, hlt, by go_num, ho1, Hbl.out.trans Hb3.out⟩
      case measure => simp [intOf]; omega
    · have e : k = n := by omega
      subst e
      go_wp2_with fail
      go_loopw [8] (fun v wr => ∃ vl : List Int, OInts wr w.heap.size v k vl ∧ Hid (Nine k vl) ∧ Hid (gvN m a vl = greatL m a b) ∧ Below w.heap.size w wr) (fun v wr => (readInts wr v).sum.toNat)
      case atStart => exact ⟨_, Hown.out, H9.out, HGL.out, Hbl.out⟩
      case round =>
        obtain ⟨vl, hown, h9, hgv, hbl⟩ := hrel
        obtain ⟨wo, rfl⟩ : ∃ wo : World, wo = wr := ⟨_, rfl⟩
        clear Hown Hbl
        obtain ⟨ao6, cap6, e6, hi6⟩ := hown.form
        subst e6
        have HRD : Hid (readInts wo (.slice ao6 k cap6) = vl) := readInts_is hi6
        have Hown := Lib.hid hown
        have Hv := Lib.hid hi6
        have Hbl := Lib.hid hbl
        clear hown hi6 hbl
        go_wp2_with fail
        go_loopw [10, 11] (fun v' x wr => ∃ j : Nat, j ≤ k ∧ x = .int .i64 j ∧ OInts wr wo.heap.size v' j ((gstep m a vl).take j) ∧ Below wo.heap.size wo wr) (fun _ x _ => k - (intOf x).toNat)
        case atStart => exact ⟨0, Nat.zero_le _, rfl, OInts.empty wo _ (Nat.le_refl _), (Below.refl _ _).alloc (Nat.le_refl _) _⟩
        case round =>
          obtain ⟨j, hj, rfl, hline, hbx⟩ := hrel
          obtain ⟨ao7, cap7, e7, hi7⟩ := hline.form
          subst e7
          by_cases hjn : j < k
          · obtain ⟨b1, o1, a1, c1, r, rfl, hcr, hrow, hgr⟩ := H.out.at_ (k := j) hjn
            obtain ⟨b2, o2, y, rfl, hcy, hgy⟩ := Hv.out.at_ (k := j) hjn
            have HRL : Hid (r.length = k) := by
              have := (isMat_row HM.out hgr.out).1
              show r.length = k
              rw [this, HL.out]
            have HE := Lib.hid (gstep_get (a := a) hgr.out hgy.out)
            have q1 := (hbx.cell (World.block_lt_of_cell? wo _ hcy)).trans hcy
            have HMm := Lib.hid (H.out.keep (Hbl.out.trans (hbx.mono Hbl.out.size)))
            have HVv := Lib.hid (Hv.out.keep hbx)
            have hne2 : (a == 0) = false := by simp; omega
            have hne3 : ¬ a = 0 := by omega
            have hwd := wdot_bound r vl 0 (fun x hx => by obtain ⟨j', hj'⟩ := List.getElem?_of_mem hx; exact allIn_get (isMat_row HM.out hgr.out).2 hj') h9.out.2 (by omega) (by have := HRL.out; omega)
            have hwd0 := hwd.1
            have hwd1 : wdot 0 r vl ≤ 1099511627776 := by have := HRL.out; omega
            have hwq : Hid (IntKind.i64.wrap ((wdot 0 r vl).tdiv a) = (wdot 0 r vl).tdiv a) := by
              show IntKind.i64.wrap ((wdot 0 r vl).tdiv a) = (wdot 0 r vl).tdiv a
              have q0 : 0 ≤ (wdot 0 r vl).tdiv a := Int.tdiv_nonneg hwd0 (by omega)
              have q9 : (wdot 0 r vl).tdiv a ≤ wdot 0 r vl := by rw [Int.tdiv_eq_ediv_of_nonneg hwd0]; exact Int.ediv_le_self a hwd0
              exact IntWalk.i64_in _ (by omega)
            clear hwd
            have Hline := Lib.hid hline
            have Hbx := Lib.hid hbx
            clear hline hi7 hbx hcr hrow hcy
            go_wp2_with fail
            go_region_law (first
              | (go_simp; go_at_call 119; refine (l26Row_any _ _ _ m _ _ _ vl _ j r _ (by exact HMm.out) (by exact HVv.out) rfl hgr.out HRL.out (Nat.le_refl _)).mono ?_; rintro e w' ⟨rfl, m2, rfl⟩)
              | (go_simp; go_at_call 118; refine (l1Min_any _ _ _).mono ?_; rintro e w' ⟨rfl, rfl⟩)
              | (refine step_of_wp rfl (wp_push_one _ _ (.tmp 44) (.tmp 56) rfl wo.heap.size _ _ _ rfl (by exact Hline.out) (by omega) (by exact Hbx.out.size) _ rfl rfl ?_); intro v1 w1 ho1 hb1; have Ho1 := Lib.hid ho1; have Hb1 := Lib.hid hb1; clear ho1 hb1))
            all_goals (go_wp2_with fail)
            all_goals refine ⟨?_, ?_⟩
            all_goals first
              | (simp [intOf]; omega)
              | (have ho1 := Ho1.out; rw [hwq.out, push_take HE.out] at ho1; exact ⟨j + 1, hjn, by go_num, ho1, (below_drewN Hbx.out _).trans Hb1.out⟩)
          · have ej : j = k := by omega
            subst ej
            rw [List.take_of_length_le (by rw [gstep_len (by rw [h9.out.1, HL.out]), HL.out]; omega)] at hline hi7
            have HVv := Lib.hid (Hv.out.keep hbx)
            have Hline := Lib.hid hline
            have Hi7 := Lib.hid hi7
            have Hbx := Lib.hid hbx
            clear hline hi7 hbx
            have h9m : Nine m.length vl := by rw [HL.out]; exact h9.out
            cases hdec : eqL (gstep m a vl) vl
            · have HNE : Hid (gstep m a vl ≠ vl) := fun e => by rw [eqL_true e] at hdec; cases hdec
              have HST := Lib.hid (gvN_step HM.out ha1 h9m HNE.out)
              clear h9m
              go_wp2_with (first | (go_at_call 120; refine (l4SameRow_any _ _ _ (gstep m a vl) _ _ _ vl _ Hi7.out HVv.out).mono ?_; rintro e w' ⟨rfl, m3, rfl⟩))
              go_roundw
              case rel => exact ⟨gstep m a vl, (Hline.out.mono Hbl.out.size).drewN m3, by have := HST.out.2.1; rw [HL.out] at this; exact this, HST.out.1.trans hgv.out, below_drewN (Hbl.out.trans (Hbx.out.mono Hbl.out.size)) m3⟩
              case measure => rw [HRD.out, readInts_is (Hi7.out.drewN m3)]; exact HST.out.2.2
            · have HEQ : Hid (gstep m a vl = vl) := by show _ = _; by_cases e : gstep m a vl = vl; exact e; rw [eqL_false e] at hdec; cases hdec
              have HGV : Hid (greatL m a b = vl) := by have := gvN_same HEQ.out; show _ = _; rw [← hgv.out, this]
              have HVS : Hid (vsum vl = vl.sum) := nine_vsum h9m (by rw [HL.out]; exact hn9)
              have HBE := Lib.hid (Hbl.out.trans (Hbx.out.mono Hbl.out.size))
              clear h9m
              cases hz : (vl.sum == 0)
              · have HG : Hid (great m a b = true ∧ greatV m a b = vl) := by have e1 : great m a b = true := by simp [great, HGO.out, HGV.out, hz]
                                                                             exact ⟨e1, by simp [greatV, e1, HGV.out]⟩
                have hz2 : (vsum vl == 0) = false := by rw [HVS.out]; exact hz
                go_wp2_with (first | (go_at_call 120; refine (l4SameRow_any _ _ _ (gstep m a vl) _ _ _ vl _ Hi7.out HVv.out).mono ?_; rintro e w' ⟨rfl, m3, rfl⟩) | (go_at_call 52; refine (sVectorSum_any _ _ _ vl _ (by exact HVv.out)).mono ?_; rintro e w' ⟨rfl, rfl⟩))
                go_ret2
                rw [HG.out.1, HG.out.2, h9.out.1]
                exact ⟨_, rfl, (Hown.out.keep Hbx.out).drewN m3, below_drewN HBE.out m3⟩
              · have HG : Hid (great m a b = false ∧ greatV m a b = []) := by have e1 : great m a b = false := by simp [great, HGV.out, hz]
                                                                              exact ⟨e1, by simp [greatV, e1]⟩
                have hz2 : (vsum vl == 0) = true := by rw [HVS.out]; exact hz
                go_wp2_with (first | (go_at_call 120; refine (l4SameRow_any _ _ _ (gstep m a vl) _ _ _ vl _ Hi7.out HVv.out).mono ?_; rintro e w' ⟨rfl, m3, rfl⟩) | (go_at_call 52; refine (sVectorSum_any _ _ _ vl _ (by exact HVv.out)).mono ?_; rintro e w' ⟨rfl, rfl⟩))
                go_ret2
                rw [HG.out.1, HG.out.2]
                exact ⟨_, rfl, OInts.empty _ _ (Nat.le_trans HBE.out.size (Nat.le_refl _)), (below_drewN HBE.out m3).alloc (Nat.le_trans HBE.out.size (Nat.le_refl _)) _⟩
end Go.Proofs.Ytgcemkpinmjaeaa
