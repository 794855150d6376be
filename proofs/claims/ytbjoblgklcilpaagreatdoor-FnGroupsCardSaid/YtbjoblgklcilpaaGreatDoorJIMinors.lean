/- IMinors: a part of the proofs of this seat. -/
import Derived.Test.YtbjoblgklcilpaaGreatDoorProg
import Derived.Test.YtbjoblgklcilpaaGreatDoorJThA
import Derived.Test.YtbjoblgklcilpaaGreatDoorJG1b
import Derived.Test.YtbjoblgklcilpaaGreatDoorJG0a
namespace Go.Proofs.YtbjoblgklcilpaaGreatDoor
open Go.RowKit
set_option linter.all false
set_option maxHeartbeats 6400000 in
theorem iMinors_any (p : Option Addr) (n c : Nat) (t : List (List Int)) (k : Nat) (w : World) (h : Intss w p n t) (hs : smith t = true) (hkn : k ≤ n) :
    Calls Tryz.prog 60 #[.slice p n c, .int .i64 k] w fun e w' => e = .returned (.int .i64 (minorsI t k)) ∧ Below w.heap.size w w' := by
  have hm := h.2.1
  have HL : Hid (t.length = n) := h.1
  have H := Lib.hid h
  have HG : Hid (gcdAll t k (sets n k) (sets n k) 0 = minorsI t k) := by show _ = minorsI t k; unfold minorsI; rw [h.1]
  have hn4 : n ≤ 4 := by have := smith_len hs; have := HL.out; omega
  have HB := Lib.hid (smith_bnd hs)
  have HR := Lib.hid (smith_rowsLen hs HL.out)
  have hk4 : k ≤ 4 := by omega
  clear h hs
  have hsl : (sets n k).length ≤ 1048576 := by
    have h1 := setsTo_len n k (2 ^ n)
    have h2n : 2 ^ n ≤ 16 := Nat.pow_le_pow_right (n := 2) (by omega) hn4
    have h2 : (sets n k).length ≤ 2 ^ n := h1
    omega
  go_enter Tryz.func60, Tryz.ntmps60
  go_wp2_with (first | (go_at_call 83; refine (iSets_any n k _ hn4 (by omega)).mono ?_; rintro e w1 ⟨v1, rfl, ho1, hb1⟩; obtain ⟨ao1, cap1, rfl, hi1⟩ := ho1.form; have Hb1 := Lib.hid hb1; have HS := Lib.hid hi1; have HM := Lib.hid (H.out.keep hb1); clear ho1 hi1 hb1))
  go_loopw [5, 21] (fun u x wr => ∃ (i : Nat) (g : Int), i ≤ (sets n k).length ∧ u = .int .i64 g ∧ x = .int .i64 i ∧ Below w1.heap.size w1 wr ∧ Hid (Small62 g) ∧ Hid (gcdAll t k (sets n k) ((sets n k).drop i) g = minorsI t k)) (fun _ x _ => (sets n k).length - (intOf x).toNat)
  case atStart => exact ⟨0, 0, Nat.zero_le _, rfl, rfl, Below.refl _ _, ⟨by omega, by omega⟩, HG.out⟩
  case round =>
    obtain ⟨i, g, hi, rfl, rfl, hbl, hg, hr⟩ := hrel
    obtain ⟨wa, rfl⟩ : ∃ wo : World, wo = wr := ⟨_, rfl⟩
    by_cases hlt : i < (sets n k).length
    · obtain ⟨b1, o1, a1, c1, rs, rfl, hc1, hrow1, hget1⟩ := HS.out.at_ hlt
      have q1 := (hbl.cell (World.block_lt_of_cell? w1 _ hc1)).trans hc1
      have Hrow1 := Lib.hid hrow1
      have HX1 := Lib.hid (sets_get hget1.out)
      have hr2 : Hid _ := gcdAll_step hget1.out hr.out
      have hrl1 : rs.length ≤ 4 := by have := HX1.out.1; omega
      clear hc1 hrow1 hr
      have Hbl := Lib.hid hbl
      have Hg := hg
      clear hbl hg
      go_wp2_with (first | (go_at_call 83; refine (iSets_any n k _ hn4 (by omega)).mono ?_; rintro e w2 ⟨v2, rfl, ho2, hb2⟩; obtain ⟨ao2, cap2, rfl, hi2⟩ := ho2.form; have Hb2 := Lib.hid (Hbl.out.trans (hb2.mono Hbl.out.size)); have HS2 := Lib.hid hi2; have HM2 := Lib.hid (HM.out.keep Hb2.out); have Hrow2 := Lib.hid (Hrow1.out.keep Hb2.out); clear ho2 hi2 hb2))
      clear q1
      go_loopw [5, 30] (fun u x wr => ∃ (j : Nat) (g' : Int), j ≤ (sets n k).length ∧ u = .int .i64 g' ∧ x = .int .i64 j ∧ Below w2.heap.size w2 wr ∧ Hid (Small62 g') ∧ Hid (gcdRow t k rs ((sets n k).drop j) g' = gcdRow t k rs (sets n k) g)) (fun _ x _ => (sets n k).length - (intOf x).toNat)
      case atStart => exact ⟨0, g, Nat.zero_le _, rfl, rfl, Below.refl _ _, Hg, rfl⟩
      case round =>
        obtain ⟨j, g', hj, rfl, rfl, hbl, hg, hr⟩ := hrel
        obtain ⟨wb, rfl⟩ : ∃ wo : World, wo = wr := ⟨_, rfl⟩
        clear Hbl Hg
        by_cases hjt : j < (sets n k).length
        · obtain ⟨b2, o2, a2, c2, cs, rfl, hc2, hrow2, hget2⟩ := HS2.out.at_ hjt
          have HX2 := Lib.hid (sets_get hget2.out)
          have HD : Hid (Small62 (det k (someT t rs cs))) := some_small HB.out hk4 HX1.out.1 HX2.out.1
          have hr3 : Hid _ := gcdRow_step hget2.out hr.out
          have hg3 : Hid _ := (gcdI_small hg.out HD.out).2
          have q2 := (hbl.cell (World.block_lt_of_cell? w2 _ hc2)).trans hc2
          have HM3 := Lib.hid (HM2.out.keep hbl)
          have Hrs := Lib.hid (Hrow2.out.keep hbl)
          have Hcs := Lib.hid (hrow2.keep hbl)
          have Hbl := Lib.hid hbl
          have hrl2 : cs.length ≤ 4 := by have := HX2.out.1; omega
          clear hbl hc2 hrow2 hr
          go_wp2_with fail
          clear q2
          go_loopw [10, 37] (fun v x wr => ∃ i : Nat, i ≤ rs.length ∧ x = .int .i64 i ∧ OIntss wr wb.heap.size v i ((someT t rs cs).take i) ∧ Below wb.heap.size wb wr) (fun _ x _ => rs.length - (intOf x).toNat)
          case atStart => exact ⟨0, Nat.zero_le _, rfl, OIntss.empty wb _ (Nat.le_refl _), (Below.refl _ _).alloc (Nat.le_refl _) _⟩
          case round =>
            obtain ⟨i', hi', rfl, hown, hbx⟩ := hrel
            obtain ⟨wo, rfl⟩ : ∃ wo : World, wo = wr := ⟨_, rfl⟩
            by_cases hlt' : i' < rs.length
            · obtain ⟨b3, o3, x, rfl, hcx, hgx⟩ := Hrs.out.at_ (k := i') hlt'
              obtain ⟨a, rfl, ha⟩ := HX1.out.2.get hgx.out
              obtain ⟨b0, o0, a0, c0, r, rfl, hcr, hrow, hgr⟩ := HM3.out.at_ ha
              have HRL : Hid (r.length = n) := HR.out _ _ hgr.out
              have HG2 := Lib.hid (someT_get (cs := cs) hgx.out hgr.out)
              have q3 := (hbx.cell (World.block_lt_of_cell? wb _ hcx)).trans hcx
              have Hcr := Lib.hid hcr
              have Hrow := Lib.hid hrow
              have Hown := Lib.hid hown
              have Hbx := Lib.hid hbx
              clear hown hbx hcx hcr hrow
              go_wp2_with fail
              clear q3
              go_loopw [13, 44] (fun v' x wr => ∃ j : Nat, j ≤ cs.length ∧ x = .int .i64 j ∧ OInts wr wo.heap.size v' j ((pickRow r cs).take j) ∧ Below wo.heap.size wo wr) (fun _ x _ => cs.length - (intOf x).toNat)
              case atStart => exact ⟨0, Nat.zero_le _, rfl, OInts.empty wo _ (Nat.le_refl _), (Below.refl _ _).alloc (Nat.le_refl _) _⟩
              case round =>
                obtain ⟨j', hj', rfl, hline, hby⟩ := hrel
                obtain ⟨ao5, cap5, e5, _⟩ := hline.form
                subst e5
                have hbw := Hbx.out.trans (hby.mono Hbx.out.size)
                by_cases hjn : j' < cs.length
                · obtain ⟨b4, o4, y, rfl, hcy, hgy⟩ := Hcs.out.at_ (k := j') hjn
                  obtain ⟨e, rfl, he⟩ := HX2.out.2.get hgy.out
                  obtain ⟨b5, o5, z, rfl, hcz, hgz⟩ := Hrow.out.at_ (k := e) (by have := HRL.out; omega)
                  have HE := Lib.hid (pickRow_get hgy.out hgz.out)
                  have er : e < r.length := by have := HRL.out; omega
                  have q2 := (hbw.cell (World.block_lt_of_cell? wb _ Hcr.out)).trans Hcr.out
                  have q3 := (hbw.cell (World.block_lt_of_cell? wb _ hcy)).trans hcy
                  have q4 := (hbw.cell (World.block_lt_of_cell? wb _ hcz)).trans hcz
                  have Hline := Lib.hid hline
                  have Hby := Lib.hid hby
                  clear hline hby hbw hcy hcz
                  go_wp2_with (first | (at_builtin; refine wpList_push_one _ _ rfl _ _ rfl wo.heap.size _ _ _ rfl Hline.out (by omega) Hby.out.size _ rfl rfl ?_; intro v1 w3 ho1 hb1; have Ho1 := Lib.hid ho1; have Hb3 := Lib.hid hb1; clear ho1 hb1))
                  all_goals refine ⟨?_, ?_⟩
                  all_goals first
                    | (have ho1 := Ho1.out; rw [push_take HE.out] at ho1; exact ⟨j' + 1, hjn, by go_num, ho1, Hby.out.trans Hb3.out⟩)
                    | (simp [intOf]; omega)
                · rw [List.take_of_length_le (by rw [pickRow_len]; omega)] at hline
                  have e : j' = cs.length := by omega
                  subst e
                  have Hline := Lib.hid hline
                  have Hby := Lib.hid hby
                  clear hline hby hbw
                  go_wp2_with (first | (at_builtin; refine wpList_push_fresh _ _ wo rfl _ _ rfl wb.heap.size _ i' _ rfl Hown.out (by omega) Hbx.out.size Hby.out _ _ Hline.out _ (by rfl) rfl ?_; intro v3 w3 ho3 hb3 _))
                  go_roundw
                  case rel =>
                    rw [push_take HG2.out] at ho3
                    exact ⟨i' + 1, hlt', by go_num, ho3, Hbx.out.trans hb3⟩
                  case measure => simp [intOf]; omega
            · rw [List.take_of_length_le (by rw [someT_len]; omega)] at hown
              have e : i' = rs.length := by omega
              subst e
              obtain ⟨ao6, cap6, e6, hi6⟩ := hown.form
              subst e6
              have Hi6 := Lib.hid hi6
              have Hbx := Lib.hid hbx
              clear hown hbx hi6
              go_wp2_with (first
                | (go_at_call 48; refine (iDet_any k _ _ _ (someT t rs cs) _ HX1.out.1 (by omega) Hi6.out (by have := someT_rowsLen t rs cs; rw [HX2.out.1] at this; exact this)).mono ?_; rintro e w3 ⟨rfl, hb3⟩; have Hb3 := Lib.hid (Hbl.out.trans ((Hbx.out.trans (hb3.mono Hbx.out.size)).mono Hbl.out.size)); clear hb3)
                | (go_at_call 84; refine (iGcd_any _ _ _ hg.out HD.out).mono ?_; rintro e w' ⟨rfl, hdr⟩; have Hb4 := Lib.hid (Hb3.out.trans (hdr.below _)); clear hdr))
              go_roundw
              case rel => exact ⟨j + 1, _, hjt, rfl, by go_num, Hb4.out, hg3, hr3⟩
              case measure => simp [intOf]; omega
        · have hr3 : Hid _ := gcdRow_end (by omega) hr.out
          have hr4 : Hid (gcdAll t k (sets n k) ((sets n k).drop (i + 1)) g' = minorsI t k) := by show gcdAll t k (sets n k) ((sets n k).drop (i + 1)) g' = minorsI t k; rw [hr3.out]; exact hr2.out
          have Hbl2 := Lib.hid (Hb2.out.trans (hbl.mono Hb2.out.size))
          clear hr hbl hr2 hr3
          go_wp2_with fail
          go_roundw
          case rel => exact ⟨i + 1, g', hlt, rfl, by go_num, Hbl2.out, hg, hr4⟩
          case measure => simp [intOf]; omega
    · have hr3 : Hid _ := gcdAll_end (by omega) hr.out
      clear hr
      go_wp2_with fail
      go_ret
      exact ⟨ret_int hr3.out, Hb1.out.trans (hbl.mono Hb1.out.size)⟩
end Go.Proofs.YtbjoblgklcilpaaGreatDoor
