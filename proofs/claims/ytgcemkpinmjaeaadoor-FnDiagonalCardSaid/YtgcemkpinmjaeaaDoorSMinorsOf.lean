/- SMinorsOf: a part of the proofs of this seat. -/
import Derived.Test.YtgcemkpinmjaeaaDoorProg
import Derived.Test.YtgcemkpinmjaeaaDoorThA
import Derived.Test.YtgcemkpinmjaeaaDoorSFits
import Derived.Test.YtgcemkpinmjaeaaDoorSSets
import Derived.Test.YtgcemkpinmjaeaaDoorSSome
import Derived.Test.YtgcemkpinmjaeaaDoorSDet
namespace Go.Proofs.YtgcemkpinmjaeaaDoor
open Go.RowKit
set_option linter.all false
set_option maxHeartbeats 3200000 in
theorem sMinorsOf_any (p : Option Addr) (n c : Nat) (t : List (List Int)) (k : Int) (w : World) (h : Intss w p n t) :
    Calls Tryd.prog 13 #[.slice p n c, .int .i64 k] w fun e w' => e = .returned (.int .i64 (minorsOf t k)) ∧ Below w.heap.size w w' := by
  have hm := h.2.1
  have HL : Hid (t.length = n) := h.1
  have H := Lib.hid h
  clear h
  cases hs : smith t
  · have hg : Hid (minorsOf t k = -1) := by show minorsOf t k = _; simp [minorsOf, hs]
    go_enter Tryd.func13, Tryd.ntmps13
    go_wp2_with (first | (go_at_call 25; refine (sFits_any _ _ _ t _ H.out).mono ?_; rintro e w' ⟨rfl, rfl⟩))
    go_ret
    exact ⟨ret_int hg.out.symm, Below.refl _ _⟩
  cases hi : inR k 0 n
  · have hg : Hid (minorsOf t k = -1) := by show minorsOf t k = _; simp [minorsOf, HL.out, hi]
    go_enter Tryd.func13, Tryd.ntmps13
    go_wp2_with (first | (go_at_call 25; refine (sFits_any _ _ _ t _ H.out).mono ?_; rintro e w' ⟨rfl, rfl⟩) | (go_at_call 31; refine (l1In_any _ _ _ _).mono ?_; rintro e w' ⟨rfl, rfl⟩))
    go_ret
    exact ⟨ret_int hg.out.symm, Below.refl _ _⟩
  have hk := inR_true hi
  obtain ⟨k, rfl⟩ : ∃ m : Nat, k = (m : Int) := ⟨k.toNat, by omega⟩
  have hkn : k ≤ n := by omega
  have HG : Hid (gcdAll t k (sets n k) (sets n k) 0 = minorsOf t k) := by
    show _ = minorsOf t k
    simp only [minorsOf, HL.out, hs, hi, minorsI, Bool.and_self, if_true, Int.toNat_natCast]
  have hn4 : n ≤ 4 := by have := smith_len hs; have := HL.out; omega
  have HB := Lib.hid (smith_bnd hs)
  have HR := Lib.hid (smith_rowsLen hs HL.out)
  have hk4 : k ≤ 4 := by omega
  go_enter Tryd.func13, Tryd.ntmps13
  go_wp2_with (first | (go_at_call 25; refine (sFits_any _ _ _ t _ H.out).mono ?_; rintro e w' ⟨rfl, rfl⟩) | (go_at_call 31; refine (l1In_any _ _ _ _).mono ?_; rintro e w' ⟨rfl, rfl⟩) | (go_at_call 32; refine (sSets_any n k _ hn4 (by omega)).mono ?_; rintro e w1 ⟨v1, rfl, ho1, hb1⟩; obtain ⟨ao1, cap1, rfl, hi1⟩ := ho1.form; have Hb1 := Lib.hid hb1; have HS := Lib.hid hi1; have HM := Lib.hid (H.out.keep hb1); clear ho1 hi1 hb1))
  have hsl : (sets n k).length ≤ 1048576 := by
    have h1 := setsTo_len n k (2 ^ n)
    have h2n : 2 ^ n ≤ 16 := Nat.pow_le_pow_right (n := 2) (by omega) hn4
    have h2 : (sets n k).length ≤ 2 ^ n := h1
    omega
  go_loopw [5, 7] (fun u x wr => ∃ (i : Nat) (g : Int), i ≤ (sets n k).length ∧ u = .int .i64 g ∧ x = .int .i64 i ∧ Below w1.heap.size w1 wr ∧ Hid (Small62 g) ∧ Hid (gcdAll t k (sets n k) ((sets n k).drop i) g = minorsOf t k)) (fun _ x _ => (sets n k).length - (intOf x).toNat)
  case atStart => exact ⟨0, 0, Nat.zero_le _, rfl, rfl, Below.refl _ _, ⟨by omega, by omega⟩, HG.out⟩
  case round =>
    obtain ⟨i, g, hi, rfl, rfl, hbl, hg, hr⟩ := hrel
    by_cases hlt : i < (sets n k).length
    · obtain ⟨b1, o1, a1, c1, rs, rfl, hc1, hrow1, hget1⟩ := HS.out.at_ hlt
      have Hc1 := Lib.hid hc1
      have Hrow1 := Lib.hid hrow1
      have HX1 := Lib.hid (sets_get hget1.out)
      have hr2 : Hid _ := gcdAll_step hget1.out hr.out
      clear hc1 hrow1 hr
      have Hbl := Lib.hid hbl
      have Hg := hg
      clear hbl hg
      go_wp2_with fail
      go_loopw [5, 8] (fun u x wr => ∃ (j : Nat) (g' : Int), j ≤ (sets n k).length ∧ u = .int .i64 g' ∧ x = .int .i64 j ∧ Below w1.heap.size w1 wr ∧ Hid (Small62 g') ∧ Hid (gcdRow t k rs ((sets n k).drop j) g' = gcdRow t k rs (sets n k) g)) (fun _ x _ => (sets n k).length - (intOf x).toNat)
      case atStart => exact ⟨0, g, Nat.zero_le _, rfl, rfl, Hbl.out, Hg, rfl⟩
      case round =>
        obtain ⟨j, g', hj, rfl, rfl, hbl, hg, hr⟩ := hrel
        clear Hbl Hg
        by_cases hjt : j < (sets n k).length
        · obtain ⟨b2, o2, a2, c2, cs, e, hc2, hrow2, hget2⟩ := HS.out.at_ hjt
          injection e with e
          injection e with e1 e2
          subst e1
          subst e2
          have Hc2 := Lib.hid hc2
          have Hrow2 := Lib.hid hrow2
          have HX2 := Lib.hid (sets_get hget2.out)
          have HD : Hid (Small62 (det k (someT t rs cs))) := some_small HB.out hk4 HX1.out.1 HX2.out.1
          have hr3 : Hid _ := gcdRow_step hget2.out hr.out
          have hg3 : Hid _ := (gcdI_small hg.out HD.out).2
          have q1 := (hbl.cell (World.block_lt_of_cell? w1 _ Hc1.out)).trans Hc1.out
          have q2 := (hbl.cell (World.block_lt_of_cell? w1 _ Hc2.out)).trans Hc2.out
          have q3 : wr.drew.cell? ⟨b1, o1 + i, none⟩ = some (.slice a1 rs.length c1) := q1
          have q4 : wr.drew.cell? ⟨b1, o1 + j, none⟩ = some (.slice a2 cs.length c2) := q2
          have Hbl := Lib.hid hbl.drew
          have hrl1 : rs.length ≤ 4 := by have := HX1.out.1; omega
          have hrl2 : cs.length ≤ 4 := by have := HX2.out.1; omega
          clear hbl hc2 hrow2 hr
          go_wp2_with fail
          go_region_held3 (fun w' => w'.cell? ⟨b1, o1 + i, none⟩ = some (.slice a1 rs.length c1) ∧ w'.cell? ⟨b1, o1 + j, none⟩ = some (.slice a2 cs.length c2)) (first | go_keep | exact ⟨q1, q2⟩ | exact ⟨q5, q6⟩ | exact ⟨q7, q8⟩) (first
            | (go_at_call 35; refine (sSome_any _ _ _ t _ _ _ rs _ _ _ cs n _ (HM.out.keep Hbl.out) (Hrow1.out.keep Hbl.out) (Hrow2.out.keep Hbl.out) HR.out HX1.out.2 HX2.out.2 (by omega) (by omega)).mono ?_; rintro e w2 ⟨v2, rfl, ho2, hb2⟩; obtain ⟨ao2, cap2, rfl, hi2⟩ := ho2.form; have Hi2 := Lib.hid hi2; have Hb2 := Lib.hid (Hbl.out.trans (hb2.mono Hbl.out.size)); have q5 := (Hb2.out.cell (World.block_lt_of_cell? w1 _ Hc1.out)).trans Hc1.out; have q6 := (Hb2.out.cell (World.block_lt_of_cell? w1 _ Hc2.out)).trans Hc2.out; clear ho2 hb2 hi2)
            | (go_at_call 34; refine (sDet_any k _ _ _ (someT t rs cs) _ HX1.out.1 (by omega) Hi2.out (by have := someT_rowsLen t rs cs; rw [HX2.out.1] at this; exact this)).mono ?_; rintro e w3 ⟨rfl, hb3⟩; have Hb3 := Lib.hid (Hb2.out.trans (hb3.mono Hb2.out.size)); have q7 := (Hb3.out.cell (World.block_lt_of_cell? w1 _ Hc1.out)).trans Hc1.out; have q8 := (Hb3.out.cell (World.block_lt_of_cell? w1 _ Hc2.out)).trans Hc2.out; clear hb3)
            | (go_at_call 33; refine (sGcd_any _ _ _ hg.out HD.out).mono ?_; rintro e w' ⟨rfl, rfl⟩))
          go_wp2_with fail
          go_roundw
          case rel => exact ⟨j + 1, _, hjt, rfl, by go_num, Hb3.out, hg3, hr3⟩
          case measure => simp [intOf]; omega
        · have hr3 : Hid _ := gcdRow_end (by omega) hr.out
          have hr4 : Hid (gcdAll t k (sets n k) ((sets n k).drop (i + 1)) g' = minorsOf t k) := by show gcdAll t k (sets n k) ((sets n k).drop (i + 1)) g' = minorsOf t k; rw [hr3.out]; exact hr2.out
          have Hbl := Lib.hid hbl
          clear hr hbl hr2 hr3
          go_wp2_with fail
          go_roundw
          case rel => exact ⟨i + 1, g', hlt, rfl, by go_num, Hbl.out, hg, hr4⟩
          case measure => simp [intOf]; omega
    · have hr3 : Hid _ := gcdAll_end (by omega) hr.out
      clear hr
      go_wp2_with fail
      go_ret
      exact ⟨ret_int hr3.out, Hb1.out.trans (hbl.mono Hb1.out.size)⟩
end Go.Proofs.YtgcemkpinmjaeaaDoor
