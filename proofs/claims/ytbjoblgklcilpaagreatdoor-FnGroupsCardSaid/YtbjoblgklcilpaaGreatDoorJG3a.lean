/- D18: a part of the proofs of this seat. -/
import Derived.Deep.RegionLaw
import Derived.BigQuiet
import Derived.Test.YtbjoblgklcilpaaGreatDoorProg
import Derived.Test.YtbjoblgklcilpaaGreatDoorJG2a
import Derived.Test.YtbjoblgklcilpaaGreatDoorJD18c
import Derived.Test.YtbjoblgklcilpaaGreatDoorJThA
import Derived.Test.YtbjoblgklcilpaaGreatDoorJSStretch
namespace Go.Proofs.YtbjoblgklcilpaaGreatDoor
open Go.RowKit
set_option linter.all false
/- What the law of groups draws. -/
def twoR (w : World) (e : Ending) (w' : World) : Prop := ∃ (v u : Value) (A B : List (List Int)), e = .returned (.tuple #[v, u]) ∧ OIntss w' w.heap.size v A.length A ∧ OIntss w' w.heap.size u B.length B ∧ Below w.heap.size w w'
set_option maxRecDepth 20000 in
set_option maxHeartbeats 3200000 in
theorem l18Two_any (ao : Option Addr) (n c : Nat) (w : World) (h : Bytes w ao n) :
    Calls Tryz.prog 36 #[.slice ao n c] w (twoR w) := by
  have H := Lib.hid h
  clear h
  go_enter Tryz.func36, Tryz.ntmps36
  go_wp2_with fail
  refine (l1New_any _ _ _ _ H.out).mono ?_
  rintro e w1 ⟨rfl, hc1, hb1⟩
  have hbl := hc1.lt.2
  have Hc1 := Lib.hid hc1
  have Hb1 := Lib.hid hb1
  have hs1 := hb1.size
  clear hc1 hb1
  go_wp2_with fail
  refine (l4Bent_any _ _ _ Hc1.out).mono ?_
  rintro e w2 ⟨v, T, rfl, ho, hT, hc2, hg2⟩
  obtain ⟨av, cv, rfl, _⟩ := ho.form
  have Ho2 := Lib.hid ho
  have Hc2 := Lib.hid hc2
  have Hg2 := Lib.hid hg2
  clear ho hT hc2 hg2
  go_wp2_with fail
  refine (sL18Split_any _ _ w1.heap.size _ _ _ T _ Hc2.out Ho2.out hbl Hg2.out.size).mono ?_
  rintro e w3 ⟨u, T2, rfl, ho3, hc3, hg3⟩
  obtain ⟨au, cu, rfl, _⟩ := ho3.form
  have Ho3 := Lib.hid (Ho2.out.away hg3 hbl)
  have Hu3 := Lib.hid ho3
  have Hc3 := Lib.hid hc3
  have Hg3 := Lib.hid (Hg2.out.trans hg3)
  clear ho3 hc3 hg3
  go_wp2_with fail
  refine (sIsMatrix_any _ _ _ T2 _ Hu3.out.readI).mono ?_
  rintro e w' ⟨rfl, rfl⟩
  cases hm : isMat T2
  · clear hm
    go_wp2_with fail
    refine (l4Bent_any _ _ _ Hc3.out).mono ?_
    rintro e w4 ⟨v4, T4, rfl, ho4, hT4, hc4, hg4⟩
    have HB4 := Lib.hid (Hb1.out.trans (below_of_grown (Hg3.out.trans hg4) (Nat.le_refl _) hs1))
    have Ho4 := Lib.hid (Ho3.out.away hg4 hbl)
    have hs3 := Hg3.out.size
    go_wp2_with fail
    go_ret2
    exact ⟨_, _, T, T4, rfl, Ho4.out.mono hs1, ho4.mono (by omega), HB4.out⟩
  · have HRL : Hid (RowsLen T2 T2.length) := fun i r hr => (isMat_row hm hr).1
    have hl9 := (isMat_len hm).2
    clear hm
    go_wp2_with fail
    refine (l1Once_any _ _ 4 _ Hc3.out (by omega) (by omega)).mono ?_
    rintro e w4 ⟨t, rfl, hc4, hg4⟩
    have Ho4 := Lib.hid (Ho3.out.away hg4 hbl)
    have Hu4 := Lib.hid (Hu3.out.away hg4 hbl)
    have Hc4 := Lib.hid hc4
    have Hg4 := Lib.hid (Hg3.out.trans hg4)
    clear hc4 hg4
    cases t
    · go_wp2_with fail
      refine (sOrder_any _ _ T2.length _ Hc4.out (by omega)).mono ?_
      rintro e w5 ⟨vn, L, rfl, hon, hL, hc5, hg5⟩
      obtain ⟨an, cn, rfl, hrn⟩ := hon.form
      have Ho5 := Lib.hid (Ho4.out.away hg5 hbl)
      have Hu5 := Lib.hid (Hu4.out.away hg5 hbl)
      have Hg5 := Lib.hid (Hg4.out.trans hg5)
      have HN := Lib.hid hrn
      have HL := Lib.hid hL
      clear hon hrn hL hc5 hg5
      go_wp2_with fail
      refine (sRename_any _ _ _ T2 _ _ L _ Hu5.out.readI HRL.out HN.out HL.out (by omega)).mono ?_
      rintro e w6 ⟨v6, T6, rfl, ho6, hb6⟩
      have Ho6 := Lib.hid (Ho5.out.keep hb6)
      have HB6 := Lib.hid (step2 (Hb1.out.trans (below_of_grown Hg5.out (Nat.le_refl _) hs1)) hb6)
      have hs5 := Hg5.out.size
      have H6 : Hid (OIntss w6 w5.heap.size v6 T6.length T6) := by show OIntss _ _ _ _ _; rw [ho6.len]; exact ho6
      clear ho6 hb6
      go_wp2_with fail
      go_ret2
      exact ⟨_, _, T, T6, rfl, Ho6.out.mono hs1, H6.out.mono (by omega), HB6.out⟩
    · go_wp2_with fail
      refine (l4Bent_any _ _ _ Hc4.out).mono ?_
      rintro e w5 ⟨v5, T5, rfl, ho5, hT5, hc5, hg5⟩
      have HB5 := Lib.hid (Hb1.out.trans (below_of_grown (Hg4.out.trans hg5) (Nat.le_refl _) hs1))
      have Ho5 := Lib.hid (Ho4.out.away hg5 hbl)
      have hs4 := Hg4.out.size
      go_wp2_with fail
      go_ret2
      exact ⟨_, _, T, T5, rfl, Ho5.out.mono hs1, ho5.mono (by omega), HB5.out⟩
set_option maxRecDepth 20000 in
set_option maxHeartbeats 1600000 in
theorem drawDiff_any (ao : Option Addr) (n c : Nat) (w : World) (h : Bytes w ao n) :
    Calls Tryz.prog 7 #[.slice ao n c] w (twoR w) := by
  have H := Lib.hid h
  clear h
  go_enter Tryz.func7, Tryz.ntmps7
  go_wp2_with fail
  refine (l18Two_any _ _ _ _ H.out).mono ?_
  rintro e w1 ⟨v, u, A, B, rfl, ho, hu, hb⟩
  have HO := Lib.hid ho
  have HU := Lib.hid hu
  have HB := Lib.hid hb
  clear ho hu hb
  go_wp2_with fail
  go_ret2
  exact ⟨_, _, A, B, rfl, HO.out, HU.out, HB.out⟩
set_option maxRecDepth 20000 in
set_option maxHeartbeats 1600000 in
theorem drawFlow_any (ao : Option Addr) (n c : Nat) (w : World) (h : Bytes w ao n) :
    Calls Tryz.prog 8 #[.slice ao n c] w (twoR w) := by
  have H := Lib.hid h
  clear h
  go_enter Tryz.func8, Tryz.ntmps8
  go_wp2_with fail
  refine (l1New_any _ _ _ _ H.out).mono ?_
  rintro e w1 ⟨rfl, hc1, hb1⟩
  have hbl := hc1.lt.2
  have Hc1 := Lib.hid hc1
  have Hb1 := Lib.hid hb1
  have H1 := Lib.hid (H.out.keep hb1)
  have hs1 := hb1.size
  clear hc1 hb1
  go_wp2_with fail
  refine (l18Two_any _ _ _ _ H1.out).mono ?_
  rintro e w2 ⟨v, u, A, B, rfl, ho, hu, hb⟩
  obtain ⟨av, cv, rfl, _⟩ := ho.form
  obtain ⟨au, cu, rfl, _⟩ := hu.form
  have HO := Lib.hid ho
  have HU := Lib.hid hu
  have HB := Lib.hid (Hb1.out.trans (hb.mono hs1))
  have Hc2 := Lib.hid (Hc1.out.keep hb)
  have hs2 := hb.size
  clear ho hu hb
  go_wp2_with fail
  refine (sStretch_any _ _ _ A 0 _ HO.out.readI).mono ?_
  rintro e w3 ⟨v3, rfl, ho3, hb3⟩
  obtain ⟨a3, c3, rfl, _⟩ := ho3.form
  have HO3 := Lib.hid (HO.out.keep hb3)
  have HU3 := Lib.hid (HU.out.keep hb3)
  have HM3 := Lib.hid ho3
  have HB3 := Lib.hid (HB.out.trans (hb3.mono (Nat.le_trans hs1 hs2)))
  have Hc3 := Lib.hid (Hc2.out.keep hb3)
  clear ho3 hb3
  cases hk : strOk A 0
  · clear hk
    go_wp2_with fail
    go_ret2
    exact ⟨_, _, A, B, rfl, HO3.out.mono hs1, HU3.out.mono hs1, HB3.out⟩
  · clear hk
    go_wp2_with fail
    refine (l1Once_any _ _ 2 _ Hc3.out (by omega) (by omega)).mono ?_
    rintro e w4 ⟨t, rfl, hc4, hg4⟩
    have HO4 := Lib.hid (HO3.out.away hg4 hbl)
    have HU4 := Lib.hid (HU3.out.away hg4 hbl)
    have HM4 := Lib.hid (HM3.out.away hg4 (by omega))
    have HB4 := Lib.hid (HB3.out.trans (below_of_grown hg4 (Nat.le_refl _) HB3.out.size))
    clear hc4 hg4
    cases t
    · go_wp2_with fail
      go_ret2
      exact ⟨_, _, A, B, rfl, HO4.out.mono hs1, HU4.out.mono hs1, HB4.out⟩
    · go_wp2_with fail
      go_ret2
      exact ⟨_, _, A, _, rfl, HO4.out.mono hs1, HM4.out.mono (by omega), HB4.out⟩
set_option maxRecDepth 20000 in
set_option maxHeartbeats 3200000 in
theorem drawStretch_any (ao : Option Addr) (n c : Nat) (w : World) (h : Bytes w ao n) :
    Calls Tryz.prog 9 #[.slice ao n c] w fun e w' => ∃ (v : Value) (T : List (List Int)) (a : Int), e = .returned (.tuple #[v, .int .i64 a]) ∧ OIntss w' w.heap.size v T.length T ∧ Below w.heap.size w w' := by
  have H := Lib.hid h
  clear h
  go_enter Tryz.func9, Tryz.ntmps9
  go_wp2_with (first
    | (go_at_call 39; refine (l1Bit_any t _).mono ?_; rintro e w' ⟨rfl, rfl⟩)
    | (go_at_call 37; refine (l1Once_any _ _ 12 _ Hc3.out (by omega) (by omega)).mono ?_; rintro e w4 ⟨t, rfl, hc4, hg4⟩; have hbl4 := hc4.lt.2; have Hc4 := Lib.hid hc4; have Hg4 := Lib.hid (Hg3.out.trans hg4); have HoX_4 := Lib.hid (HoX_3.out.away hg4 hbl1); clear hc4 hg4)
    | (go_at_call 38; refine (l1Below_any _ _ TX.length _ Hc2.out (by have := HBX.out.1; omega) (by have := HBX.out.2.1; omega)).mono ?_; rintro e w3 ⟨x, hx, rfl, hc3, hg3⟩; have hbl3 := hc3.lt.2; have Hc3 := Lib.hid hc3; have Hg3 := Lib.hid (Hg2.out.trans hg3); have HoX_3 := Lib.hid (HoX_2.out.away hg3 hbl1); clear hc3 hg3)
    | (go_at_call 29; refine (l4Bent_any _ _ _ Hc1.out).mono ?_; rintro e w2 ⟨vX, TX, rfl, hoX, hBX, hc2, hg2⟩; obtain ⟨gX, capX, rfl⟩ := hoX.head (by have := hBX.1; omega); have HBX := Lib.hid hBX; have hbl2 := hc2.lt.2; have Hc2 := Lib.hid hc2; have Hg2 := Lib.hid (Hg1.out.trans hg2); have HoX_2 := Lib.hid hoX; clear hoX hBX hc2 hg2)
    | (go_at_call 30; refine (l1New_any _ _ _ _ H.out).mono ?_; rintro e w1 ⟨rfl, hc1, hb1⟩; have hbl1 := hc1.lt.2; have Hc1 := Lib.hid hc1; have Hb1 := Lib.hid hb1; have Hg1 : Hid (w1.grownBy w1 (some w.heap.size)) := World.grownBy.refl _ _; clear hc1 hb1))
  have HBL := Lib.hid (Hb1.out.trans (below_of_grown Hg4.out (Nat.le_refl _) Hb1.out.size))
  have HS1 := Hb1.out.size
  go_ret2
  exact ⟨_, _, _, rfl, HoX_4.out.mono HS1, HBL.out⟩
set_option maxRecDepth 20000 in
set_option maxHeartbeats 3200000 in
theorem drawGroupOf_any (ao : Option Addr) (n c : Nat) (w : World) (h : Bytes w ao n) :
    Calls Tryz.prog 5 #[.slice ao n c] w fun e w' => ∃ (v : Value) (T : List (List Int)), e = .returned v ∧ OIntss w' w.heap.size v T.length T ∧ Below w.heap.size w w' := by
  have H := Lib.hid h
  clear h
  go_enter Tryz.func5, Tryz.ntmps5
  go_wp2_with (first
    | (go_at_call 29; refine (l4Bent_any _ _ _ Hc1.out).mono ?_; rintro e w2 ⟨vX, TX, rfl, hoX, hBX, hc2, hg2⟩; obtain ⟨gX, capX, rfl⟩ := hoX.head (by have := hBX.1; omega); have HBX := Lib.hid hBX; have hbl2 := hc2.lt.2; have Hc2 := Lib.hid hc2; have Hg2 := Lib.hid (Hg1.out.trans hg2); have HoX_2 := Lib.hid hoX; clear hoX hBX hc2 hg2)
    | (go_at_call 30; refine (l1New_any _ _ _ _ H.out).mono ?_; rintro e w1 ⟨rfl, hc1, hb1⟩; have hbl1 := hc1.lt.2; have Hc1 := Lib.hid hc1; have Hb1 := Lib.hid hb1; have Hg1 : Hid (w1.grownBy w1 (some w.heap.size)) := World.grownBy.refl _ _; clear hc1 hb1))
  have HBL := Lib.hid (Hb1.out.trans (below_of_grown Hg2.out (Nat.le_refl _) Hb1.out.size))
  have HS1 := Hb1.out.size
  go_ret
  exact ⟨_, _, rfl, HoX_2.out.mono HS1, HBL.out⟩
end Go.Proofs.YtbjoblgklcilpaaGreatDoor
