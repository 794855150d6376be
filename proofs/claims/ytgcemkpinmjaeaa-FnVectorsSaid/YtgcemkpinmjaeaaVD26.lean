/- D26: a part of the proofs of this seat. -/
import Derived.Deep.RegionLaw
import Derived.Test.YtgcemkpinmjaeaaProg
import Derived.Test.YtgcemkpinmjaeaaVG1a
namespace Go.Proofs.Ytgcemkpinmjaeaa
open Go.RowKit
set_option linter.all false
/- What the law of vectors draws. -/
set_option maxRecDepth 20000 in
set_option maxHeartbeats 3200000 in
theorem drawGreatest_any (ao : Option Addr) (n c : Nat) (w : World) (h : Bytes w ao n) :
    Calls Try.prog 38 #[.slice ao n c] w fun e w' => ∃ (v : Value) (T : List (List Int)) (a b : Int), e = .returned (.tuple #[v, .int .i64 a, .int .i64 b]) ∧ OIntss w' w.heap.size v T.length T ∧ Below w.heap.size w w' := by
  have H := Lib.hid h
  clear h
  go_enter Try.func38, Try.ntmps38
  go_wp2_with (first
    | (go_at_call 111; refine (l1PickInt_any _ _ w4.heap.size 6 6 _ [1, 2, 3, 9, 0, 10] _ (Hc4.out.keep ((Below.refl _ _).alloc (Nat.le_refl _) _)) (OInts.lit_ (Nat.le_refl _) rfl rfl (by omega)) hbl4 (by omega) (by omega)).mono ?_; rintro e w5 ⟨p, hp, rfl, hc5, hg5'⟩; have hg5 := (gr_alloc (World.grownBy.refl w4 (some w.heap.size)) _).trans hg5'; clear hg5'; have hbl5 := hc5.lt.2; have Hc5 := Lib.hid hc5; have Hg5 := Lib.hid (Hg4.out.trans hg5); have HoX_5 := Lib.hid (HoX_4.out.away hg5 hbl1); clear hc5 hg5)
    | (go_at_call 93; refine (l1Bit_any t _).mono ?_; rintro e w' ⟨rfl, rfl⟩)
    | (go_at_call 94; refine (l1Once_any _ _ 12 _ Hc3.out (by omega) (by omega)).mono ?_; rintro e w4 ⟨t, rfl, hc4, hg4⟩; have hbl4 := hc4.lt.2; have Hc4 := Lib.hid hc4; have Hg4 := Lib.hid (Hg3.out.trans hg4); have HoX_4 := Lib.hid (HoX_3.out.away hg4 hbl1); clear hc4 hg4)
    | (go_at_call 92; refine (l1Below_any _ _ 4 _ Hc2.out (by omega) (by omega)).mono ?_; rintro e w3 ⟨x, hx, rfl, hc3, hg3⟩; have hbl3 := hc3.lt.2; have Hc3 := Lib.hid hc3; have Hg3 := Lib.hid (Hg2.out.trans hg3); have HoX_3 := Lib.hid (HoX_2.out.away hg3 hbl1); clear hc3 hg3)
    | (go_at_call 110; refine (l4Bent_any _ _ _ Hc1.out).mono ?_; rintro e w2 ⟨vX, TX, rfl, hoX, hBX, hc2, hg2⟩; obtain ⟨gX, capX, rfl⟩ := hoX.head (by have := hBX.1; omega); have HBX := Lib.hid hBX; have hbl2 := hc2.lt.2; have Hc2 := Lib.hid hc2; have Hg2 := Lib.hid (Hg1.out.trans hg2); have HoX_2 := Lib.hid hoX; clear hoX hBX hc2 hg2)
    | (go_at_call 90; refine (l1New_any _ _ _ _ H.out).mono ?_; rintro e w1 ⟨rfl, hc1, hb1⟩; have hbl1 := hc1.lt.2; have Hc1 := Lib.hid hc1; have Hb1 := Lib.hid hb1; have Hg1 : Hid (w1.grownBy w1 (some w.heap.size)) := World.grownBy.refl _ _; clear hc1 hb1))
  have HBL := Lib.hid (Hb1.out.trans (below_of_grown Hg5.out (Nat.le_refl _) Hb1.out.size))
  have HS1 := Hb1.out.size
  go_ret3
  exact ⟨_, _, _, _, rfl, HoX_5.out.mono HS1, HBL.out⟩
set_option maxRecDepth 20000 in
set_option maxHeartbeats 3200000 in
theorem drawCanEnc_any (ao : Option Addr) (n c : Nat) (w : World) (h : Bytes w ao n) :
    Calls Try.prog 45 #[.slice ao n c] w fun e w' => ∃ (v : Value) (T : List (List Int)) (a b : Int), e = .returned (.tuple #[v, .int .i64 a, .int .i64 b]) ∧ OIntss w' w.heap.size v T.length T ∧ Below w.heap.size w w' := by
  have H := Lib.hid h
  clear h
  go_enter Try.func45, Try.ntmps45
  go_wp2_with (first
    | (go_at_call 92; refine (l1Below_any _ _ 5 _ Hc3.out (by omega) (by omega)).mono ?_; rintro e w4 ⟨y, hy, rfl, hc4, hg4⟩; have hbl4 := hc4.lt.2; have Hc4 := Lib.hid hc4; have Hg4 := Lib.hid (Hg3.out.trans hg4); have HoX_4 := Lib.hid (HoX_3.out.away hg4 hbl1); clear hc4 hg4)
    | (go_at_call 92; refine (l1Below_any _ _ 4 _ Hc2.out (by omega) (by omega)).mono ?_; rintro e w3 ⟨x, hx, rfl, hc3, hg3⟩; have hbl3 := hc3.lt.2; have Hc3 := Lib.hid hc3; have Hg3 := Lib.hid (Hg2.out.trans hg3); have HoX_3 := Lib.hid (HoX_2.out.away hg3 hbl1); clear hc3 hg3)
    | (go_at_call 110; refine (l4Bent_any _ _ _ Hc1.out).mono ?_; rintro e w2 ⟨vX, TX, rfl, hoX, hBX, hc2, hg2⟩; obtain ⟨gX, capX, rfl⟩ := hoX.head (by have := hBX.1; omega); have HBX := Lib.hid hBX; have hbl2 := hc2.lt.2; have Hc2 := Lib.hid hc2; have Hg2 := Lib.hid (Hg1.out.trans hg2); have HoX_2 := Lib.hid hoX; clear hoX hBX hc2 hg2)
    | (go_at_call 90; refine (l1New_any _ _ _ _ H.out).mono ?_; rintro e w1 ⟨rfl, hc1, hb1⟩; have hbl1 := hc1.lt.2; have Hc1 := Lib.hid hc1; have Hb1 := Lib.hid hb1; have Hg1 : Hid (w1.grownBy w1 (some w.heap.size)) := World.grownBy.refl _ _; clear hc1 hb1))
  have HBL := Lib.hid (Hb1.out.trans (below_of_grown Hg4.out (Nat.le_refl _) Hb1.out.size))
  have HS1 := Hb1.out.size
  go_ret3
  exact ⟨_, _, _, _, rfl, HoX_4.out.mono HS1, HBL.out⟩
set_option maxRecDepth 20000 in
set_option maxHeartbeats 6400000 in
theorem drawLeast_any (ao : Option Addr) (n c : Nat) (w : World) (h : Bytes w ao n) :
    Calls Try.prog 42 #[.slice ao n c] w fun e w' => ∃ (v : Value) (T : List (List Int)) (a : Int), e = .returned (.tuple #[v, .int .i64 a]) ∧ OIntss w' w.heap.size v T.length T ∧ Below w.heap.size w w' := by
  have H := Lib.hid h
  clear h
  go_enter Try.func42, Try.ntmps42
  go_wp2_with (first
    | (go_at_call 92; refine (l1Below_any _ _ 3 _ Hc3.out (by omega) (by omega)).mono ?_; rintro e w4 ⟨y, hy, rfl, hc4, hg4⟩; have HoX_4 := Lib.hid (HoX_3.out.away hg4 hbl1); have hbl4 := hc4.lt.2; have Hc4 := Lib.hid hc4; have Hg4 := Lib.hid (Hg3.out.trans hg4); clear hc4 hg4)
    | (go_at_call 92; refine (l1Below_any _ _ 2 _ Hc2.out (by omega) (by omega)).mono ?_; rintro e w3 ⟨x, hx, rfl, hc3, hg3⟩; have HoX_3 := Lib.hid (HoX_2.out.away hg3 hbl1); have hbl3 := hc3.lt.2; have Hc3 := Lib.hid hc3; have Hg3 := Lib.hid (Hg2.out.trans hg3); clear hc3 hg3)
    | (go_at_call 110; refine (l4Bent_any _ _ _ Hc1.out).mono ?_; rintro e w2 ⟨vX, TX, rfl, hoX, hBX, hc2, hg2⟩; obtain ⟨gX, capX, rfl⟩ := hoX.head (by have := hBX.1; omega); have hT1 := hBX.1; have hT5 := hBX.2.1; have hbl2 := hc2.lt.2; have Hc2 := Lib.hid hc2; have Hg2 := Lib.hid (Hg1.out.trans hg2); have HoX_2 := Lib.hid hoX; clear hc2 hg2 hoX hBX)
    | (go_at_call 90; refine (l1New_any _ _ _ _ H.out).mono ?_; rintro e w1 ⟨rfl, hc1, hb1⟩; have hbl1 := hc1.lt.2; have Hc1 := Lib.hid hc1; have Hb1 := Lib.hid hb1; have Hg1 : Hid (w1.grownBy w1 (some w.heap.size)) := World.grownBy.refl _ _; clear hc1 hb1))
  refine (sRunMatrix_any _ _ _).mono ?_
  rintro e w5 ⟨vR, rfl, hoR, hb5⟩
  generalize runMO _ _ = mo
  generalize runMV _ _ = R at hoR
  obtain ⟨aR, cR, rfl, hiR⟩ := hoR.form
  have HoX_5 := Lib.hid (HoX_4.out.keep hb5)
  have Hc5 := Lib.hid (Hc4.out.keep hb5)
  have Hg5 := Lib.hid (Hg4.out.trans (grown_of_below hb5))
  have HoR_5 := Lib.hid hoR
  have hbl4 : w.heap.size < w4.heap.size := Hc4.out.lt.2
  have hbl5 := Hc5.out.lt.2
  clear hoR hiR hb5
  cases mo
  · skip
    go_wp2_with (first
      | (go_at_call 93; refine (l1Bit_any u _).mono ?_; rintro e w' ⟨rfl, rfl⟩)
      | (go_at_call 94; refine (l1Once_any _ _ 12 _ Hc6.out (by omega) (by omega)).mono ?_; rintro e w7 ⟨u, rfl, hc7, hg7⟩; have HoX_7 := Lib.hid (HoX_6.out.away hg7 hbl1); have hbl7 := hc7.lt.2; have Hc7 := Lib.hid hc7; have Hg7 := Lib.hid (Hg6.out.trans hg7); clear hc7 hg7)
      | (go_at_call 92; refine (l1Below_any _ _ 4 _ Hc5.out (by omega) (by omega)).mono ?_; rintro e w6 ⟨z, hz, rfl, hc6, hg6⟩; have HoX_6 := Lib.hid (HoX_5.out.away hg6 hbl1); have hbl6 := hc6.lt.2; have Hc6 := Lib.hid hc6; have Hg6 := Lib.hid (Hg5.out.trans hg6); clear hc6 hg6))
    have HBL := Lib.hid (Hb1.out.trans (below_of_grown Hg7.out (Nat.le_refl _) Hb1.out.size))
    have HS1 := Hb1.out.size
    go_ret2
    exact ⟨_, _, _, rfl, HoX_7.out.mono HS1, HBL.out⟩
  · go_wp2_with fail
    refine (l1Once_any _ _ 3 _ Hc5.out (by omega) (by omega)).mono ?_
    rintro e w6 ⟨t, rfl, hc6, hg6⟩
    have HoX_6 := Lib.hid (HoX_5.out.away hg6 hbl1)
    have HoR_6 := Lib.hid (HoR_5.out.away hg6 hbl4)
    have Hc6 := Lib.hid hc6
    have Hg6 := Lib.hid (Hg5.out.trans hg6)
    have hbl6 := hc6.lt.2
    clear hc6 hg6
    cases t
    · skip
      go_wp2_with (first
        | (go_at_call 93; refine (l1Bit_any u _).mono ?_; rintro e w' ⟨rfl, rfl⟩)
        | (go_at_call 94; refine (l1Once_any _ _ 12 _ Hc7.out (by omega) (by omega)).mono ?_; rintro e w8 ⟨u, rfl, hc8, hg8⟩; have HoX_8 := Lib.hid (HoX_7.out.away hg8 hbl1); have hbl8 := hc8.lt.2; have Hc8 := Lib.hid hc8; have Hg8 := Lib.hid (Hg7.out.trans hg8); clear hc8 hg8)
        | (go_at_call 92; refine (l1Below_any _ _ 4 _ Hc6.out (by omega) (by omega)).mono ?_; rintro e w7 ⟨z, hz, rfl, hc7, hg7⟩; have HoX_7 := Lib.hid (HoX_6.out.away hg7 hbl1); have hbl7 := hc7.lt.2; have Hc7 := Lib.hid hc7; have Hg7 := Lib.hid (Hg6.out.trans hg7); clear hc7 hg7))
      have HBL := Lib.hid (Hb1.out.trans (below_of_grown Hg8.out (Nat.le_refl _) Hb1.out.size))
      have HS1 := Hb1.out.size
      go_ret2
      exact ⟨_, _, _, rfl, HoX_8.out.mono HS1, HBL.out⟩
    · go_wp2_with (go_at_call 55; refine (sPowM_any _ _ _ R 3 _ HoR_6.out.read).mono ?_; rintro e w7 ⟨v7, rfl, ho7, hb7⟩; generalize powM R 3 = pw at ho7 ⊢; have Ho7 := Lib.hid ho7; have Hg7 := Lib.hid (Hg6.out.trans (grown_of_below hb7)); clear ho7 hb7)
      have HBL := Lib.hid (Hb1.out.trans (below_of_grown Hg7.out (Nat.le_refl _) Hb1.out.size))
      have HS1 := Hb1.out.size
      have hs6 := Hg6.out.size
      go_ret2
      exact ⟨_, _, _, rfl, Ho7.out.mono (Nat.le_trans HS1 hs6), HBL.out⟩
set_option maxRecDepth 20000 in
set_option maxHeartbeats 6400000 in
theorem drawIsVec_any (ao : Option Addr) (n c : Nat) (w : World) (h : Bytes w ao n) :
    Calls Try.prog 41 #[.slice ao n c] w fun e w' => ∃ (v u : Value) (T : List (List Int)) (a : Int) (L : List Int), e = .returned (.tuple #[v, .int .i64 a, u]) ∧ OIntss w' w.heap.size v T.length T ∧ OInts w' w.heap.size u L.length L ∧ Below w.heap.size w w' := by
  have H := Lib.hid h
  clear h
  go_enter Try.func41, Try.ntmps41
  go_wp2_with (first
    | (go_at_call 92; refine (l1Below_any _ _ 3 _ Hc2.out (by omega) (by omega)).mono ?_; rintro e w3 ⟨x, hx, rfl, hc3, hg3⟩; have HoX_3 := Lib.hid (HoX_2.out.away hg3 hbl1); have hbl3 := hc3.lt.2; have Hc3 := Lib.hid hc3; have Hg3 := Lib.hid (Hg2.out.trans hg3); clear hc3 hg3)
    | (go_at_call 110; refine (l4Bent_any _ _ _ Hc1.out).mono ?_; rintro e w2 ⟨vX, TX, rfl, hoX, hBX, hc2, hg2⟩; obtain ⟨gX, capX, rfl⟩ := hoX.head (by have := hBX.1; omega); have hT1 := hBX.1; have hT5 := hBX.2.1; have hbl2 := hc2.lt.2; have Hc2 := Lib.hid hc2; have Hg2 := Lib.hid (Hg1.out.trans hg2); have HoX_2 := Lib.hid hoX; clear hc2 hg2 hoX hBX)
    | (go_at_call 90; refine (l1New_any _ _ _ _ H.out).mono ?_; rintro e w1 ⟨rfl, hc1, hb1⟩; have hbl1 := hc1.lt.2; have Hc1 := Lib.hid hc1; have Hb1 := Lib.hid hb1; have Hg1 : Hid (w1.grownBy w1 (some w.heap.size)) := World.grownBy.refl _ _; clear hc1 hb1))
  refine (sLeast_any _ _ _ TX _ _ HoX_3.out.read).mono ?_
  rintro e w4 ⟨vL, rfl, hoL, hb4⟩
  generalize least TX _ = lt
  generalize leastV TX _ = LV at hoL
  obtain ⟨aV, cV, rfl, _⟩ := hoL.form
  have HoX_4 := Lib.hid (HoX_3.out.keep hb4)
  have Hc4 := Lib.hid (Hc3.out.keep hb4)
  have Hg4 := Lib.hid (Hg3.out.trans (grown_of_below hb4))
  have HoL_4 := Lib.hid hoL
  have hbl4 := Hc4.out.lt.2
  have hs3 := Hg3.out.size
  have hs1 := Hb1.out.size
  clear hoL hb4
  cases lt
  · skip
    have hsk : w1.heap.size ≤ w4.heap.size := Hg4.out.size
    have hbk : w.heap.size < w4.heap.size := by omega
    have HE := Lib.hid (OInts.empty w4 w4.heap.size (Nat.le_refl _))
    have HBE := Lib.hid ((Below.refl w4.heap.size w4).alloc (Nat.le_refl _) (.cells #[] 3))
    go_wp2_with fail
    go_loopw [10, 11] (fun v x wr => ∃ (j : Nat) (L : List Int), j ≤ TX.length ∧ x = .int .i64 j ∧ OInts wr w4.heap.size v j L ∧ Since w1.heap.size w4.heap.size w4 wr ∧ Cur wr w.heap.size w.heap.size ∧ w1.grownBy wr (some w.heap.size)) (fun _ x _ => TX.length - (intOf x).toNat)
    case atStart => exact ⟨0, [], Nat.zero_le _, rfl, HE.out, (Since.refl _ _ _).below HBE.out (Nat.le_refl _), Hc4.out.keep HBE.out, Hg4.out.trans (grown_of_below HBE.out)⟩
    case round =>
      obtain ⟨j, L, hj, rfl, hown, hsi, hcu, hgr⟩ := hrel
      obtain ⟨aL, cL, rfl, _⟩ := hown.form
      have hsz : w4.heap.size ≤ wr.heap.size := hsi.size
      have HO := Lib.hid hown
      have HS := Lib.hid hsi
      have HC := Lib.hid hcu
      have HG := Lib.hid hgr
      clear hown hsi hcu hgr HE HBE
      by_cases hlt : j < TX.length
      · go_wp2_with (first
          | (at_builtin; refine wpList_push_at wa _ rfl (.tmp 41) (.tmp 44) rfl w4.heap.size _ _ _ rfl HOa.out (by omega) hsa _ rfl rfl ?_; intro v5 wb ho5 hg5 hn5; have HOb := Lib.hid ho5; have HSb := Lib.hid (HSa.out.rowD hg5 (fun g e => .inr (HOa.out.ownlt g e).1) hsa); have HCb := Lib.hid (HCa.out.grown hg5 (fun g e => (by have h9 := (HOa.out.ownlt g e).1; exact Nat.lt_of_lt_of_le hbk h9))); have HGb := Lib.hid (grown_farV HGa.out hg5 (fun g e => Nat.le_trans hsk (HOa.out.ownlt g e).1)); clear ho5 hg5 hn5)
          | (go_at_call 92; refine (l1Below_any _ _ 4 _ HC.out (by omega) (by omega)).mono ?_; rintro e wa ⟨y, hy, rfl, hca, hga⟩; have HOa := Lib.hid (HO.out.away hga hbk); have HSa := Lib.hid (HS.out.apartD hga hbl1 hsz); have HCa := Lib.hid hca; have HGa := Lib.hid (HG.out.trans hga); have hsa := Nat.le_trans hsz hga.size; clear hca hga))
        go_roundw
        case rel => exact ⟨j + 1, _, hlt, by go_num, HOb.out, HSb.out, HCb.out, HGb.out⟩
        case measure => (simp [intOf] <;> omega)
      · have hjl : j = TX.length := by omega
        subst hjl
        obtain ⟨gL, cL2, e⟩ := HO.out.head (by omega)
        cases e
        go_wp2_with fail
        refine (l1Once_any _ _ 12 _ HC.out (by omega) (by omega)).mono ?_
        rintro e wa ⟨q, rfl, hca, hga⟩
        have HOa := Lib.hid (HO.out.away hga hbk)
        have HSa := Lib.hid (HS.out.apartD hga hbl1 hsz)
        have HCa := Lib.hid hca
        have HGa := Lib.hid (HG.out.trans hga)
        have hsa := Nat.le_trans hsz hga.size
        have hba := hca.lt.2
        clear hca hga HO HC HG HS
        cases q
        · go_wp2_with (first
            | (go_at_call 93; refine (l1Bit_any u _).mono ?_; rintro e w' ⟨rfl, rfl⟩)
            | (go_at_call 94; refine (l1Once_any _ _ 12 _ HCa.out (by omega) (by omega)).mono ?_; rintro e wz ⟨u, rfl, hcz, hgz⟩; have HOz := Lib.hid (HOa.out.away hgz hbk); have HSz := Lib.hid (HSa.out.apartD hgz hbl1 hsa); have HGz := Lib.hid (HGa.out.trans hgz); clear hcz hgz))
          go_ret3
          exact ⟨_, _, _, _, _, rfl, (HoX_4.out.since HSz.out).mono (by omega), (HOz.out.mono (by omega)).self, Hb1.out.trans (below_of_grown HGz.out (Nat.le_refl _) Hb1.out.size)⟩
        · go_wp2_with (go_at_call 111; refine (l1PickInt_any _ _ wa.heap.size 2 2 _ [-1, 10] _ (HCa.out.keep ((Below.refl _ _).alloc (Nat.le_refl _) _)) (OInts.lit_ (Nat.le_refl _) rfl rfl (by omega)) hba (by omega) (by omega)).mono ?_; rintro e wb ⟨d0, hd0, rfl, hcb, hgb0⟩; have hgb := (gr_alloc (World.grownBy.refl wa (some w.heap.size)) _).trans hgb0; have HOb := Lib.hid (HOa.out.away hgb hbk); have HSb := Lib.hid (HSa.out.apartD hgb hbl1 hsa); have HCb := Lib.hid hcb; have HGb := Lib.hid (HGa.out.trans hgb); have hsb := Nat.le_trans hsa hgb.size; have hfb := HOb.out.frozen 0; have hcl := HOb.out.cell 0 hT1; have hgl := HOb.out.lt; have HOc := Lib.hid (HOb.out.set 0 d0); have HSc := Lib.hid (hi_setD HSb.out hgl.1 (k := 0) (.int .i64 d0)); have HCc := Lib.hid (HCb.out.grown (only_setCell (World.grownBy.refl wb (some gL)) rfl (p := ⟨gL, 0, none⟩) (.int .i64 d0)) (fun g e => (by injection e; omega))); have HGc := Lib.hid (grown_new HGb.out (p := ⟨gL, 0, none⟩) (by show _ ≤ gL; omega) (.int .i64 d0)); have hsc : w4.heap.size ≤ (wb.setCell ⟨gL, 0, none⟩ (.int .i64 d0)).heap.size := HSc.out.size; clear hcb hgb0 hgb hd0)
          refine (l1Once_any _ _ 12 _ HCc.out (by omega) (by omega)).mono ?_
          rintro e wz ⟨u, rfl, hcz, hgz⟩
          have HOz := Lib.hid (HOc.out.away hgz hbk)
          have HSz := Lib.hid (HSc.out.apartD hgz hbl1 hsc)
          have HGz := Lib.hid (HGc.out.trans hgz)
          clear hcz hgz
          go_wp2_with (go_at_call 93; refine (l1Bit_any u _).mono ?_; rintro e w' ⟨rfl, rfl⟩)
          go_ret3
          exact ⟨_, _, _, _, _, rfl, (HoX_4.out.since HSz.out).mono (by omega), (HOz.out.mono (by omega)).self, Hb1.out.trans (below_of_grown HGz.out (Nat.le_refl _) Hb1.out.size)⟩
  · go_wp2_with fail
    refine (l1Once_any _ _ 3 _ Hc4.out (by omega) (by omega)).mono ?_
    rintro e w5 ⟨t, rfl, hc5, hg5⟩
    have HoX_5 := Lib.hid (HoX_4.out.away hg5 hbl1)
    have HoL_5 := Lib.hid (HoL_4.out.away hg5 hbl3)
    have Hc5 := Lib.hid hc5
    have Hg5 := Lib.hid (Hg4.out.trans hg5)
    have hbl5 := hc5.lt.2
    clear hc5 hg5
    cases t
    · go_wp2_with fail
      go_ret3
      exact ⟨_, _, _, _, _, rfl, HoX_5.out.mono (by omega), HoL_5.out.mono (by omega), Hb1.out.trans (below_of_grown Hg5.out (Nat.le_refl _) Hb1.out.size)⟩
    · skip
      have hsk : w1.heap.size ≤ w5.heap.size := Hg5.out.size
      have hbk : w.heap.size < w5.heap.size := by omega
      have HE := Lib.hid (OInts.empty w5 w5.heap.size (Nat.le_refl _))
      have HBE := Lib.hid ((Below.refl w5.heap.size w5).alloc (Nat.le_refl _) (.cells #[] 3))
      go_wp2_with fail
      go_loopw [10, 11] (fun v x wr => ∃ (j : Nat) (L : List Int), j ≤ TX.length ∧ x = .int .i64 j ∧ OInts wr w5.heap.size v j L ∧ Since w1.heap.size w5.heap.size w5 wr ∧ Cur wr w.heap.size w.heap.size ∧ w1.grownBy wr (some w.heap.size)) (fun _ x _ => TX.length - (intOf x).toNat)
      case atStart => exact ⟨0, [], Nat.zero_le _, rfl, HE.out, (Since.refl _ _ _).below HBE.out (Nat.le_refl _), Hc5.out.keep HBE.out, Hg5.out.trans (grown_of_below HBE.out)⟩
      case round =>
        obtain ⟨j, L, hj, rfl, hown, hsi, hcu, hgr⟩ := hrel
        obtain ⟨aL, cL, rfl, _⟩ := hown.form
        have hsz : w5.heap.size ≤ wr.heap.size := hsi.size
        have HO := Lib.hid hown
        have HS := Lib.hid hsi
        have HC := Lib.hid hcu
        have HG := Lib.hid hgr
        clear hown hsi hcu hgr HE HBE
        by_cases hlt : j < TX.length
        · go_wp2_with (first
            | (at_builtin; refine wpList_push_at wa _ rfl (.tmp 41) (.tmp 44) rfl w5.heap.size _ _ _ rfl HOa.out (by omega) hsa _ rfl rfl ?_; intro v5 wb ho5 hg5 hn5; have HOb := Lib.hid ho5; have HSb := Lib.hid (HSa.out.rowD hg5 (fun g e => .inr (HOa.out.ownlt g e).1) hsa); have HCb := Lib.hid (HCa.out.grown hg5 (fun g e => (by have h9 := (HOa.out.ownlt g e).1; exact Nat.lt_of_lt_of_le hbk h9))); have HGb := Lib.hid (grown_farV HGa.out hg5 (fun g e => Nat.le_trans hsk (HOa.out.ownlt g e).1)); clear ho5 hg5 hn5)
            | (go_at_call 92; refine (l1Below_any _ _ 4 _ HC.out (by omega) (by omega)).mono ?_; rintro e wa ⟨y, hy, rfl, hca, hga⟩; have HOa := Lib.hid (HO.out.away hga hbk); have HSa := Lib.hid (HS.out.apartD hga hbl1 hsz); have HCa := Lib.hid hca; have HGa := Lib.hid (HG.out.trans hga); have hsa := Nat.le_trans hsz hga.size; clear hca hga))
          go_roundw
          case rel => exact ⟨j + 1, _, hlt, by go_num, HOb.out, HSb.out, HCb.out, HGb.out⟩
          case measure => (simp [intOf] <;> omega)
        · have hjl : j = TX.length := by omega
          subst hjl
          obtain ⟨gL, cL2, e⟩ := HO.out.head (by omega)
          cases e
          go_wp2_with fail
          refine (l1Once_any _ _ 12 _ HC.out (by omega) (by omega)).mono ?_
          rintro e wa ⟨q, rfl, hca, hga⟩
          have HOa := Lib.hid (HO.out.away hga hbk)
          have HSa := Lib.hid (HS.out.apartD hga hbl1 hsz)
          have HCa := Lib.hid hca
          have HGa := Lib.hid (HG.out.trans hga)
          have hsa := Nat.le_trans hsz hga.size
          have hba := hca.lt.2
          clear hca hga HO HC HG HS
          cases q
          · go_wp2_with (first
              | (go_at_call 93; refine (l1Bit_any u _).mono ?_; rintro e w' ⟨rfl, rfl⟩)
              | (go_at_call 94; refine (l1Once_any _ _ 12 _ HCa.out (by omega) (by omega)).mono ?_; rintro e wz ⟨u, rfl, hcz, hgz⟩; have HOz := Lib.hid (HOa.out.away hgz hbk); have HSz := Lib.hid (HSa.out.apartD hgz hbl1 hsa); have HGz := Lib.hid (HGa.out.trans hgz); clear hcz hgz))
            go_ret3
            exact ⟨_, _, _, _, _, rfl, (HoX_5.out.since HSz.out).mono (by omega), (HOz.out.mono (by omega)).self, Hb1.out.trans (below_of_grown HGz.out (Nat.le_refl _) Hb1.out.size)⟩
          · go_wp2_with (go_at_call 111; refine (l1PickInt_any _ _ wa.heap.size 2 2 _ [-1, 10] _ (HCa.out.keep ((Below.refl _ _).alloc (Nat.le_refl _) _)) (OInts.lit_ (Nat.le_refl _) rfl rfl (by omega)) hba (by omega) (by omega)).mono ?_; rintro e wb ⟨d0, hd0, rfl, hcb, hgb0⟩; have hgb := (gr_alloc (World.grownBy.refl wa (some w.heap.size)) _).trans hgb0; have HOb := Lib.hid (HOa.out.away hgb hbk); have HSb := Lib.hid (HSa.out.apartD hgb hbl1 hsa); have HCb := Lib.hid hcb; have HGb := Lib.hid (HGa.out.trans hgb); have hsb := Nat.le_trans hsa hgb.size; have hfb := HOb.out.frozen 0; have hcl := HOb.out.cell 0 hT1; have hgl := HOb.out.lt; have HOc := Lib.hid (HOb.out.set 0 d0); have HSc := Lib.hid (hi_setD HSb.out hgl.1 (k := 0) (.int .i64 d0)); have HCc := Lib.hid (HCb.out.grown (only_setCell (World.grownBy.refl wb (some gL)) rfl (p := ⟨gL, 0, none⟩) (.int .i64 d0)) (fun g e => (by injection e; omega))); have HGc := Lib.hid (grown_new HGb.out (p := ⟨gL, 0, none⟩) (by show _ ≤ gL; omega) (.int .i64 d0)); have hsc : w5.heap.size ≤ (wb.setCell ⟨gL, 0, none⟩ (.int .i64 d0)).heap.size := HSc.out.size; clear hcb hgb0 hgb hd0)
            refine (l1Once_any _ _ 12 _ HCc.out (by omega) (by omega)).mono ?_
            rintro e wz ⟨u, rfl, hcz, hgz⟩
            have HOz := Lib.hid (HOc.out.away hgz hbk)
            have HSz := Lib.hid (HSc.out.apartD hgz hbl1 hsc)
            have HGz := Lib.hid (HGc.out.trans hgz)
            clear hcz hgz
            go_wp2_with (go_at_call 93; refine (l1Bit_any u _).mono ?_; rintro e w' ⟨rfl, rfl⟩)
            go_ret3
            exact ⟨_, _, _, _, _, rfl, (HoX_5.out.since HSz.out).mono (by omega), (HOz.out.mono (by omega)).self, Hb1.out.trans (below_of_grown HGz.out (Nat.le_refl _) Hb1.out.size)⟩
set_option maxHeartbeats 1600000 in
theorem drawVSum_any (ao : Option Addr) (n c : Nat) (w : World) (h : Bytes w ao n) :
    Calls Try.prog 46 #[.slice ao n c] w fun e w' => ∃ (u : Value) (L : List Int), e = .returned u ∧ OInts w' w.heap.size u L.length L ∧ Below w.heap.size w w' := by
  have H := Lib.hid h
  clear h
  go_enter Try.func46, Try.ntmps46
  go_wp2_with fail
  refine (drawIsVec_any _ _ _ _ H.out).mono ?_
  rintro e w1 ⟨v, u, T, a, L, rfl, _, hu, hb⟩
  have HU := Lib.hid hu
  have HB := Lib.hid hb
  clear hu hb
  go_wp2_with fail
  go_ret
  exact ⟨_, L, rfl, HU.out, HB.out⟩
end Go.Proofs.Ytgcemkpinmjaeaa
