/- Parts of the proof of a law, joined: IWithout IDet IBelow IIsBelow IFloor IFormatS ICannot SIsSmall SMinor SDet ICountRooted IFirst ISumOf ICntP IIsGraph IArcs5 Clone. -/
import Derived.Test.YtonfdiaefkghbaaGreatDoorProg
import Derived.Test.YtonfdiaefkghbaaGreatDoorShelf
import Derived.Lib.SliceRun
import Derived.Test.YtonfdiaefkghbaaGreatDoorEG0b
import Derived.Test.YtonfdiaefkghbaaGreatDoorEG0a
import Derived.Test.YtonfdiaefkghbaaGreatDoorEG0c
namespace Go.Proofs.YtonfdiaefkghbaaGreatDoor
open Go.RowKit
set_option linter.all false
set_option maxHeartbeats 3200000 in
theorem iWithout_any (p : Option Addr) (n c : Nat) (t : List (List Int)) (i j m : Nat) (w : World) (h : Intss w p n t) (hr : RowsLen t m) (hj : j < m) (hm : m ≤ 1048576) (hn : n ≤ 1048576) :
    Calls Tryz.prog 129 #[.slice p n c, .int .i64 i, .int .i64 j] w fun e w' => ∃ v, e = .returned v ∧ OIntss w' w.heap.size v (minorT t i j).length (minorT t i j) ∧ Below w.heap.size w w' := by
  have H := Lib.hid h
  have HL : Hid (t.length = n) := h.1
  have HR := Lib.hid hr
  clear h hr
  go_enter Tryz.func129, Tryz.ntmps129
  go_wp2_with fail
  go_loopw [7, 13] (fun v x wr => ∃ k : Nat, k ≤ n ∧ x = .int .i64 k ∧ OIntss wr w.heap.size v (minorTo t i j k).length (minorTo t i j k) ∧ Below w.heap.size w wr) (fun _ x _ => n - (intOf x).toNat)
  case atStart => exact ⟨0, Nat.zero_le _, rfl, by rw [minorTo_zero]; exact OIntss.empty w _ (Nat.le_refl _), (Below.refl _ _).alloc (Nat.le_refl _) _⟩
  case round =>
    obtain ⟨k, hk, rfl, hown, hbl⟩ := hrel
    obtain ⟨wo, rfl⟩ : ∃ wo : World, wo = wr := ⟨_, rfl⟩
    by_cases hlt : k < n
    · obtain ⟨b1, o1, a1, c1, r, rfl, hca, hrow, hget, hcap⟩ := H.out.cap_ hlt
      have h1 := (hbl.cell (World.block_lt_of_cell? w _ hca)).trans hca
      have hrl : r.length = m := HR.out _ _ hget.out
      by_cases hki : k = i
      · subst hki
        have e : minorTo t k j (k + 1) = minorTo t k j k := minorTo_skip (by have := HL.out; omega)
        rw [← e] at hown
        have Hown := Lib.hid hown
        have Hbl := Lib.hid hbl
        have hne : ((k : Int) != (k : Int)) = false := by simp
        clear hown hbl hca hrow hrl e
        go_wp2_with fail
        go_roundw
        case rel => exact ⟨k + 1, hlt, by go_num, Hown.out, Hbl.out⟩
        case measure => simp [intOf]; omega
      · have hne : ((k : Int) != (i : Int)) = true := by simp; omega
        have e : minorTo t i j (k + 1) = minorTo t i j k ++ [cut j r] := minorTo_step hget.out hki
        have Hown := Lib.hid hown
        have Hbl := Lib.hid hbl
        have hjr : j < r.length := by omega
        have hjr2 : j ≤ r.length := by omega
        have hjr3 : j + 1 ≤ r.length := by omega
        have hjc : j ≤ c1 := by omega
        have hjc3 : j + 1 ≤ c1 := by omega
        have hw1 : IntKind.i64.wrap ((j : Int) + 1) = (j : Int) + 1 := IntWalk.i64_in _ (by omega)
        have hw2 : 0 ≤ (j : Int) + 1 := by omega
        have hw3 : ((j : Int) + 1).toNat = j + 1 := by omega
        have Hrow := Lib.hid hrow
        have E := Lib.hid e
        have HRL := Lib.hid hrl
        clear hown hbl hca hki hrow e hrl
        have Hcap := Lib.hid hcap
        obtain ⟨A2, hA2⟩ : ∃ A2, (if c1 = j + 1 then a1 else a1.map (·.add (j + 1))) = A2 := ⟨_, rfl⟩
        have Hd : Hid (Ints wo A2 (r.length - (j + 1)) (r.drop (j + 1))) := by rw [← hA2]; exact (Hrow.out.keep (Hbl.out.mono (Nat.le_refl _))).drop hjr3 hcap
        have Ht : Hid (Ints wo a1 j (r.take j)) := (Hrow.out.keep (Hbl.out.mono (Nat.le_refl _))).take hjr2
        have hs1 := slice_to a1 r.length c1 j hjc
        have hs2 := slice_from a1 r.length c1 j hjr3
        rw [hA2] at hs2
        have HA2 := Lib.hid hA2
        clear hcap hA2 hjc hjc3 hjr hjr2 hjr3
        go_wp2_with fail
        have hw0 : Below wo.heap.size wo (wo.alloc (.cells #[] 3)).drew := ((Below.refl _ _).alloc (Nat.le_refl _) _).drew
        have Hw0 := Lib.hid hw0
        have ho0 : Hid (OInts (wo.alloc (.cells #[] 3)).drew wo.heap.size (.slice (some ⟨wo.heap.size, 0, none⟩) 0 0) 0 []) := (OInts.empty wo wo.heap.size (Nat.le_refl _)).drewN 1
        have hjm : j ≤ 1048576 := by omega
        have hrm : r.length ≤ 1048576 := by have := HRL.out; omega
        have hjr4 : j + 1 ≤ r.length := by have := HRL.out; omega
        have hml := minorTo_len (t := t) (i := i) (j := j) (k := k)
        clear hw0
        go_region_law (first
          | (refine step_of_wp rfl (wp_app_ints _ (.tmp 22) (.tmp 25) rfl wo.heap.size _ 0 [] rfl ho0.out a1 j _ (r.take j) rfl (Ht.out.keep Hw0.out) (by omega) (by exact Hw0.out.size) ?_); intro v1 w1 ho1 hg1; rw [Nat.zero_add, List.nil_append] at ho1; have Ho1 := Lib.hid ho1; have Hb1 : Hid (Below wo.heap.size wo w1) := Hw0.out.grown hg1 Hw0.out.size (fun k hk => (ho0.out.ownlt k hk).1); clear ho1 hg1)
          | (refine step_of_wp rfl (wp_app_ints _ (.tmp 26) (.tmp 30) rfl wo.heap.size _ _ _ rfl Ho1.out A2 _ _ (r.drop (j + 1)) rfl (Hd.out.keep Hb1.out) (by omega) (by exact Hb1.out.size) ?_); intro v2 w2 ho2 hg2; obtain ⟨ao2, cap2, rfl, _⟩ := ho2.form; have Ho2 := Lib.hid ho2; have Hb2 : Hid (Below wo.heap.size wo w2) := Hb1.out.grown hg2 Hb1.out.size (fun k hk => (Ho1.out.ownlt k hk).1); clear ho2 hg2)
          | (refine step_of_wp rfl (wp_push_fresh _ _ wo (.tmp 21) (.tmp 32) rfl w.heap.size _ _ _ rfl Hown.out (by omega) Hbl.out.size Hb2.out _ _ Ho2.out _ (by rfl) rfl ?_); intro v3 w3 ho3 hb3 _; have Ho3 := Lib.hid ho3; have Hb3 := Lib.hid hb3; clear ho3 hb3))
        go_wp2_with fail
        go_roundw
        case rel =>
          refine ⟨k + 1, hlt, by go_num, ?_, Hbl.out.trans Hb3.out⟩
          have h9 := Ho3.out
          rw [E.out, List.length_append]
          exact h9
        case measure => simp [intOf]; omega
    · go_wp2_with fail
      go_ret
      rw [minorTo_end (by have := HL.out; omega)] at hown
      exact ⟨_, rfl, hown, hbl⟩
end Go.Proofs.YtonfdiaefkghbaaGreatDoor

namespace Go.Proofs.YtonfdiaefkghbaaGreatDoor
open Go.RowKit
set_option linter.all false
theorem iWithout0_any (p : Option Addr) (n c : Nat) (t : List (List Int)) (j m : Nat) (w : World) (h : Intss w p n t) (hr : RowsLen t m) (hj : j < m) (hm : m ≤ 1048576) (hn : n ≤ 1048576) :
    Calls Tryz.prog 129 #[.slice p n c, .int .i64 0, .int .i64 j] w fun e w' => ∃ v, e = .returned v ∧ OIntss w' w.heap.size v (minorT t 0 j).length (minorT t 0 j) ∧ Below w.heap.size w w' := by
  have := iWithout_any p n c t 0 j m w h hr hj hm hn
  simpa using this

set_option maxHeartbeats 1600000 in
theorem iDet_any (m : Nat) : ∀ (p : Option Addr) (n c : Nat) (t : List (List Int)) (w : World), n = m → m ≤ 9 → Intss w p n t → RowsLen t m →
    Calls Tryz.prog 86 #[.slice p n c] w fun e w' => e = .returned (.int .i64 (det m t)) ∧ Below w.heap.size w w' := by
  induction m with
  | zero =>
    intro p n c t w hn _ _ _
    subst hn
    go_enter Tryz.func86, Tryz.ntmps86
    go_wp2_with fail
    go_ret
    exact ⟨rfl, Below.refl _ _⟩
  | succ m ih =>
    intro p n c t w hn hm h hr
    subst hn
    have HL : Hid (t.length = m + 1) := h.1
    obtain ⟨b0, o0, a0, c0, r0, rfl, hc0, hrow0, hget0⟩ := h.at_ (k := 0) (by omega)
    rw [Nat.add_zero] at hc0
    have HR0 : Hid (r0.length = m + 1) := hr _ _ hget0.out
    have hl1 : r0.length ≤ m + 1 := by have := HR0.out; omega
    have hl2 : m + 1 ≤ r0.length := by have := HR0.out; omega
    have HD : Hid (det (m + 1) t = dloop (det m) t r0 0 0 1) := by
      show det (m + 1) t = _
      have e : t.getD 0 [] = r0 := by rw [List.getD, hget0.out]; rfl
      unfold det
      rw [e]
    have hne : ((m : Int) + 1 == 0) = false := by simp; omega
    have H := Lib.hid h
    have HRL := Lib.hid hr
    have Hrow := Lib.hid hrow0
    have IH := Lib.hid ih
    clear h hr hrow0 ih
    go_enter Tryz.func86, Tryz.ntmps86
    go_wp2_with fail
    go_loopw [3, 4, 14] (fun s g i wr => ∃ (j : Nat) (sv gv : Int), j ≤ r0.length ∧ i = .int .i64 j ∧ s = .int .i64 sv ∧ g = .int .i64 gv ∧ -1 ≤ gv ∧ gv ≤ 1 ∧ Below w.heap.size w wr ∧ Hid (dloop (det m) t (r0.drop j) j sv gv = det (m + 1) t)) (fun _ _ i _ => (m + 1) - (intOf i).toNat)
    case atStart => exact ⟨0, 0, 1, Nat.zero_le _, rfl, rfl, rfl, by omega, by omega, Below.refl _ _, HD.out.symm⟩
    case round =>
      obtain ⟨j, sv, gv, hj, rfl, rfl, rfl, hg1, hg2, hbl, hd⟩ := hrel
      by_cases hlt : j < r0.length
      · obtain ⟨b1, o1, x, rfl, hcx, hgetx⟩ := Hrow.out.at_ hlt
        have hcx' := (hbl.cell (World.block_lt_of_cell? w _ hcx)).trans hcx
        by_cases hx0 : x = 0
        · subst hx0
          have hd1 : Hid _ := dloop_zero hgetx.out hd.out
          clear hcx hd
          go_wp2_with fail
          go_roundw
          case rel => exact ⟨j + 1, sv, -gv, hlt, by go_num, rfl, rfl, by omega, by omega, hbl, hd1⟩
          case measure => simp [intOf]; omega
        · have hd1 : Hid _ := dloop_step hgetx.out hx0 hd.out
          have hne2 : (x != 0) = true := by simp [hx0]
          clear hcx hd hx0
          have Hbl := Lib.hid hbl
          clear hbl
          go_wp2_with fail
          refine (iWithout0_any _ _ _ t j (m + 1) _ (H.out.keep (Hbl.out.mono (Nat.le_refl _))) HRL.out (by omega) (by omega) (by omega)).mono ?_
          rintro e w1 ⟨v1, rfl, ho1, hb1⟩
          obtain ⟨ao1, cap1, rfl, hi1⟩ := ho1.form
          have hml : (minorT t 0 j).length = m := by rw [minorT_len (by have := HL.out; omega), HL.out]; omega
          have Hi1 := Lib.hid hi1
          have Hb1 := Lib.hid (Hbl.out.trans (hb1.mono Hbl.out.size))
          have HML := Lib.hid hml
          clear ho1 hb1 hi1 hml
          go_wp2_with fail
          refine (IH.out _ _ _ (minorT t 0 j) _ HML.out (by omega) Hi1.out (minorT_rowsLen HRL.out (by omega))).mono ?_
          rintro e w2 ⟨rfl, hb2⟩
          have Hb2 := Lib.hid (Hb1.out.trans (hb2.mono Hb1.out.size))
          clear hb2
          go_wp2_with fail
          go_roundw
          case rel => exact ⟨j + 1, _, -gv, hlt, by go_num, rfl, rfl, by omega, by omega, Hb2.out, hd1⟩
          case measure => simp [intOf]; omega
      · go_wp2_with fail
        go_ret
        exact ⟨ret_int (dloop_end (by omega) hd.out), hbl⟩
end Go.Proofs.YtonfdiaefkghbaaGreatDoor

namespace Go.Proofs.YtonfdiaefkghbaaGreatDoor
open Go.RowKit
set_option linter.all false
set_option maxRecDepth 20000 in
set_option maxHeartbeats 6400000 in
theorem iBelow_any (p : Option Addr) (n c : Nat) (m : List (List Int)) (q d : Int) (w : World) (h : Intss w p n m) (hsm : isSmallM m = true) (hq : 0 ≤ q) (hq2 : q ≤ 4000) (hd : 1 ≤ d) (hd2 : d ≤ 100) :
    Calls Tryz.prog 103 #[.slice p n c, .int .i64 q, .int .i64 d] w fun e w' => e = .returned (.bool (belowM m q d)) ∧ Below w.heap.size w w' := by
  have hm := isSmallM_mat hsm
  have HL : Hid (m.length = n) := h.1
  have HR := Lib.hid (isMat_rowsLen hm.1 HL.out)
  have hn4 : n ≤ 4 := by have := HL.out; omega
  have H := Lib.hid h
  have HTR := Lib.hid (lessT_rowsLen (q := q) (d := d) HR.out)
  have HD : Hid (belF (lessT q d m) 0 (n - 0) = belowM m q d) := by show _ = _; unfold belowM; rw [HL.out]; rfl
  clear h hsm hm
  go_enter Tryz.func103, Tryz.ntmps103
  go_wp2_with fail
  refine (iLess_any _ _ _ m q d _ H.out HR.out (by omega) (by omega) (by omega) (by omega) (by omega)).mono ?_
  rintro e w1 ⟨v1, rfl, ho1, hb1⟩
  obtain ⟨ao1, cap1, rfl, hi1⟩ := ho1.form
  have hcap := Intss.capLe ho1 rfl
  have HI := Lib.hid hi1
  have HB := Lib.hid hb1
  clear ho1 hi1 hb1
  go_wp2_with fail
  go_loopw [8] (fun x wr => ∃ k : Nat, k ≤ n ∧ x = .int .i64 ((k : Int) + 1) ∧ Hid (belF (lessT q d m) k (n - k) = belowM m q d) ∧ Below w.heap.size w wr ∧ Below w1.heap.size w1 wr) (fun x _ => n + 1 - (intOf x).toNat)
  case atStart => exact ⟨0, Nat.zero_le _, rfl, HD.out, HB.out, Below.refl _ _⟩
  case round =>
    obtain ⟨k, hk, rfl, hr, hbl, hb1⟩ := hrel
    have Hbl := Lib.hid hbl
    have Hb1 := Lib.hid hb1
    clear hbl hb1 HD
    by_cases hlt : k < n
    · have HST := Lib.hid (bel_step hlt rfl hr.out)
      have hcast : ((k : Int) + 1) = ((k + 1 : Nat) : Int) := by omega
      clear hr
      obtain ⟨z, hz⟩ : ∃ z, det (k + 1) (partT (lessT q d m) (k + 1)) = z := ⟨_, rfl⟩
      have HZ := Lib.hid hz
      rw [hz] at HST
      clear hz
      have HC := fun W (hW : Below w1.heap.size w1 W) => iFirstN_any ao1 n cap1 (lessT q d m) (k + 1) n W (HI.out.keep hW) HTR.out (by omega) (by omega) hcap (by omega)
      rw [← hcast] at HC
      have HC := Lib.hid HC
      clear hcast
      by_cases hz0 : 0 < z
      · have hd0 : decide (z ≤ 0) = false := decide_eq_false (by omega)
        have HN := Lib.hid (HST.out.1 hz0)
        clear HST
        go_wp2_with fail
        refine (HC.out _ Hb1.out).mono ?_
        rintro e w2 ⟨a2, c2, rfl, hi2, hb2⟩
        have HI2 := Lib.hid hi2
        have HB2 := Lib.hid hb2
        clear hi2 hb2
        go_wp2_with fail
        refine (iDet_any (k + 1) _ _ _ (partT (lessT q d m) (k + 1)) _ (by omega) (by omega) (by exact_mod_cast HI2.out) (partT_rowsLen _ _)).mono ?_
        rw [HZ.out]
        rintro e w3 ⟨rfl, hb3⟩
        have HB3 := Lib.hid (step2 HB2.out hb3)
        clear hb3
        go_wp2_with fail
        go_roundw
        case rel => exact ⟨k + 1, hlt, by go_num, HN.out, Hbl.out.trans (HB3.out.mono Hbl.out.size), step2 Hb1.out HB3.out⟩
        case measure => simp [intOf]; omega
      · have hd0 : decide (z ≤ 0) = true := decide_eq_true (by omega)
        have HN := Lib.hid (HST.out.2 hz0)
        clear HST
        go_wp2_with fail
        refine (HC.out _ Hb1.out).mono ?_
        rintro e w2 ⟨a2, c2, rfl, hi2, hb2⟩
        have HI2 := Lib.hid hi2
        have HB2 := Lib.hid hb2
        clear hi2 hb2
        go_wp2_with fail
        refine (iDet_any (k + 1) _ _ _ (partT (lessT q d m) (k + 1)) _ (by omega) (by omega) (by exact_mod_cast HI2.out) (partT_rowsLen _ _)).mono ?_
        rw [HZ.out]
        rintro e w3 ⟨rfl, hb3⟩
        have HB3 := Lib.hid (step2 HB2.out hb3)
        clear hb3
        go_wp2_with fail
        go_ret
        exact ⟨ret_bool HN.out.symm, Hbl.out.trans (HB3.out.mono Hbl.out.size)⟩
    · have HN : Hid (belowM m q d = true) := by
        show _ = _
        rw [← hr.out, show n - k = 0 by omega]; rfl
      clear hr
      go_wp2_with fail
      go_ret
      exact ⟨ret_bool HN.out.symm, Hbl.out⟩
end Go.Proofs.YtonfdiaefkghbaaGreatDoor

namespace Go.Proofs.YtonfdiaefkghbaaGreatDoor
open Go.RowKit
set_option linter.all false
set_option maxRecDepth 20000 in
set_option maxHeartbeats 1600000 in
theorem iIsBelow_in (p : Option Addr) (n c : Nat) (m : List (List Int)) (q : Int) (w : World) (h : Intss w p n m) (hs : isSmallM m = true) (hq : 0 ≤ q) (hq2 : q ≤ 3600) :
    Calls Tryz.prog 56 #[.slice p n c, .int .i64 q, .int .i64 100] w fun e w' => e = .returned (.bool (belowM m q 100)) ∧ Below w.heap.size w w' := by
  have H := Lib.hid h
  have HS := Lib.hid hs
  clear h hs
  go_enter Tryz.func56, Tryz.ntmps56
  go_wp2_with fail
  refine (iIsSmall_any _ _ _ m _ H.out).mono ?_
  rw [HS.out]
  rintro e w' ⟨rfl, rfl⟩
  go_wp2_with fail
  refine (iBelow_any _ _ _ m q 100 _ H.out HS.out hq (by omega) (by omega) (by omega)).mono ?_
  rintro e w' ⟨rfl, hb⟩
  have HB := Lib.hid hb
  clear hb
  go_wp2_with fail
  go_ret
  exact ⟨rfl, HB.out⟩
end Go.Proofs.YtonfdiaefkghbaaGreatDoor

namespace Go.Proofs.YtonfdiaefkghbaaGreatDoor
open Go.RowKit
set_option linter.all false
set_option maxRecDepth 20000 in
set_option maxHeartbeats 3200000 in
theorem iFloor_any (p : Option Addr) (n c : Nat) (m : List (List Int)) (d : Int) (w : World) (h : Intss w p n m) :
    Calls Tryz.prog 57 #[.slice p n c, .int .i64 d] w fun e w' => e = .returned (.int .i64 (floorG m d)) ∧ Below w.heap.size w w' := by
  have H := Lib.hid h
  clear h
  cases hs : isSmallM m
  · have hg : Hid (floorG m d = -1) := by show _ = _; simp [floorG, hs]
    go_enter Tryz.func57, Tryz.ntmps57
    go_wp2_with (first | (go_at_call 55; refine (iIsSmall_any _ _ _ m _ H.out).mono ?_; rintro e w' ⟨rfl, rfl⟩))
    go_ret
    exact ⟨ret_int hg.out.symm, Below.refl _ _⟩
  have HS := Lib.hid hs
  clear hs
  by_cases hd : 1 ≤ d ∧ d ≤ 100
  rotate_left
  · have hg : Hid (floorG m d = -1) := by show _ = _; unfold floorG; rw [inR_no (by omega)]; simp
    by_cases h1 : d < 1
    · have d1 : decide (d < 1) = true := decide_eq_true h1
      go_enter Tryz.func57, Tryz.ntmps57
      go_wp2_with (first | (go_at_call 55; refine (iIsSmall_any _ _ _ m _ H.out).mono ?_; rw [HS.out]; rintro e w' ⟨rfl, rfl⟩))
      go_ret
      exact ⟨ret_int hg.out.symm, Below.refl _ _⟩
    · have d1 : decide (d < 1) = false := decide_eq_false h1
      have d2 : decide (100 < d) = true := decide_eq_true (by omega)
      clear hd
      go_enter Tryz.func57, Tryz.ntmps57
      go_wp2_with (first | (go_at_call 55; refine (iIsSmall_any _ _ _ m _ H.out).mono ?_; rw [HS.out]; rintro e w' ⟨rfl, rfl⟩))
      go_ret
      exact ⟨ret_int hg.out.symm, Below.refl _ _⟩
  obtain ⟨h1, h2⟩ := hd
  have hg : Hid (bis (fun q => belowM m q d) 4000 0 (36 * d + 1) = floorG m d) := by show _ = _; unfold floorG; rw [HS.out, inR_mk ⟨h1, h2⟩]; simp
  obtain ⟨f, hf⟩ : ∃ f : Int → Bool, (fun q => belowM m q d) = f := ⟨_, rfl⟩
  have HF : Hid (∀ q, belowM m q d = f q) := by show ∀ q, _; intro q; rw [← hf]
  rw [hf] at hg
  clear hf
  have d1 : decide (d < 1) = false := decide_eq_false (by omega)
  have d2 : decide (100 < d) = false := decide_eq_false (by omega)
  go_enter Tryz.func57, Tryz.ntmps57
  go_wp2_with (first | (go_at_call 55; refine (iIsSmall_any _ _ _ m _ H.out).mono ?_; rw [HS.out]; rintro e w' ⟨rfl, rfl⟩))
  go_loopw [5, 6] (fun x y wr => ∃ (lo hi : Int) (F : Nat), x = .int .i64 lo ∧ y = .int .i64 hi ∧ 0 ≤ lo ∧ lo < hi ∧ hi ≤ 3601 ∧ hi - lo ≤ F ∧ Hid (bis f F lo hi = floorG m d) ∧ Below w.heap.size w wr) (fun x y _ => (intOf y - intOf x).toNat)
  case atStart => exact ⟨0, 36 * d + 1, 4000, rfl, rfl, by omega, by omega, by omega, by omega, hg.out, Below.refl _ _⟩
  case round =>
    obtain ⟨lo, hi, F, rfl, rfl, g0, g1, g2, g3, hr, hbl⟩ := hrel
    have Hbl := Lib.hid hbl
    clear hbl hg
    by_cases hlt : 1 < hi - lo
    · obtain ⟨F', g4, HST⟩ := bis_step g3 hlt hr.out
      have HST := Lib.hid HST
      clear hr
      obtain ⟨q, hq⟩ : ∃ q, (lo + hi) / 2 = q := ⟨_, rfl⟩
      have hq1 : lo < q := by omega
      have hq2 : q < hi := by omega
      rw [hq] at HST
      have hdv : decide (1 < hi - lo) = true := decide_eq_true hlt
      clear hlt
      cases hfq : f q
      · have HN := Lib.hid (HST.out.2 hfq)
        have HFQ : Hid (belowM m q d = false) := (HF.out q).trans hfq
        clear HST hfq
        go_wp2_with fail
        refine (iBelow_any _ _ _ m q d _ (H.out.keep (Hbl.out.mono (Nat.le_refl _))) HS.out (by omega) (by omega) h1 h2).mono ?_
        rw [HFQ.out]
        rintro e w2 ⟨rfl, hb2⟩
        have HB2 := Lib.hid (step2 Hbl.out hb2)
        clear hb2
        go_wp2_with fail
        go_roundw
        case rel => exact ⟨q, hi, F', rfl, rfl, by omega, by omega, by omega, by omega, HN.out, HB2.out⟩
        case measure => simp [intOf]; omega
      · have HN := Lib.hid (HST.out.1 hfq)
        have HFQ : Hid (belowM m q d = true) := (HF.out q).trans hfq
        clear HST hfq
        go_wp2_with fail
        refine (iBelow_any _ _ _ m q d _ (H.out.keep (Hbl.out.mono (Nat.le_refl _))) HS.out (by omega) (by omega) h1 h2).mono ?_
        rw [HFQ.out]
        rintro e w2 ⟨rfl, hb2⟩
        have HB2 := Lib.hid (step2 Hbl.out hb2)
        clear hb2
        go_wp2_with fail
        go_roundw
        case rel => exact ⟨lo, q, F', rfl, rfl, by omega, by omega, by omega, by omega, HN.out, HB2.out⟩
        case measure => simp [intOf]; omega
    · have HE := Lib.hid (bis_end hlt hr.out)
      have hdv : decide (1 < hi - lo) = false := decide_eq_false hlt
      clear hr hlt
      go_wp2_with fail
      go_ret
      exact ⟨ret_int HE.out, Hbl.out⟩
end Go.Proofs.YtonfdiaefkghbaaGreatDoor

namespace Go.Proofs.YtonfdiaefkghbaaGreatDoor
open Go.RowKit
set_option linter.all false
theorem iFormatS_any (u : Nat) (w : World) (hu : u < 100) :
    Calls Tryz.prog 58 #[.int .i64 u] w fun e w' => e = .returned (.string (decB u)) ∧ w = w' := by
  have HC := Lib.hid (Tryz.strconv_Itoa_small u hu w)
  go_enter Tryz.func58, Tryz.ntmps58
  go_wp2_with (go_at_call 104; refine HC.out.mono ?_; rintro e w' ⟨rfl, rfl⟩)
  go_ret
  exact ⟨rfl, rfl⟩
theorem iFormatS_succ (k : Nat) (w : World) (hk : k < 99) :
    Calls Tryz.prog 58 #[.int .i64 ((k : Int) + 1)] w fun e w' => e = .returned (.string (decB (k + 1))) ∧ w = w' := by
  have h := iFormatS_any (k + 1) w (by omega)
  rw [show ((k + 1 : Nat) : Int) = (k : Int) + 1 from by omega] at h
  exact h
end Go.Proofs.YtonfdiaefkghbaaGreatDoor

namespace Go.Proofs.YtonfdiaefkghbaaGreatDoor
open Go.RowKit
set_option linter.all false
set_option maxRecDepth 20000 in
set_option maxHeartbeats 6400000 in
theorem iCannot_any (pa : Option Addr) (na ca : Nat) (a : List (List Int)) (pb : Option Addr) (nb cb : Nat) (b : List (List Int)) (n : Int) (w : World) (ha : Intss w pa na a) (hb : Intss w pb nb b) :
    Calls Tryz.prog 15 #[.slice pa na ca, .slice pb nb cb, .int .i64 n] w fun e w' => e = .returned (.string (cannotT a b n)) ∧ Below w.heap.size w w' := by
  have HA := Lib.hid ha
  have HB := Lib.hid hb
  clear ha hb
  obtain ⟨X, hX⟩ : ∃ X, orbV a n = X := ⟨_, rfl⟩
  obtain ⟨Y, hY⟩ : ∃ Y, orbV b n = Y := ⟨_, rfl⟩
  have HX := Lib.hid hX
  have HY := Lib.hid hY
  have hnn := fun (wx : World) => Lib.run_eql_slice_nil (P := Tryz.prog) wx 34 3 none 0 0 0 0 Tryz.underlying34
  have hns := fun (wx : World) (q : Addr) (k c : Nat) => Lib.run_eql_slice_nil (P := Tryz.prog) wx 34 3 (some q) k c 0 0 Tryz.underlying34
  simp only [Option.isNone] at hnn hns
  cases h1 : isSmallM a
  · have hg : Hid (cannotT a b n = ⟨#[]⟩) := by show _ = _; unfold cannotT; rw [if_pos h1]
    have H1 := Lib.hid h1
    clear h1 hX hY
    go_enter Tryz.func15, Tryz.ntmps15
    go_wp2_with fail
    refine (iIsSmall_any _ _ _ a _ HA.out).mono ?_
    rw [H1.out]
    rintro e w' ⟨rfl, rfl⟩
    go_wp2_with fail
    go_ret
    exact ⟨ret_text hg.out.symm, Below.refl _ _⟩
  cases h2 : isSmallM b
  · have hg : Hid (cannotT a b n = ⟨#[]⟩) := by show _ = _; unfold cannotT; rw [if_neg (by simp [h1]), if_pos h2]
    have H1 := Lib.hid h1
    have H2 := Lib.hid h2
    clear h1 h2 hX hY
    go_enter Tryz.func15, Tryz.ntmps15
    go_wp2_with fail
    refine (iIsSmall_any _ _ _ a _ HA.out).mono ?_
    rw [H1.out]
    rintro e w' ⟨rfl, rfl⟩
    go_wp2_with fail
    refine (iIsSmall_any _ _ _ b _ HB.out).mono ?_
    rw [H2.out]
    rintro e w' ⟨rfl, rfl⟩
    go_wp2_with fail
    go_ret
    exact ⟨ret_text hg.out.symm, Below.refl _ _⟩
  have H1 := Lib.hid h1
  have H2 := Lib.hid h2
  by_cases h3 : X = []
  · have hg : Hid (cannotT a b n = ⟨#[]⟩) := by show _ = _; unfold cannotT; rw [if_neg (by simp [h1]), if_neg (by simp [h2]), if_pos (by rw [hX, h3]; rfl)]
    clear h1 h2 hX hY
    go_enter Tryz.func15, Tryz.ntmps15
    go_wp2_with fail
    refine (iIsSmall_any _ _ _ a _ HA.out).mono ?_
    rw [H1.out]
    rintro e w' ⟨rfl, rfl⟩
    go_wp2_with fail
    refine (iIsSmall_any _ _ _ b _ HB.out).mono ?_
    rw [H2.out]
    rintro e w' ⟨rfl, rfl⟩
    go_wp2_with fail
    refine (iOrb_nil _ _ _ a _ _ HA.out).mono ?_
    rintro e w1 ⟨v1, rfl, ho1, hb1, hn1⟩
    rw [HX.out] at ho1 hn1
    have Ho1 := Lib.hid ho1
    have Hb1 := Lib.hid hb1
    have Hn1 := Lib.hid hn1
    clear ho1 hb1 hn1
    go_wp2_with fail
    refine (iOrb_nil _ _ _ b _ _ (HB.out.keep Hb1.out)).mono ?_
    rintro e w2 ⟨v2, rfl, ho2, hb2, hn2⟩
    rw [HY.out] at ho2 hn2
    have Ho2 := Lib.hid ho2
    have Hn2 := Lib.hid hn2
    have Ho1' := Lib.hid (Ho1.out.keep hb2)
    have Hb2 := Lib.hid (step2 Hb1.out hb2)
    clear ho2 hb2 hn2
    have e1 := Hn1.out h3
    subst e1
    clear h3
    go_wp2_with fail
    go_ret
    exact ⟨ret_text hg.out.symm, Hb2.out⟩
  have hx0 : 0 < X.length := by cases X with
    | nil => exact absurd rfl h3
    | cons _ _ => simp
  by_cases h4 : Y = []
  · have hg : Hid (cannotT a b n = ⟨#[]⟩) := by show _ = _; unfold cannotT; rw [if_neg (by simp [h1]), if_neg (by simp [h2]), if_neg (by rw [hX]; omega), if_pos (by rw [hY, h4]; rfl)]
    clear h1 h2 hX hY h3
    go_enter Tryz.func15, Tryz.ntmps15
    go_wp2_with fail
    refine (iIsSmall_any _ _ _ a _ HA.out).mono ?_
    rw [H1.out]
    rintro e w' ⟨rfl, rfl⟩
    go_wp2_with fail
    refine (iIsSmall_any _ _ _ b _ HB.out).mono ?_
    rw [H2.out]
    rintro e w' ⟨rfl, rfl⟩
    go_wp2_with fail
    refine (iOrb_nil _ _ _ a _ _ HA.out).mono ?_
    rintro e w1 ⟨v1, rfl, ho1, hb1, hn1⟩
    rw [HX.out] at ho1 hn1
    have Ho1 := Lib.hid ho1
    have Hb1 := Lib.hid hb1
    have Hn1 := Lib.hid hn1
    clear ho1 hb1 hn1
    go_wp2_with fail
    refine (iOrb_nil _ _ _ b _ _ (HB.out.keep Hb1.out)).mono ?_
    rintro e w2 ⟨v2, rfl, ho2, hb2, hn2⟩
    rw [HY.out] at ho2 hn2
    have Ho2 := Lib.hid ho2
    have Hn2 := Lib.hid hn2
    have Ho1' := Lib.hid (Ho1.out.keep hb2)
    have Hb2 := Lib.hid (step2 Hb1.out hb2)
    clear ho2 hb2 hn2
    have e2 := Hn2.out h4
    subst e2
    obtain ⟨g1, c1, rfl⟩ := Ho1'.out.head hx0
    clear h4
    go_wp2_with fail
    go_ret
    exact ⟨ret_text hg.out.symm, Hb2.out⟩
  have hy0 : 0 < Y.length := by cases Y with
    | nil => exact absurd rfl h4
    | cons _ _ => simp
  have hpx := orbV_pos (m := a) (n := n) (by rw [hX]; omega)
  have hpy := orbV_pos (m := b) (n := n) (by rw [hY]; omega)
  rw [hX] at hpx
  rw [hY] at hpy
  have hll : X.length ≤ Y.length := by omega
  have hx10 : X.length ≤ 10 := by omega
  have HF := Lib.hid (floor_range h1)
  have hcn : cannotT a b n = if belowM b (floorG a 100) 100 = true then txtGrowth else if 0 ≤ fgI 0 X Y then txtOrbits ++ decB ((fgI 0 X Y).toNat + 1) else txtDash := by
    unfold cannotT
    rw [if_neg (by simp [h1]), if_neg (by simp [h2]), if_neg (by rw [hX]; omega), if_neg (by rw [hY]; omega), hX, hY]
  have HCN := Lib.hid hcn
  clear h1 h2 hX hY h3 h4 hpx hpy hcn
  go_enter Tryz.func15, Tryz.ntmps15
  go_wp2_with fail
  refine (iIsSmall_any _ _ _ a _ HA.out).mono ?_
  rw [H1.out]
  rintro e w' ⟨rfl, rfl⟩
  go_wp2_with fail
  refine (iIsSmall_any _ _ _ b _ HB.out).mono ?_
  rw [H2.out]
  rintro e w' ⟨rfl, rfl⟩
  go_wp2_with fail
  refine (iOrb_nil _ _ _ a _ _ HA.out).mono ?_
  rintro e w1 ⟨v1, rfl, ho1, hb1, hn1⟩
  rw [HX.out] at ho1 hn1
  have Ho1 := Lib.hid ho1
  have Hb1 := Lib.hid hb1
  have Hn1 := Lib.hid hn1
  clear ho1 hb1 hn1
  go_wp2_with fail
  refine (iOrb_nil _ _ _ b _ _ (HB.out.keep Hb1.out)).mono ?_
  rintro e w2 ⟨v2, rfl, ho2, hb2, hn2⟩
  rw [HY.out] at ho2 hn2
  have Ho2 := Lib.hid ho2
  have Hn2 := Lib.hid hn2
  have Ho1' := Lib.hid (Ho1.out.keep hb2)
  have Hb2 := Lib.hid (step2 Hb1.out hb2)
  clear ho2 hb2 hn2
  obtain ⟨g1, c1, rfl⟩ := Ho1'.out.head hx0
  obtain ⟨g2, c2, rfl⟩ := Ho2.out.head hy0
  go_wp2_with fail
  refine (iFloor_any _ _ _ a 100 _ (HA.out.keep Hb2.out)).mono ?_
  rintro e w3 ⟨rfl, hb3⟩
  have Hb3 := Lib.hid (step2 Hb2.out hb3)
  have Ho13 := Lib.hid (Ho1'.out.keep hb3)
  have Ho23 := Lib.hid (Ho2.out.keep hb3)
  clear hb3
  go_wp2_with fail
  cases h5 : belowM b (floorG a 100) 100
  rotate_left
  · have HBL := Lib.hid h5
    have hg : Hid (cannotT a b n = txtGrowth) := by show _ = _; rw [HCN.out, if_pos h5]
    clear h5
    refine (iIsBelow_in _ _ _ b (floorG a 100) _ (HB.out.keep Hb3.out) H2.out HF.out.1 HF.out.2).mono ?_
    rw [HBL.out]
    rintro e w4 ⟨rfl, hb4⟩
    have Hb4 := Lib.hid (step2 Hb3.out hb4)
    clear hb4
    go_wp2_with fail
    go_ret
    exact ⟨ret_text hg.out.symm, Hb4.out⟩
  have HBL := Lib.hid h5
  have hcn : cannotT a b n = if 0 ≤ fgI 0 X Y then txtOrbits ++ decB ((fgI 0 X Y).toNat + 1) else txtDash := by rw [HCN.out, if_neg (by simp [h5])]
  have HCM := Lib.hid hcn
  clear h5 hcn
  refine (iIsBelow_in _ _ _ b (floorG a 100) _ (HB.out.keep Hb3.out) H2.out HF.out.1 HF.out.2).mono ?_
  rw [HBL.out]
  rintro e w4 ⟨rfl, hb4⟩
  have Hb4 := Lib.hid (step2 Hb3.out hb4)
  have Ho14 := Lib.hid (Ho13.out.keep hb4)
  have Ho24 := Lib.hid (Ho23.out.keep hb4)
  clear hb4
  go_wp2_with fail
  rcases fgI_range X Y 0 with hr | hr
  · have HR := Lib.hid hr
    have HG : Hid (cannotT a b n = txtDash) := by show _ = _; rw [HCM.out, hr, if_neg (by omega)]
    clear hr
    refine (iFG_any _ _ _ X _ _ _ Y _ Ho14.out.ints Ho24.out.ints hll).mono ?_
    rw [HR.out]
    rintro e w' ⟨rfl, rfl⟩
    go_wp2_with fail
    go_ret
    exact ⟨ret_text HG.out.symm, Hb4.out⟩
  · obtain ⟨k, hk⟩ : ∃ k : Nat, fgI 0 X Y = (k : Int) := ⟨(fgI 0 X Y).toNat, by omega⟩
    have HR := Lib.hid hk
    have hk10 : k < 10 := by omega
    have HG : Hid (cannotT a b n = txtOrbits ++ decB (k + 1)) := by show _ = _; rw [HCM.out, hk, if_pos (by omega), Int.toNat_natCast]
    have hds := decB_size (u := k + 1) (by omega)
    clear hr hk
    refine (iFG_any _ _ _ X _ _ _ Y _ Ho14.out.ints Ho24.out.ints hll).mono ?_
    rw [HR.out]
    rintro e w' ⟨rfl, rfl⟩
    go_wp2_with (go_at_call 58; refine (iFormatS_succ k _ (by omega)).mono ?_; rintro e w5 ⟨rfl, rfl⟩)
    go_ret
    exact ⟨ret_text HG.out.symm, Hb4.out⟩
end Go.Proofs.YtonfdiaefkghbaaGreatDoor

namespace Go.Proofs.YtonfdiaefkghbaaGreatDoor
open Go.RowKit
set_option linter.all false
set_option maxHeartbeats 1600000 in
theorem sIsSmall_any (ao : Option Addr) (n cap : Nat) (xss : List (List Int)) (w : World) (h : Intss w ao n xss) :
    Calls Tryz.prog 43 #[.slice ao n cap] w fun e w' => e = .returned (.bool (isSmallM xss)) ∧ w = w' := by
  have hm := h.2.1
  have HL := Lib.hid h.1
  have H := Lib.hid h
  have hg0 : Hid (isSmallM xss = (isMat xss && (!decide (4 < n) && le9T xss))) := by show isSmallM xss = _; unfold isSmallM; rw [h.1]
  clear h
  go_enter Tryz.func43, Tryz.ntmps43
  go_wp2
  go_loop [3] (fun i => ∃ k : Nat, k ≤ n ∧ i = .int .i64 k ∧ Hid (le9T (xss.drop k) = le9T xss)) (fun i => n - (intOf i).toNat)
  case atStart => exact ⟨0, Nat.zero_le _, rfl, rfl⟩
  case round =>
    obtain ⟨k, hk, rfl, hr⟩ := hrel
    by_cases hlt : k < n
    · obtain ⟨b, o, ai, ci, r, rfl, hcell, hrow, hget⟩ := H.out.at_ hlt
      have hrb := hrow.2.1
      have Hst := Lib.hid (le9T_step hget.out hr.out)
      have Hrow := Lib.hid hrow
      clear hrow hr H
      go_wp2_with fail
      go_loop [4] (fun i => ∃ j : Nat, j ≤ r.length ∧ i = .int .i64 j ∧ Hid (le9 (r.drop j) = le9 r)) (fun i => r.length - (intOf i).toNat)
      case atStart => exact ⟨0, Nat.zero_le _, rfl, rfl⟩
      case round =>
        obtain ⟨j, hj, rfl, hrj⟩ := hrel
        by_cases hjn : j < r.length
        · obtain ⟨b', o', x, rfl, hcell', hget'⟩ := Hrow.out.at_ hjn
          have Hsj := Lib.hid (le9_step hget'.out hrj.out)
          clear hrj Hrow
          by_cases h9 : 9 < x
          · have hr1 : Hid _ := Hst.out.1 (Hsj.out.1 h9)
            clear Hst Hsj
            go_wp2_with fail
            go_ret
            exact ⟨ret_bool (by rw [hg0.out, hr1.out]; simp), rfl⟩
          · have hr1 : Hid _ := Hsj.out.2 h9
            clear Hst Hsj
            go_wp2_with fail
            go_round
            case rel => exact ⟨j + 1, hjn, by go_num, hr1⟩
            case measure => simp [intOf]; omega
        · have hr1 : Hid _ := Hst.out.2 (by have := hrj.out; rw [drop_all r j (by omega)] at this; exact this.symm)
          clear Hst hrj Hrow
          go_wp2_with fail
          go_round
          case rel => exact ⟨k + 1, hlt, by go_num, hr1⟩
          case measure => simp [intOf]; omega
    · rw [drop_all xss k (by have := HL.out; omega)] at hr
      have hr1 : Hid _ := hr.out.symm
      clear hr
      cases hmat : isMat xss
      · have hg : Hid (isSmallM xss = false) := by show isSmallM xss = _; rw [hg0.out, hmat]; rfl
        go_wp2_with (first | (go_at_call 69; refine (sIsMatrix_any _ _ _ xss _ H.out).mono ?_; rintro e w' ⟨rfl, rfl⟩))
        go_ret
        exact ⟨ret_bool hg.out.symm, rfl⟩
      · have hg : Hid (isSmallM xss = decide ((n : Int) ≤ 4)) := by
          show isSmallM xss = _
          rw [hg0.out, hmat, hr1.out]
          by_cases h4 : n ≤ 4
          · have e1 : ¬ 4 < n := by omega
            have e2 : (n : Int) ≤ 4 := by omega
            simp [e1, e2, le9T]
          · have e1 : 4 < n := by omega
            have e2 : ¬ (n : Int) ≤ 4 := by omega
            simp [e1, e2]
        go_wp2_with (first | (go_at_call 69; refine (sIsMatrix_any _ _ _ xss _ H.out).mono ?_; rintro e w' ⟨rfl, rfl⟩))
        go_ret
        exact ⟨ret_bool hg.out.symm, rfl⟩
end Go.Proofs.YtonfdiaefkghbaaGreatDoor

namespace Go.Proofs.YtonfdiaefkghbaaGreatDoor
open Go.RowKit
set_option linter.all false
set_option maxHeartbeats 3200000 in
theorem sMinor_any (p : Option Addr) (n c : Nat) (t : List (List Int)) (i j m : Nat) (w : World) (h : Intss w p n t) (hr : RowsLen t m) (hj : j < m) (hm : m ≤ 1048576) (hn : n ≤ 1048576) :
    Calls Tryz.prog 130 #[.slice p n c, .int .i64 i, .int .i64 j] w fun e w' => ∃ v, e = .returned v ∧ OIntss w' w.heap.size v (minorT t i j).length (minorT t i j) ∧ Below w.heap.size w w' := by
  have H := Lib.hid h
  have HL : Hid (t.length = n) := h.1
  have HR := Lib.hid hr
  clear h hr
  go_enter Tryz.func130, Tryz.ntmps130
  go_wp2_with fail
  go_loopw [7, 8] (fun v x wr => ∃ k : Nat, k ≤ n ∧ x = .int .i64 k ∧ OIntss wr w.heap.size v (minorTo t i j k).length (minorTo t i j k) ∧ Below w.heap.size w wr) (fun _ x _ => n - (intOf x).toNat)
  case atStart => exact ⟨0, Nat.zero_le _, rfl, by rw [minorTo_zero]; exact OIntss.empty w _ (Nat.le_refl _), (Below.refl _ _).alloc (Nat.le_refl _) _⟩
  case round =>
    obtain ⟨k, hk, rfl, hown, hbl⟩ := hrel
    obtain ⟨wo, rfl⟩ : ∃ wo : World, wo = wr := ⟨_, rfl⟩
    by_cases hlt : k < n
    · obtain ⟨b1, o1, a1, c1, r, rfl, hca, hrow, hget, hcap⟩ := H.out.cap_ hlt
      have h1 := (hbl.cell (World.block_lt_of_cell? w _ hca)).trans hca
      have hrl : r.length = m := HR.out _ _ hget.out
      by_cases hki : k = i
      · subst hki
        have e : minorTo t k j (k + 1) = minorTo t k j k := minorTo_skip (by have := HL.out; omega)
        rw [← e] at hown
        have Hown := Lib.hid hown
        have Hbl := Lib.hid hbl
        have hne : ((k : Int) == (k : Int)) = true := by simp
        clear hown hbl hca hrow hrl e
        go_wp2_with fail
        go_roundw
        case rel => exact ⟨k + 1, hlt, by go_num, Hown.out, Hbl.out⟩
        case measure => simp [intOf]; omega
      · have hne : ((k : Int) == (i : Int)) = false := by simp; omega
        have e : minorTo t i j (k + 1) = minorTo t i j k ++ [cut j r] := minorTo_step hget.out hki
        have Hown := Lib.hid hown
        have Hbl := Lib.hid hbl
        have hjr2 : j ≤ r.length := by omega
        have hjr3 : j + 1 ≤ r.length := by omega
        have hjc : j ≤ c1 := by omega
        have Hrow := Lib.hid hrow
        have E := Lib.hid e
        have HRL := Lib.hid hrl
        clear hown hbl hca hki hrow e hrl
        obtain ⟨A2, hA2⟩ : ∃ A2, (if c1 = j + 1 then a1 else a1.map (·.add (j + 1))) = A2 := ⟨_, rfl⟩
        have Hd : Hid (Ints wo A2 (r.length - (j + 1)) (r.drop (j + 1))) := by rw [← hA2]; exact (Hrow.out.keep (Hbl.out.mono (Nat.le_refl _))).drop hjr3 hcap
        have Ht : Hid (Ints wo a1 j (r.take j)) := (Hrow.out.keep (Hbl.out.mono (Nat.le_refl _))).take hjr2
        have hs1 := slice_to a1 r.length c1 j hjc
        have hs2 := slice_from a1 r.length c1 j hjr3
        rw [hA2] at hs2
        have HA2 := Lib.hid hA2
        have hw0 : Below wo.heap.size wo (wo.alloc (.cells #[] 3)) := (Below.refl _ _).alloc (Nat.le_refl _) _
        have Hw0 := Lib.hid hw0
        have ho0 : Hid (OInts (wo.alloc (.cells #[] 3)) wo.heap.size (.slice (some ⟨wo.heap.size, 0, none⟩) 0 0) 0 []) := OInts.empty wo wo.heap.size (Nat.le_refl _)
        have hjm : j ≤ 1048576 := by omega
        have hrm : r.length ≤ 1048576 := by have := HRL.out; omega
        have hjr4 : j + 1 ≤ r.length := hjr3
        have hml := minorTo_len (t := t) (i := i) (j := j) (k := k)
        have H1 := Lib.hid h1
        have h10 := (hw0.cell (World.block_lt_of_cell? wo _ h1)).trans h1
        clear h1 hcap hA2 hjc hjr2 hjr3 hw0
        go_wp2_with (first
          | (at_builtin; refine wpList_app_ints _ rfl (.tmp 20) (.tmp 26) rfl wo.heap.size _ 0 [] rfl ho0.out a1 j _ (r.take j) rfl (Ht.out.keep Hw0.out) (by omega) (by exact Hw0.out.size) ?_; intro v1 w1 ho1 hg1; rw [Nat.zero_add, List.nil_append] at ho1; obtain ⟨ao1, cap1, rfl, _⟩ := ho1.form; have Ho1 := Lib.hid ho1; have Hb1 : Hid (Below wo.heap.size wo w1) := Hw0.out.grown hg1 Hw0.out.size (fun k hk => (ho0.out.ownlt k hk).1); have h1' := (Hb1.out.cell (World.block_lt_of_cell? wo _ H1.out)).trans H1.out; clear ho1 hg1)
          | (at_builtin; refine wpList_app_ints _ rfl (.tmp 29) (.tmp 36) rfl wo.heap.size _ _ _ rfl Ho1.out A2 _ _ (r.drop (j + 1)) rfl (Hd.out.keep Hb1.out) (by omega) (by exact Hb1.out.size) ?_; intro v2 w2 ho2 hg2; obtain ⟨ao2, cap2, rfl, _⟩ := ho2.form; have Ho2 := Lib.hid ho2; have Hb2 : Hid (Below wo.heap.size wo w2) := Hb1.out.grown hg2 Hb1.out.size (fun k hk => (Ho1.out.ownlt k hk).1); clear ho2 hg2)
          | (at_builtin; refine wpList_push_fresh _ _ wo rfl (.tmp 28) (.tmp 38) rfl w.heap.size _ _ _ rfl Hown.out (by omega) Hbl.out.size Hb2.out _ _ Ho2.out _ (by rfl) rfl ?_; intro v3 w3 ho3 hb3 _; have Ho3 := Lib.hid ho3; have Hb3 := Lib.hid hb3; clear ho3 hb3))
        go_roundw
        case rel =>
          refine ⟨k + 1, hlt, by go_num, ?_, Hbl.out.trans Hb3.out⟩
          have h9 := Ho3.out
          rw [E.out, List.length_append]
          exact h9
        case measure => simp [intOf]; omega
    · go_wp2_with fail
      go_ret
      rw [minorTo_end (by have := HL.out; omega)] at hown
      exact ⟨_, rfl, hown, hbl⟩
end Go.Proofs.YtonfdiaefkghbaaGreatDoor

namespace Go.Proofs.YtonfdiaefkghbaaGreatDoor
open Go.RowKit
set_option linter.all false
theorem sMinor0_any (p : Option Addr) (n c : Nat) (t : List (List Int)) (j m : Nat) (w : World) (h : Intss w p n t) (hr : RowsLen t m) (hj : j < m) (hm : m ≤ 1048576) (hn : n ≤ 1048576) :
    Calls Tryz.prog 130 #[.slice p n c, .int .i64 0, .int .i64 j] w fun e w' => ∃ v, e = .returned v ∧ OIntss w' w.heap.size v (minorT t 0 j).length (minorT t 0 j) ∧ Below w.heap.size w w' := by
  have := sMinor_any p n c t 0 j m w h hr hj hm hn
  simpa using this

set_option maxHeartbeats 1600000 in
theorem sDet_any (m : Nat) : ∀ (p : Option Addr) (n c : Nat) (t : List (List Int)) (w : World), n = m → m ≤ 9 → Intss w p n t → RowsLen t m →
    Calls Tryz.prog 87 #[.slice p n c] w fun e w' => e = .returned (.int .i64 (det m t)) ∧ Below w.heap.size w w' := by
  induction m with
  | zero =>
    intro p n c t w hn _ _ _
    subst hn
    go_enter Tryz.func87, Tryz.ntmps87
    go_wp2_with fail
    go_ret
    exact ⟨rfl, Below.refl _ _⟩
  | succ m ih =>
    intro p n c t w hn hm h hr
    subst hn
    have HL : Hid (t.length = m + 1) := h.1
    obtain ⟨b0, o0, a0, c0, r0, rfl, hc0, hrow0, hget0⟩ := h.at_ (k := 0) (by omega)
    rw [Nat.add_zero] at hc0
    have HR0 : Hid (r0.length = m + 1) := hr _ _ hget0.out
    have hl1 : r0.length ≤ m + 1 := by have := HR0.out; omega
    have hl2 : m + 1 ≤ r0.length := by have := HR0.out; omega
    have HD : Hid (det (m + 1) t = dloop (det m) t r0 0 0 1) := by
      show det (m + 1) t = _
      have e : t.getD 0 [] = r0 := by rw [List.getD, hget0.out]; rfl
      unfold det
      rw [e]
    have hne : ((m : Int) + 1 == 0) = false := by simp; omega
    have hn0 : 0 < m + 1 := by omega
    have H := Lib.hid h
    have HRL := Lib.hid hr
    have Hrow := Lib.hid hrow0
    have IH := Lib.hid ih
    have Hc0 := Lib.hid hc0
    clear h hr hrow0 ih hc0
    go_enter Tryz.func87, Tryz.ntmps87
    go_wp2_with fail
    go_loopw [3, 4, 5] (fun s g i wr => ∃ (j : Nat) (sv gv : Int), j ≤ m + 1 ∧ i = .int .i64 j ∧ s = .int .i64 sv ∧ g = .int .i64 gv ∧ -1 ≤ gv ∧ gv ≤ 1 ∧ Below w.heap.size w wr ∧ Hid (dloop (det m) t (r0.drop j) j sv gv = det (m + 1) t)) (fun _ _ i _ => (m + 1) - (intOf i).toNat)
    case atStart => exact ⟨0, 0, 1, Nat.zero_le _, rfl, rfl, rfl, by omega, by omega, Below.refl _ _, HD.out.symm⟩
    case round =>
      obtain ⟨j, sv, gv, hj, rfl, rfl, rfl, hg1, hg2, hbl, hd⟩ := hrel
      have hc0' := (hbl.cell (World.block_lt_of_cell? w _ Hc0.out)).trans Hc0.out
      by_cases hlt : j < m + 1
      · obtain ⟨b1, o1, x, rfl, hcx, hgetx⟩ := Hrow.out.at_ (k := j) (by omega)
        have hcx' := (hbl.cell (World.block_lt_of_cell? w _ hcx)).trans hcx
        have hjr : j < r0.length := by omega
        by_cases hx0 : x = 0
        · subst hx0
          have hd1 : Hid _ := dloop_zero hgetx.out hd.out
          clear hcx hd
          go_wp2_with fail
          go_roundw
          case rel => exact ⟨j + 1, sv, -gv, hlt, by go_num, rfl, rfl, by omega, by omega, hbl, hd1⟩
          case measure => simp [intOf]; omega
        · have hd1 : Hid _ := dloop_step hgetx.out hx0 hd.out
          have hne2 : (x != 0) = true := by simp [hx0]
          have Hbl := Lib.hid hbl.drew
          have Hcx0 := Lib.hid hcx
          clear hbl hcx hd hx0
          have HML : Hid ((minorT t 0 j).length = m) := by show (minorT t 0 j).length = m; rw [minorT_len (by have := HL.out; omega), HL.out]; omega
          go_wp2_with fail
          go_region_held3 (fun w' => w'.cell? ⟨b0, o0, none⟩ = some (.slice (some ⟨b1, o1, none⟩) r0.length c0) ∧ w'.cell? ⟨b1, o1 + j, none⟩ = some (.int .i64 x)) (first | go_keep | exact ⟨q1, q2⟩ | exact ⟨q3, q4⟩) (first
            | (go_at_call 130; refine (sMinor0_any _ _ _ t j (m + 1) _ (H.out.keep (Hbl.out.mono (Nat.le_refl _))) HRL.out (by omega) (by omega) (by omega)).mono ?_; rintro e w1 ⟨v1, rfl, ho1, hb1⟩; obtain ⟨ao1, cap1, rfl, hi1⟩ := ho1.form; have Hi1 := Lib.hid hi1; have Hb1 := Lib.hid (Hbl.out.trans (hb1.mono Hbl.out.size)); have q1 := (Hb1.out.cell (World.block_lt_of_cell? w _ Hc0.out)).trans Hc0.out; have q2 := (Hb1.out.cell (World.block_lt_of_cell? w _ Hcx0.out)).trans Hcx0.out; clear ho1 hb1 hi1)
            | (go_at_call 87; refine (IH.out _ _ _ (minorT t 0 j) _ HML.out (by omega) Hi1.out (minorT_rowsLen HRL.out (by omega))).mono ?_; rintro e w2 ⟨rfl, hb2⟩; have Hb2 := Lib.hid (Hb1.out.trans (hb2.mono Hb1.out.size)); have q3 := (Hb2.out.cell (World.block_lt_of_cell? w _ Hc0.out)).trans Hc0.out; have q4 := (Hb2.out.cell (World.block_lt_of_cell? w _ Hcx0.out)).trans Hcx0.out; clear hb2))
          go_wp2_with fail
          go_roundw
          case rel => exact ⟨j + 1, _, -gv, hlt, by go_num, rfl, rfl, by omega, by omega, Hb2.out, by simp only [wrap_i64_eq]; exact hd1⟩
          case measure => simp [intOf]; omega
      · go_wp2_with fail
        go_ret
        exact ⟨ret_int (dloop_end (by omega) hd.out), hbl⟩
end Go.Proofs.YtonfdiaefkghbaaGreatDoor

namespace Go.Proofs.YtonfdiaefkghbaaGreatDoor
open Go.RowKit
set_option linter.all false
set_option maxHeartbeats 1600000 in
theorem iCountRooted_any (pm : Option Addr) (nm cm : Nat) (m : List (List Int)) (i n : Int) (w : World) (hm : Intss w pm nm m) :
    Calls Tryz.prog 22 #[.slice pm nm cm, .int .i64 i, .int .i64 n] w fun e w' => e = .returned (.int .i64 (rooted m i n)) ∧ Below w.heap.size w w' := by
  have hmm := hm.2.1
  have HM := Lib.hid hm
  have HLM : Hid (m.length = nm) := hm.1
  clear hm
  cases h1 : isMat m
  · have hg : Hid (rooted m i n = -1) := rooted_mat h1
    go_enter Tryz.func22, Tryz.ntmps22
    go_wp2_with (first | (go_at_call 67; refine (iIsMatrix_any _ _ _ m _ HM.out).mono ?_; rintro e w' ⟨rfl, rfl⟩))
    go_ret
    exact ⟨ret_int hg.out.symm, Below.refl _ _⟩
  by_cases h2 : i < 0
  · have hg : Hid (rooted m i n = -1) := rooted_i (inR_no (.inl h2))
    have hd2 : decide (i < 0) = true := by simpa using h2
    go_enter Tryz.func22, Tryz.ntmps22
    go_wp2_with (first | (go_at_call 67; refine (iIsMatrix_any _ _ _ m _ HM.out).mono ?_; rintro e w' ⟨rfl, rfl⟩))
    go_ret
    exact ⟨ret_int hg.out.symm, Below.refl _ _⟩
  have hd2 : decide (i < 0) = false := by simpa using h2
  by_cases h3 : (nm : Int) ≤ i
  · have hg : Hid (rooted m i n = -1) := rooted_i (inR_no (.inr (by rw [HLM.out]; omega)))
    have hd3 : decide ((nm : Int) ≤ i) = true := by simpa using h3
    go_enter Tryz.func22, Tryz.ntmps22
    go_wp2_with (first | (go_at_call 67; refine (iIsMatrix_any _ _ _ m _ HM.out).mono ?_; rintro e w' ⟨rfl, rfl⟩))
    go_ret
    exact ⟨ret_int hg.out.symm, Below.refl _ _⟩
  have hd3 : decide ((nm : Int) ≤ i) = false := by simpa using h3
  by_cases h4 : n < 1
  · have hg : Hid (rooted m i n = -1) := rooted_n (inR_no (.inl h4))
    have hd4 : decide (n < 1) = true := by simpa using h4
    go_enter Tryz.func22, Tryz.ntmps22
    go_wp2_with (first | (go_at_call 67; refine (iIsMatrix_any _ _ _ m _ HM.out).mono ?_; rintro e w' ⟨rfl, rfl⟩))
    go_ret
    exact ⟨ret_int hg.out.symm, Below.refl _ _⟩
  have hd4 : decide (n < 1) = false := by simpa using h4
  obtain ⟨k, rfl⟩ := Int.eq_ofNat_of_zero_le (show 0 ≤ i by omega)
  have hk : k < nm := by omega
  have H12 : Hid (isMat m = true ∧ inR (k : Int) 0 (m.length - 1) = true) := ⟨h1, inR_mk ⟨by omega, by rw [HLM.out]; omega⟩⟩
  clear h2 h3
  go_enter Tryz.func22, Tryz.ntmps22
  go_wp2_with (first | (go_at_call 67; refine (iIsMatrix_any _ _ _ m _ HM.out).mono ?_; rintro e w' ⟨rfl, rfl⟩))
  clear h1 hd2 hd3 hd4
  refine (iPowM_any _ _ _ m _ _ HM.out).mono ?_
  rintro e w1 ⟨v, rfl, hown, hbl⟩
  cases hp : powM m n with
  | none =>
    have hg : Hid (rooted m k n = -1) := rooted_none hp
    have Hbl := Lib.hid hbl
    clear hown hbl
    go_wp2_with fail
    go_ret
    exact ⟨ret_int hg.out.symm, Hbl.out⟩
  | some p =>
    have hpm := powM_mat hp
    have h3 : inR n 1 30 = true := by
      have h5 : inR n 0 30 = true := by
        cases h6 : inR n 0 30 with
        | true => rfl
        | false => rw [powM_none2 h6] at hp; cases hp
      exact inR_mk ⟨by omega, (inR_true h5).2⟩
    have hpl : p.length = nm := by rw [hpm.2.2, HLM.out]
    rw [hp] at hown
    have hown' : OIntss w1 w.heap.size v p.length p := hown
    rw [hpl] at hown'
    obtain ⟨ao, cap, rfl, hin⟩ := hown'.form
    obtain ⟨b, o, ai, ci, q, rfl, hc, hrow, hget⟩ := hin.at_ hk
    have hql : q.length = nm := by rw [(isMat_row hpm.2.1 hget.out).1, hpl]
    obtain ⟨b', o', x, rfl, hcx, hgetx⟩ := hrow.at_ (k := k) (by omega)
    have hg : Hid (rooted m k n = x) := rooted_some (r := m) H12.out.1 H12.out.2 h3 hp hget.out hgetx.out
    have Hbl := Lib.hid hbl
    have hkq : k < q.length := by omega
    clear hown hbl hown' hin hrow hpm hpl hql h3
    go_wp2_with fail
    go_ret
    exact ⟨ret_int hg.out.symm, Hbl.out⟩
end Go.Proofs.YtonfdiaefkghbaaGreatDoor

namespace Go.Proofs.YtonfdiaefkghbaaGreatDoor
open Go.RowKit
set_option linter.all false
theorem Apart.symm {u v : Value} (h : Apart u v) : Apart v u := fun b hb e => h b e hb
theorem conv_step {fs rs : List Int} {k l : Nat} {f R : Int} (hl : l < k) (h : conv fs rs k (k - l) l f = R) : conv fs rs k (k - (l + 1)) (l + 1) (wrap64 (f - wrap64 (fs.getD l 0 * rs.getD (k - l) 0))) = R := by
  rw [show k - l = (k - (l + 1)) + 1 by omega] at h
  simp only [conv] at h
  exact h
theorem OInts.lit1 (W : World) (lo : Nat) (x : Int) (h : lo ≤ W.heap.size) : OInts (W.alloc (.cells #[.int .i64 x] 3)) lo (.slice (some ⟨W.heap.size, 0, none⟩) 1 1) 1 [x] := by
  refine ⟨by omega, ?_⟩
  have h := World.ownsRow_lit (base := lo) (e := 3) (size := 1) W #[.int .i64 x] 1 h (by unfold maxLen; omega) rfl
  simpa using h
set_option maxRecDepth 20000 in
set_option maxHeartbeats 3200000 in
theorem iFirst_any (pm : Option Addr) (nm cm : Nat) (m : List (List Int)) (i n : Int) (w : World) (h : Intss w pm nm m) :
    Calls Tryz.prog 8 #[.slice pm nm cm, .int .i64 i, .int .i64 n] w fun e w' => e = .returned (.int .i64 (firstR m i n)) ∧ Below w.heap.size w w' := by
  have HL : Hid (m.length = nm) := h.1
  have H := Lib.hid h
  clear h
  by_cases h10 : 10 < n
  · have hg : Hid (firstR m i n = -1) := by show _ = _; simp [firstR, h10]
    go_enter Tryz.func8, Tryz.ntmps8
    go_wp2_with fail
    go_ret
    exact ⟨ret_int hg.out.symm, Below.refl _ _⟩
  have hd10 : decide (10 < n) = false := by simpa using h10
  by_cases hc : rooted m i n < 0
  · have hg : Hid (firstR m i n = -1) := by show _ = _; simp [firstR, h10, hc]
    have hdc : decide (rooted m i n < 0) = true := by simpa using hc
    clear hc
    go_enter Tryz.func8, Tryz.ntmps8
    go_wp2_with (go_at_call 22; refine (iCountRooted_any _ _ _ m _ _ _ H.out).mono ?_; rintro e w1 ⟨rfl, hb1⟩; have Hb1 := Lib.hid hb1; clear hb1)
    go_ret
    exact ⟨ret_int hg.out.symm, Hb1.out⟩
  have hf := rooted_facts hc
  have hdc : decide (rooted m i n < 0) = false := by simpa using hc
  have hg : Hid (firstR m i n = (fsL m i n.toNat).getD n.toNat 0) := by show _ = _; rw [first_both hc]; simp [firstR, h10, hc]
  obtain ⟨_, _, _, hn1, _, _⟩ := hf
  obtain ⟨n0, rfl⟩ := Int.eq_ofNat_of_zero_le (show 0 ≤ n by omega)
  have hn10 : n0 ≤ 10 := by omega
  have hn1' : 1 ≤ n0 := by omega
  clear hc h10 hn1
  go_enter Tryz.func8, Tryz.ntmps8
  go_wp2_with (go_at_call 22; refine (iCountRooted_any _ _ _ m _ _ _ H.out).mono ?_; rintro e w1 ⟨rfl, hb1⟩; have Hb1 := Lib.hid hb1; clear hb1)
  clear hdc hd10
  go_loopw [7, 8, 9] (fun vr vf x wr => ∃ k : Nat, k ≤ n0 ∧ x = .int .i64 ((k : Int) + 1) ∧ OInts wr w.heap.size vr (k + 1) (rsL m i k) ∧ OInts wr w.heap.size vf (k + 1) (fsL m i k) ∧ Apart vr vf ∧ Below w.heap.size w wr) (fun _ _ x _ => n0 + 1 - (intOf x).toNat)
  case atStart =>
    refine ⟨0, Nat.zero_le _, rfl, ?_, ?_, ?_, (Hb1.out.alloc Hb1.out.size _).alloc (Nat.le_trans Hb1.out.size (by simp)) _⟩
    · exact (OInts.lit1 w1 w.heap.size 1 Hb1.out.size).alloc _
    · have h9 := OInts.lit1 (w1.alloc (.cells #[.int .i64 1] 3)) w.heap.size 0 (Nat.le_trans Hb1.out.size (by simp))
      show OInts _ _ _ 1 [0]
      simpa using h9
    · intro b hb e
      simp [Value.ownBlock] at hb e
      omega
  case round =>
    obtain ⟨k, hk, rfl, hor, hof, hap, hbl⟩ := hrel
    obtain ⟨wo, rfl⟩ : ∃ wo : World, wo = wr := ⟨_, rfl⟩
    obtain ⟨g7, c7, rfl⟩ := hor.head (by omega)
    obtain ⟨g8, c8, rfl⟩ := hof.head (by omega)
    have Hor := Lib.hid hor
    have Hof := Lib.hid hof
    have Hap := Lib.hid hap
    have Hbl := Lib.hid hbl
    have HM := Lib.hid (H.out.keep hbl)
    clear hor hof hap hbl
    by_cases hlt : k < n0
    · go_wp2_with (first
        | (go_at_call 22; refine (iCountRooted_any _ _ _ m _ _ _ HM.out).mono ?_; rintro e w2 ⟨rfl, hb2⟩; have Hb2 := Lib.hid hb2; clear hb2)
        | (at_builtin; refine wpList_push_at _ _ rfl _ _ rfl w.heap.size _ _ _ rfl (Hor.out.keep Hb2.out) (by omega) (Nat.le_trans Hbl.out.size Hb2.out.size) _ rfl rfl ?_; intro v3 w3 ho3 hg3 hn3; obtain ⟨g3, c3, rfl⟩ := ho3.head (by omega); rw [rsL_push] at ho3; have Ho3 := Lib.hid ho3; have Hof3 := Lib.hid ((Hof.out.keep Hb2.out).far hg3 Hap.out.symm); have Hap3 := Lib.hid ((hn3.apart Hap.out.symm (fun b hb => ((Hof.out.keep Hb2.out).ltAll b hb).2)).symm); have Hb3 := Lib.hid ((step2 Hbl.out Hb2.out).grown hg3 (Nat.le_trans Hbl.out.size Hb2.out.size) (fun b hb => (Hor.out.ownlt b hb).1)); have hcl := ho3.cell (k + 1) (by omega); clear ho3 hg3 hn3))
      have Hcl := Lib.hid hcl
      clear hcl
      go_loopw [10, 11] (fun vf vl wx => ∃ (l : Nat) (f : Int), 1 ≤ l ∧ l ≤ k + 1 ∧ vl = .int .i64 l ∧ vf = .int .i64 f ∧ Hid (conv (fsL m i k) (rsL m i (k + 1)) (k + 1) (k + 1 - l) l f = conv (fsL m i k) (rsL m i (k + 1)) (k + 1) k 1 ((rsL m i (k + 1)).getD (k + 1) 0)) ∧ Drew w3 wx) (fun _ vl _ => k + 1 - (intOf vl).toNat)
      case atStart => exact ⟨1, _, by omega, by omega, rfl, rfl, rfl, Drew.refl _⟩
      case round =>
        obtain ⟨l, f, hl1, hl2, rfl, rfl, hcv, q, rfl⟩ := hrel
        by_cases hlk : l < k + 1
        · have hcf := Hof3.out.cell l (by omega)
          have hcr := Ho3.out.cell (k + 1 - l) (by omega)
          have HCV := Lib.hid (conv_step hlk hcv.out)
          generalize (fsL m i k).getD l 0 = X at *
          generalize (rsL m i (k + 1)).getD (k + 1 - l) 0 = Y at *
          have e2 : (0 : Int) ≤ (k : Int) + 1 - (l : Int) := by omega
          have e4 : (k : Int) + 1 - (l : Int) < (k : Int) + 1 + 1 := by omega
          have e5 : (k : Int) + 1 - (l : Int) ≤ 1000 := by omega
          have e3 : ((k : Int) + 1 - (l : Int)).toNat = k + 1 - l := by omega
          have e1 : IntKind.i64.wrap ((k : Int) + 1 - (l : Int)) = (k : Int) + 1 - (l : Int) := IntWalk.i64_in _ (by omega)
          clear hcv
          go_wp2_with fail
          go_quiet (fail)
          clear e1 e3
          go_wp2_with fail
          go_roundw
          case rel => exact ⟨l + 1, _, by omega, by omega, by go_num, rfl, HCV.out, (by first | exact Drew.refl _ | exact Drew.mk _ _ | exact (Drew.mk _ _).drewN _)⟩
          case measure => simp [intOf]; omega
        · have el : l = k + 1 := by omega
          have HFV : Hid (f = conv (fsL m i k) (rsL m i (k + 1)) (k + 1) k 1 ((rsL m i (k + 1)).getD (k + 1) 0)) := by
            have := hcv.out
            rw [show k + 1 - l = 0 by omega] at this
            exact this
          have HO8 := Lib.hid (Hof3.out.drewN q)
          have HO7 := Lib.hid (Ho3.out.drewN q)
          have HB8 := Lib.hid (below_drewN Hb3.out q)
          clear hcv
          subst el
          go_wp2_with (first
            | (at_builtin; refine wpList_push_at (w3.drewN q) _ rfl _ _ rfl w.heap.size _ _ _ rfl HO8.out (by omega) HB8.out.size _ rfl rfl ?_; intro v5 w5 ho5 hg5 hn5; have Ho5 := Lib.hid ho5; have Hg5 := Lib.hid hg5; have Hn5 := Lib.hid hn5; clear ho5 hg5 hn5))
          go_roundw
          case rel =>
            refine ⟨k + 1, by omega, by go_num, HO7.out.far Hg5.out Hap3.out, ?_, ?_, HB8.out.grown Hg5.out HB8.out.size (fun b hb => (HO8.out.ownlt b hb).1)⟩
            · have h9 := Ho5.out
              rw [HFV.out] at h9
              exact h9
            · exact Hn5.out.apart Hap3.out (fun b hb => (HO7.out.ltAll b hb).2)
          case measure => simp [intOf]; omega
    · have e : k = n0 := by omega
      have hcl := Hof.out.cell n0 (by omega)
      have HR : Hid ((fsL m i n0)[n0]?.getD 0 = firstR m i (n0 : Int)) := by show _ = _; rw [hg.out]; simp [List.getD]
      clear hg
      go_wp2_with fail
      go_ret
      exact ⟨ret_int HR.out, Hbl.out⟩
end Go.Proofs.YtonfdiaefkghbaaGreatDoor

namespace Go.Proofs.YtonfdiaefkghbaaGreatDoor
open Go.RowKit
set_option linter.all false
set_option maxHeartbeats 800000 in
theorem iSumOf_any (ao : Option Addr) (n cap : Nat) (xss : List (List Int)) (w : World) (h : Intss w ao n xss) :
    Calls Tryz.prog 50 #[.slice ao n cap] w fun e w' => e = .returned (.int .i64 (sumOf xss)) ∧ w = w' := by
  have hm := h.2.1
  have HL := Lib.hid h.1
  have H := Lib.hid h
  clear h
  cases hmat : isMat xss
  · have hg : Hid (sumOf xss = -1) := by show sumOf xss = _; simp [sumOf, hmat]
    go_enter Tryz.func50, Tryz.ntmps50
    go_wp2_with (first | (go_at_call 67; refine (iIsMatrix_any _ _ _ xss _ H.out).mono ?_; rintro e w' ⟨rfl, rfl⟩))
    go_ret
    exact ⟨ret_int hg.out.symm, rfl⟩
  · have hg : Hid (sumOf xss = msum xss) := by show sumOf xss = _; simp [sumOf, hmat]
    have HM := Lib.hid hmat
    have hms := isMat_msum hmat
    go_enter Tryz.func50, Tryz.ntmps50
    go_wp2_with (first | (go_at_call 67; refine (iIsMatrix_any _ _ _ xss _ H.out).mono ?_; rintro e w' ⟨rfl, rfl⟩))
    go_loop [3, 11] (fun s i => ∃ (k : Nat) (t : Int), k ≤ n ∧ i = .int .i64 k ∧ s = .int .i64 t ∧ 0 ≤ t ∧ Hid (t + msum (xss.drop k) = msum xss)) (fun _ i => n - (intOf i).toNat)
    case atStart => exact ⟨0, 0, Nat.zero_le _, rfl, rfl, by omega, Int.zero_add _⟩
    case round =>
      obtain ⟨k, t, hk, rfl, rfl, ht, hr⟩ := hrel
      by_cases hlt : k < n
      · obtain ⟨b, o, ai, ci, r, rfl, hcell, hrow, hget⟩ := H.out.at_ hlt
        have Hrow := Lib.hid hrow
        clear hrow H
        have h1 := row_sum HM.out hget.out
        have h2 := rest_nonneg HM.out (k + 1)
        have hd := hr.out
        rw [drop_of_get hget.out, msum_cons] at hd
        have h0 : 0 ≤ isum 0 r := by omega
        have h3 : t + isum 0 r ≤ 81000000 := by omega
        have hr1 : Hid (t + isum 0 r + msum (xss.drop (k + 1)) = msum xss) := by show t + isum 0 r + msum (xss.drop (k + 1)) = msum xss; omega
        clear hr hd h1 h2
        go_wp2_with (first | (go_at_call 99; refine (total_any _ _ _ r _ Hrow.out).mono ?_; rintro e w' ⟨rfl, rfl⟩))
        go_round
        case rel => exact ⟨k + 1, _, hlt, by go_num, rfl, by omega, hr1⟩
        case measure => simp [intOf]; omega
      · go_wp2
        go_ret
        rw [drop_all xss k (by have := HL.out; omega)] at hr
        exact ⟨ret_int (by rw [hg.out, ← hr.out]; simp [msum]), rfl⟩
end Go.Proofs.YtonfdiaefkghbaaGreatDoor

namespace Go.Proofs.YtonfdiaefkghbaaGreatDoor
open Go.RowKit
set_option linter.all false
set_option maxHeartbeats 1600000 in
theorem iCntP_any (p : Option Addr) (n c : Nat) (m : List (List Int)) (t : Int) (w : World) (h : Intss w p n m) :
    Calls Tryz.prog 97 #[.slice p n c, .int .i64 t] w fun e w' => e = .returned (.int .i64 (cntP m t)) ∧ Below w.heap.size w w' := by
  have H := Lib.hid h
  clear h
  go_enter Tryz.func97, Tryz.ntmps97
  cases hp : powM m t with
  | none =>
    have hg : Hid (cntP m t = -1) := by show _ = _; simp [cntP, hp]
    go_wp2_with fail
    refine (iPowM_any _ _ _ m t _ H.out).mono ?_
    rw [hp]
    rintro e w1 ⟨v1, rfl, ho1, hb1⟩
    go_wp2_with fail
    go_ret
    exact ⟨ret_int hg.out.symm, hb1⟩
  | some q =>
    have hg : Hid (cntP m t = sumOf q) := by show _ = _; simp [cntP, hp]
    go_wp2_with fail
    refine (iPowM_any _ _ _ m t _ H.out).mono ?_
    rw [hp]
    rintro e w1 ⟨v1, rfl, ho1, hb1⟩
    obtain ⟨a1, c1, rfl, hi1⟩ := ho1.form
    go_wp2_with fail
    refine (iSumOf_any _ _ _ q _ hi1).mono ?_
    rintro e w' ⟨rfl, rfl⟩
    go_wp2_with fail
    go_ret
    exact ⟨ret_int hg.out.symm, hb1⟩
end Go.Proofs.YtonfdiaefkghbaaGreatDoor

namespace Go.Proofs.YtonfdiaefkghbaaGreatDoor
open Go.RowKit
set_option linter.all false
set_option maxHeartbeats 800000 in
theorem iIsGraph_any (ao : Option Addr) (n cap : Nat) (xss : List (List Int)) (w : World) (h : Intss w ao n xss) :
    Calls Tryz.prog 96 #[.slice ao n cap] w fun e w' => e = .returned (.bool (isGraph xss)) ∧ w = w' := by
  have H := Lib.hid h
  clear h
  cases hmat : isMat xss
  · have hg : Hid (isGraph xss = false) := by show isGraph xss = _; simp [isGraph, hmat]
    go_enter Tryz.func96, Tryz.ntmps96
    go_wp2_with (first | (go_at_call 67; refine (iIsMatrix_any _ _ _ xss _ H.out).mono ?_; rintro e w' ⟨rfl, rfl⟩))
    go_ret
    exact ⟨ret_bool hg.out.symm, rfl⟩
  · have hg : Hid (isGraph xss = decide (sumOf xss ≤ 60)) := by show isGraph xss = _; simp [isGraph, hmat]
    go_enter Tryz.func96, Tryz.ntmps96
    go_wp2_with (first | (go_at_call 67; refine (iIsMatrix_any _ _ _ xss _ H.out).mono ?_; rintro e w' ⟨rfl, rfl⟩) | (go_at_call 50; refine (iSumOf_any _ _ _ xss _ H.out).mono ?_; rintro e w' ⟨rfl, rfl⟩))
    go_ret
    exact ⟨ret_bool hg.out.symm, rfl⟩
end Go.Proofs.YtonfdiaefkghbaaGreatDoor

namespace Go.Proofs.YtonfdiaefkghbaaGreatDoor
open Go.RowKit
set_option linter.all false
set_option maxRecDepth 20000 in
set_option maxHeartbeats 3200000 in
theorem iArcs5_any (p : Option Addr) (n c : Nat) (m : List (List Int)) (w : World) (h : Intss w p n m) (hmat : isMat m = true) (h60 : (arcsL m).length ≤ 60) :
    Calls Tryz.prog 98 #[.slice p n c] w fun e w' => ∃ v, e = .returned v ∧ OIntss w' w.heap.size v (arcsL m).length (arcsL m) ∧ Below w.heap.size w w' := by
  have HL : Hid (m.length = n) := h.1
  have H := Lib.hid h
  have HM := Lib.hid hmat
  have H60 := Lib.hid h60
  have HRL := Lib.hid (isMat_rowsLen hmat h.1)
  have hn9 : n ≤ 9 := by have := isMat_len hmat; have := HL.out; omega
  clear h hmat h60
  go_enter Tryz.func98, Tryz.ntmps98
  go_wp2_with fail
  go_loopw [3, 11] (fun v x wr => ∃ (i : Nat) (acc : List (List Int)), i ≤ n ∧ x = .int .i64 i ∧ OIntss wr w.heap.size v acc.length acc ∧ Hid (acc ++ arcsI i (m.drop i) = arcsL m) ∧ Below w.heap.size w wr) (fun _ x _ => n - (intOf x).toNat)
  case atStart => exact ⟨0, [], Nat.zero_le _, rfl, OIntss.empty w _ (Nat.le_refl _), rfl, (Below.refl _ _).alloc (Nat.le_refl _) _⟩
  case round =>
    obtain ⟨i, acc, hi, rfl, hown, heq, hbl⟩ := hrel
    by_cases hlt : i < n
    · obtain ⟨b1, o1, a1, c1, r, rfl, hca, hrow, hget⟩ := H.out.at_ hlt
      have HR := Lib.hid hget.out
      have HRn : Hid (r.length = n) := HRL.out _ _ hget.out
      rw [HRn.out] at hca hrow
      have Hrow := Lib.hid hrow
      have q1 := (hbl.cell (World.block_lt_of_cell? w _ hca)).trans hca
      have Hown := Lib.hid hown
      have Hbl := Lib.hid hbl
      have HEQ := Lib.hid (arcsI_step HR.out heq.out)
      clear hown hbl heq hca hrow hget
      go_wp2_with fail
      clear q1
      go_loopw [3, 18] (fun v x wr => ∃ (j : Nat) (acc : List (List Int)), j ≤ n ∧ x = .int .i64 j ∧ OIntss wr w.heap.size v acc.length acc ∧ Hid (acc ++ (arcsJ i j (r.drop j) ++ arcsI (i + 1) (m.drop (i + 1))) = arcsL m) ∧ Below w.heap.size w wr) (fun _ x _ => n - (intOf x).toNat)
      case atStart => exact ⟨0, _, Nat.zero_le _, rfl, Hown.out, HEQ, Hbl.out⟩
      case round =>
        obtain ⟨j, acc, hj, rfl, hown, heq, hbl⟩ := hrel
        clear Hown HEQ Hbl
        by_cases hjl : j < n
        · obtain ⟨b2, o2, x, rfl, hcx, hgx⟩ := Hrow.out.at_ (k := j) hjl
          have hxr := arcs_low HM.out HR.out hgx.out
          have HC := Lib.hid (arcsJ_step hgx.out heq.out)
          have q2 := (hbl.cell (World.block_lt_of_cell? w _ hcx)).trans hcx
          obtain ⟨cx, rfl⟩ : ∃ cx : Nat, x = cx := ⟨x.toNat, by omega⟩
          rw [Int.toNat_natCast] at HC
          have Hown := Lib.hid hown
          have Hbl := Lib.hid hbl
          clear hown hbl heq hcx hgx
          go_wp2_with fail
          clear q2
          go_loopw [3, 24] (fun v x wr => ∃ (k : Nat) (acc : List (List Int)), k ≤ cx ∧ x = .int .i64 k ∧ OIntss wr w.heap.size v acc.length acc ∧ Hid (acc ++ (List.replicate (cx - k) [(i : Int), (j : Int)] ++ (arcsJ i (j + 1) (r.drop (j + 1)) ++ arcsI (i + 1) (m.drop (i + 1)))) = arcsL m) ∧ Below w.heap.size w wr) (fun _ x _ => cx - (intOf x).toNat)
          case atStart => exact ⟨0, _, Nat.zero_le _, rfl, Hown.out, HC, Hbl.out⟩
          case round =>
            obtain ⟨k, acc, hk, rfl, hown, heq, hbl⟩ := hrel
            clear Hown HC Hbl
            by_cases hkc : k < cx
            · have HQ := Lib.hid (rep_step hkc heq.out)
              have hl := toCome_le HQ.out
              have hl2 : acc.length + 1 ≤ 60 := by have := H60.out; simp at hl; omega
              have Hown := Lib.hid hown
              have Hbl := Lib.hid hbl
              have HO := Lib.hid (OInts.lit2 wr wr.heap.size (i : Int) (j : Int) (Nat.le_refl _))
              have HB := Lib.hid (belowA wr (.cells #[.int .i64 (i : Int), .int .i64 (j : Int)] 3))
              clear hown hbl heq hl
              go_wp2_with (first | (at_builtin; refine wpList_push_fresh _ _ wr rfl (.tmp 26) (.tmp 30) rfl w.heap.size _ acc.length acc rfl Hown.out (by omega) Hbl.out.size HB.out _ _ HO.out _ ?_ rfl ?_; (simp); intro v4 w4 ho4 hb4 _; have Ho4 := Lib.hid ho4; have Hb4 := Lib.hid hb4; clear ho4 hb4))
              go_roundw
              case rel =>
                have h9 := Ho4.out
                rw [show acc.length + 1 = (acc ++ [[(i : Int), (j : Int)]]).length by simp] at h9
                first | exact ⟨k + 1, _, hkc, by go_num, h9, HQ, Hbl.out.trans Hb4.out⟩ | ((repeat apply Exists.intro); exact ⟨⟨k + 1, _, hkc, by go_num, h9, HQ, Hbl.out.trans Hb4.out⟩, rfl⟩)
              case measure => simp [intOf]; omega
            · have HQ := Lib.hid (rep_end (by omega) heq.out)
              have Hown := Lib.hid hown
              have Hbl := Lib.hid hbl
              clear hown hbl heq
              go_wp2_with fail
              go_roundw
              case rel => exact ⟨j + 1, acc, hjl, by go_num, Hown.out, HQ, Hbl.out⟩
              case measure => simp [intOf]; omega
        · have HQ := Lib.hid (arcsJ_end (by have := HRn.out; omega) heq.out)
          have Hown := Lib.hid hown
          have Hbl := Lib.hid hbl
          clear hown hbl heq
          go_wp2_with fail
          go_roundw
          case rel => exact ⟨i + 1, acc, hlt, by go_num, Hown.out, HQ, Hbl.out⟩
          case measure => simp [intOf]; omega
    · have HQ := Lib.hid (arcsI_end (by have := HL.out; omega) heq.out)
      have Hown := Lib.hid hown
      have Hbl := Lib.hid hbl
      clear hown hbl heq
      go_wp2_with fail
      go_ret
      have h9 := Hown.out
      rw [HQ.out] at h9
      exact ⟨_, rfl, h9, Hbl.out⟩
end Go.Proofs.YtonfdiaefkghbaaGreatDoor

namespace Go.Proofs.YtonfdiaefkghbaaGreatDoor
open Go.RowKit
set_option linter.all false
set_option maxHeartbeats 800000 in
theorem clone_any (ao : Option Addr) (n cap : Nat) (xs : List Int) (w : World) (h : Ints w ao n xs) :
    Calls Tryz.prog 81 #[.slice ao n cap] w fun e w' => ∃ v, e = .returned v ∧ OInts w' w.heap.size v n xs ∧ Below w.heap.size w w' := by
  have hm := h.2.1
  rcases ao with _ | q
  · have hn : n = 0 := by
      rcases Nat.eq_zero_or_pos n with h0 | h0
      · exact h0
      · obtain ⟨b, o, e, _⟩ := h.2.2 0 (by rw [h.1]; exact h0)
        cases e
    subst hn
    have hx : xs = [] := List.eq_nil_of_length_eq_zero h.1
    subst hx
    have hnn := fun (wx : World) => Lib.run_eql_slice_nil (P := Tryz.prog) wx 34 3 none 0 cap 0 0 Tryz.underlying34
    simp only [Option.isNone] at hnn
    clear h
    go_enter Tryz.func81, Tryz.ntmps81
    go_wp2_with fail
    go_ret
    exact ⟨_, rfl, OInts.none_ _ _, Below.refl _ _⟩
  · have hns := fun (wx : World) => Lib.run_eql_slice_nil (P := Tryz.prog) wx 34 3 (some q) n cap 0 0 Tryz.underlying34
    simp only [Option.isNone] at hns
    have HE := Lib.hid (OInts.empty w w.heap.size (Nat.le_refl _))
    have HB : Hid (Below w.heap.size w (w.alloc (.cells #[] 3))) := (Below.refl _ _).alloc (Nat.le_refl _) _
    have H := Lib.hid (h.keep HB.out)
    clear h
    go_enter Tryz.func81, Tryz.ntmps81
    go_wp2_with (first | (at_builtin; refine wpList_app_ints _ rfl _ _ rfl w.heap.size _ 0 [] rfl HE.out _ _ _ xs rfl H.out (by omega) HB.out.size ?_; intro v1 w1 ho1 hg1; rw [Nat.zero_add, List.nil_append] at ho1; have Ho1 := Lib.hid ho1; have Hb1 : Hid (Below w.heap.size w w1) := HB.out.grown hg1 HB.out.size (fun k hk => (HE.out.ownlt k hk).1); clear ho1 hg1))
    go_ret
    exact ⟨_, rfl, Ho1.out, Hb1.out⟩
end Go.Proofs.YtonfdiaefkghbaaGreatDoor
