/- Parts of the proof of a law, joined: SMin7 SCut SIsSmall STurned IPicked IWithout IDet ISets ICharP IIsSmall ITurned STrace SMulM SPowM SClosed ITrace ITimes IMulM IPowM IClosed SMoeb SLeastP IMoeb ILeastP SCntO ICntO OrbA SIn. -/
import Derived.Test.YtbjoblgklcilpaaGreatProg
import Derived.Deep.RegionLaw
import Derived.BigQuiet
import Derived.Lib.IndexBytes
import Derived.Test.YtbjoblgklcilpaaGreatZThA
import Derived.Test.YtbjoblgklcilpaaGreatZG1a
import Derived.Test.YtbjoblgklcilpaaGreatZG0a
import Derived.Test.YtbjoblgklcilpaaGreatZG0b
import Derived.Test.YtbjoblgklcilpaaGreatZSTimes
import Derived.Test.YtbjoblgklcilpaaGreatZOrbI3
import Derived.Test.YtbjoblgklcilpaaGreatZG0c
import Derived.Test.YtbjoblgklcilpaaGreatZSPairs
namespace Go.Proofs.YtbjoblgklcilpaaGreat
open Go.RowKit
set_option linter.all false
set_option maxRecDepth 20000 in
set_option maxHeartbeats 6400000 in
theorem sMin7_any (p : Option Addr) (n c : Nat) (t : List (List Int)) (k : Nat) (w : World) (h : Intss w p n t) (hr : RowsLen t n) (hn : n ≤ 4) (hk : k ≤ 4) :
    Calls Tryz.prog 69 #[.slice p n c, .int .i64 k] w fun e w' => e = .returned (.int .i64 (minTo t n k (2 ^ n))) ∧ Below w.heap.size w w' := by
  have h2n : 2 ^ n ≤ 16 := Nat.pow_le_pow_right (n := 2) (by omega) hn
  have H := Lib.hid h
  have HR := Lib.hid hr
  clear h hr
  go_enter Tryz.func69, Tryz.ntmps69
  go_wp2_with fail
  go_loopw [5, 6] (fun u x wr => ∃ (m : Nat) (s : Int), m ≤ 2 ^ n ∧ x = .int .i64 m ∧ u = .int .i64 s ∧ Hid (minTo t n k m = s) ∧ Below w.heap.size w wr) (fun _ x _ => 2 ^ n - (intOf x).toNat)
  case atStart => exact ⟨0, 0, Nat.zero_le _, rfl, rfl, rfl, Below.refl _ _⟩
  case round =>
    obtain ⟨m, s, hm, rfl, rfl, hs, hbl⟩ := hrel
    obtain ⟨wo, rfl⟩ : ∃ wo : World, wo = wr := ⟨_, rfl⟩
    have hp : wrap64 ((2 : Int) ^ n) = ((2 ^ n : Nat) : Int) := by
      have e : ((2 ^ n : Nat) : Int) = (2 : Int) ^ n := by simp
      rw [← e]; unfold wrap64; omega
    have Hbl := Lib.hid hbl
    clear hbl
    by_cases hlt : m < 2 ^ n
    · have hd : decide ((m : Int) < wrap64 (2 ^ n)) = true := by rw [hp]; simp only [decide_eq_true_eq]; omega
      clear hp
      go_wp2_with fail
      go_loopw [7, 8] (fun v' x wx => ∃ i : Nat, i ≤ n ∧ x = .int .i64 i ∧ OInts wx wo.heap.size v' (setTo m i).length (setTo m i) ∧ Below wo.heap.size wo wx) (fun _ x _ => n - (intOf x).toNat)
      case atStart => exact ⟨0, Nat.zero_le _, rfl, OInts.empty wo _ (Nat.le_refl _), (Below.refl _ _).alloc (Nat.le_refl _) _⟩
      case round =>
        obtain ⟨i, hi, rfl, hrow, hbx⟩ := hrel
        by_cases hin : i < n
        · have hil := setTo_len m i
          have hbb := bits_bit (m := m) (i := i) (by omega) (by omega)
          have Hrow := Lib.hid hrow
          have Hbx := Lib.hid hbx
          cases hb : bitOf m i
          · rw [hb] at hbb
            have E : Hid (setTo m (i + 1) = setTo m i) := setTo_no hb
            clear hrow hbx hb
            go_wp2_with fail
            go_roundw
            case rel => exact ⟨i + 1, hin, by go_num, by rw [E.out]; exact Hrow.out, Hbx.out⟩
            case measure => simp [intOf]; omega
          · rw [hb] at hbb
            have E : Hid (setTo m (i + 1) = setTo m i ++ [(i : Int)]) := setTo_yes hb
            clear hrow hbx hb
            go_wp2_with (first | (at_builtin; refine wpList_push_one _ _ rfl _ _ rfl wo.heap.size _ _ _ rfl Hrow.out (by omega) Hbx.out.size _ rfl rfl ?_; intro v1 w1 ho1 hb1))
            go_roundw
            case rel => exact ⟨i + 1, hin, by go_num, by rw [E.out, List.length_append]; exact ho1, Hbx.out.trans hb1⟩
            case measure => simp [intOf]; omega
        · have e : i = n := by omega
          subst e
          have hrl := setTo_len m i
          obtain ⟨ao, cap, e, hi2⟩ := hrow.form
          subst e
          have HI := Lib.hid hi2
          have Hbx := Lib.hid hbx
          clear hrow hbx hi2
          by_cases hlk : (setTo m i).length = k
          · have hk1 : (((setTo m i).length : Int) == (k : Int)) = true := by simp [hlk]
            have E := Lib.hid (minTo_yes (t := t) hlk)
            have HLK := Lib.hid hlk
            obtain ⟨z, hz⟩ : ∃ z, det k (someT t (setTo m i) (setTo m i)) = z := ⟨_, rfl⟩
            have HZ := Lib.hid hz
            rw [hz, hs.out] at E
            clear hlk hz
            go_wp2_with (first
              | (go_at_call 97; refine (sPart_any _ _ _ t _ _ _ (setTo m i) i _ (H.out.keep ((Hbl.out.mono (Nat.le_refl _)).trans (Hbx.out.mono Hbl.out.size))) HI.out HR.out (set_idx m i) (set_idx m i) (by omega)).mono ?_; rintro e w4 ⟨v4, rfl, ho4, hb4⟩; obtain ⟨ao4, cap4, rfl, hi4⟩ := ho4.form; have Hi4 := Lib.hid hi4; have Hb4 := Lib.hid (Hbx.out.trans (hb4.mono Hbx.out.size)); clear ho4 hb4 hi4)
              | (go_at_call 96; refine (sDet_any k _ _ _ (someT t (setTo m i) (setTo m i)) _ HLK.out (by omega) Hi4.out (by have h := someT_rowsLen t (setTo m i) (setTo m i); rw [HLK.out] at h; exact h)).mono ?_; rw [HZ.out]; rintro e w5 ⟨rfl, hb5⟩; have Hb5 := Lib.hid (Hb4.out.trans (hb5.mono Hb4.out.size)); clear hb5))
            go_roundw
            case rel => exact ⟨m + 1, _, hlt, by go_num, rfl, E.out, Hbl.out.trans (Hb5.out.mono Hbl.out.size)⟩
            case measure => simp [intOf]; omega
          · have hk1 : (((setTo m i).length : Int) == (k : Int)) = false := by simp; omega
            have E := Lib.hid (minTo_no (t := t) hlk)
            rw [hs.out] at E
            clear hlk
            go_wp2_with fail
            go_roundw
            case rel => exact ⟨m + 1, _, hlt, by go_num, rfl, E.out, Hbl.out.trans (Hbx.out.mono Hbl.out.size)⟩
            case measure => simp [intOf]; omega
    · have hd : decide ((m : Int) < wrap64 (2 ^ n)) = false := by rw [hp]; simp only [decide_eq_false_iff_not]; omega
      have e : m = 2 ^ n := by omega
      have HS : Hid (s = minTo t n k (2 ^ n)) := by show _ = _; rw [← e]; exact hs.out.symm
      clear hp e hs
      go_wp2_with fail
      go_ret
      exact ⟨ret_int HS.out, Hbl.out⟩
end Go.Proofs.YtbjoblgklcilpaaGreat

namespace Go.Proofs.YtbjoblgklcilpaaGreat
open Go.RowKit
set_option linter.all false
set_option maxRecDepth 20000 in
set_option maxHeartbeats 3200000 in
theorem sCut_any (p : Option Addr) (n c : Nat) (xs : List Int) (w : World) (h : Ints w p n xs) (hc : n ≤ c) (hn : n ≤ 1048576) :
    Calls Tryz.prog 70 #[.slice p n c] w fun e w' => ∃ v, e = .returned v ∧ OInts w' w.heap.size v (cutZ xs).length (cutZ xs) ∧ Below w.heap.size w w' := by
  have HL : Hid (xs.length = n) := h.1
  have H := Lib.hid h
  have Hem := Lib.hid (OInts.empty w w.heap.size (Nat.le_refl _))
  have Hb0 : Hid (Below w.heap.size w (w.alloc (.cells #[] 3))) := (Below.refl _ _).alloc (Nat.le_refl _) _
  clear h
  go_enter Tryz.func70, Tryz.ntmps70
  go_wp2_with fail
  go_loop [3] (fun x => ∃ k : Nat, k ≤ n ∧ x = .int .i64 k ∧ Hid (cutN xs k = cutN xs n)) (fun x => (intOf x).toNat)
  case atStart => exact ⟨n, Nat.le_refl _, rfl, rfl⟩
  case round =>
    obtain ⟨k, hk, rfl, hr⟩ := hrel
    have fin : ∀ j, j ≤ n → cutN xs n = j → cutZ xs = xs.take j := by intro j _ e; unfold cutZ; rw [HL.out, e]
    rcases k with _ | k
    · have HZ := Lib.hid (fin 0 (Nat.zero_le _) hr.out.symm)
      have hs := slice_to p n c 0 (by omega)
      have HT := Lib.hid (H.out.take (k := 0) (by omega))
      have hl0 : Hid ((cutZ xs).length = 0) := by show _ = _; rw [HZ.out]; simp
      clear hr fin
      go_wp2_with (first | (at_builtin; refine wpList_app_ints _ rfl _ _ rfl w.heap.size _ 0 [] rfl Hem.out p 0 _ (xs.take 0) rfl (HT.out.keep Hb0.out) (by omega) (by exact Hb0.out.size) ?_; intro v1 w1 ho1 hg1; have Ho1 := Lib.hid ho1; have Hb1 := Lib.hid (Hb0.out.grown hg1 Hb0.out.size (fun k hk => (Hem.out.ownlt k hk).1)); clear ho1 hg1))
      go_ret
      rw [hl0.out, HZ.out]
      exact ⟨_, rfl, by have h := Ho1.out; simpa using h, Hb1.out⟩
    · obtain ⟨b, o, x, rfl, hcx, hx⟩ := H.out.at_ (k := k) (by omega)
      have HST := Lib.hid (cutN_zero hx.out hr.out)
      have hcast : ((k + 1 : Nat) : Int) = (k : Int) + 1 := by omega
      clear hx hr
      by_cases h0 : x = 0
      · have HN := Lib.hid (HST.out.1 h0)
        have h1 : (x == 0) = true := by simp [h0]
        clear HST h0 fin
        rw [hcast]
        clear hcast
        go_wp2_with fail
        go_round
        case rel => exact ⟨k, by omega, by go_num, HN.out⟩
        case measure => (simp [intOf] <;> omega)
      · have HN := Lib.hid (HST.out.2 h0)
        have h1 : (x == 0) = false := by simp [h0]
        have HZ := Lib.hid (fin (k + 1) hk HN.out.symm)
        have hs := slice_to (some ⟨b, o, none⟩) n c (k + 1) (by omega)
        have HT := Lib.hid (H.out.take (k := k + 1) hk)
        have hl : (xs.take (k + 1)).length = k + 1 := by rw [List.length_take, HL.out]; omega
        have HLL : Hid ((cutZ xs).length = k + 1) := by show _ = _; rw [HZ.out, hl]
        clear HST h0 fin hl HN
        rw [hcast]
        rw [hcast] at hs
        clear hcast
        go_wp2_with (first | (at_builtin; refine wpList_app_ints _ rfl _ _ rfl w.heap.size _ 0 [] rfl Hem.out (some ⟨b, o, none⟩) (k + 1) _ (xs.take (k + 1)) rfl (HT.out.keep Hb0.out) (by omega) (by exact Hb0.out.size) ?_; intro v1 w1 ho1 hg1; have Ho1 := Lib.hid ho1; have Hb1 := Lib.hid (Hb0.out.grown hg1 Hb0.out.size (fun k hk => (Hem.out.ownlt k hk).1)); clear ho1 hg1))
        go_ret
        rw [HLL.out, HZ.out]
        exact ⟨_, rfl, by have h := Ho1.out; simpa using h, Hb1.out⟩
end Go.Proofs.YtbjoblgklcilpaaGreat

namespace Go.Proofs.YtbjoblgklcilpaaGreat
open Go.RowKit
set_option linter.all false
set_option maxHeartbeats 1600000 in
theorem sIsSmall_any (ao : Option Addr) (n cap : Nat) (xss : List (List Int)) (w : World) (h : Intss w ao n xss) :
    Calls Tryz.prog 39 #[.slice ao n cap] w fun e w' => e = .returned (.bool (isSmallM xss)) ∧ w = w' := by
  have hm := h.2.1
  have HL := Lib.hid h.1
  have H := Lib.hid h
  have hg0 : Hid (isSmallM xss = (isMat xss && (!decide (4 < n) && le9T xss))) := by show isSmallM xss = _; unfold isSmallM; rw [h.1]
  clear h
  go_enter Tryz.func39, Tryz.ntmps39
  go_wp2
  go_loop [3] (fun i => ∃ k : Nat, k ≤ n ∧ i = .int .i64 k ∧ Hid (le9T (xss.drop k) = le9T xss)) (fun i => n - (intOf i).toNat)
  case atStart => exact ⟨0, Nat.zero_le _, rfl, rfl⟩
  case round =>
    obtain ⟨k, hk, rfl, hr⟩ := hrel
    by_cases hlt : k < n
    · obtain ⟨b, o, ai, ci, r, rfl, hcell, hrow, hget⟩ := H.out.at_ hlt
      have hrb := hrow.2.1
      have Hst := Lib.hid (le9T_step hget.out hr.out)
      have Hrow := Lib.hid hrow
      clear hrow hr H
      go_wp2_with fail
      go_loop [4] (fun i => ∃ j : Nat, j ≤ r.length ∧ i = .int .i64 j ∧ Hid (le9 (r.drop j) = le9 r)) (fun i => r.length - (intOf i).toNat)
      case atStart => exact ⟨0, Nat.zero_le _, rfl, rfl⟩
      case round =>
        obtain ⟨j, hj, rfl, hrj⟩ := hrel
        by_cases hjn : j < r.length
        · obtain ⟨b', o', x, rfl, hcell', hget'⟩ := Hrow.out.at_ hjn
          have Hsj := Lib.hid (le9_step hget'.out hrj.out)
          clear hrj Hrow
          by_cases h9 : 9 < x
          · have hr1 : Hid _ := Hst.out.1 (Hsj.out.1 h9)
            clear Hst Hsj
            go_wp2_with fail
            go_ret
            exact ⟨ret_bool (by rw [hg0.out, hr1.out]; simp), rfl⟩
          · have hr1 : Hid _ := Hsj.out.2 h9
            clear Hst Hsj
            go_wp2_with fail
            go_round
            case rel => exact ⟨j + 1, hjn, by go_num, hr1⟩
            case measure => simp [intOf]; omega
        · have hr1 : Hid _ := Hst.out.2 (by have := hrj.out; rw [drop_all r j (by omega)] at this; exact this.symm)
          clear Hst hrj Hrow
          go_wp2_with fail
          go_round
          case rel => exact ⟨k + 1, hlt, by go_num, hr1⟩
          case measure => simp [intOf]; omega
    · rw [drop_all xss k (by have := HL.out; omega)] at hr
      have hr1 : Hid _ := hr.out.symm
      clear hr
      cases hmat : isMat xss
      · have hg : Hid (isSmallM xss = false) := by show isSmallM xss = _; rw [hg0.out, hmat]; rfl
        go_wp2_with (first | (go_at_call 68; refine (sIsMatrix_any _ _ _ xss _ H.out).mono ?_; rintro e w' ⟨rfl, rfl⟩))
        go_ret
        exact ⟨ret_bool hg.out.symm, rfl⟩
      · have hg : Hid (isSmallM xss = decide ((n : Int) ≤ 4)) := by
          show isSmallM xss = _
          rw [hg0.out, hmat, hr1.out]
          by_cases h4 : n ≤ 4
          · have e1 : ¬ 4 < n := by omega
            have e2 : (n : Int) ≤ 4 := by omega
            simp [e1, e2, le9T]
          · have e1 : 4 < n := by omega
            have e2 : ¬ (n : Int) ≤ 4 := by omega
            simp [e1, e2]
        go_wp2_with (first | (go_at_call 68; refine (sIsMatrix_any _ _ _ xss _ H.out).mono ?_; rintro e w' ⟨rfl, rfl⟩))
        go_ret
        exact ⟨ret_bool hg.out.symm, rfl⟩
end Go.Proofs.YtbjoblgklcilpaaGreat

namespace Go.Proofs.YtbjoblgklcilpaaGreat
open Go.RowKit
set_option linter.all false
set_option maxRecDepth 20000 in
set_option maxHeartbeats 3200000 in
theorem sTurned_any (p : Option Addr) (n c : Nat) (m : List (List Int)) (w : World) (h : Intss w p n m) :
    Calls Tryz.prog 41 #[.slice p n c] w fun e w' => ∃ v, e = .returned v ∧ OInts w' w.heap.size v (turnedP m).length (turnedP m) ∧ Below w.heap.size w w' := by
  have HL : Hid (m.length = n) := h.1
  have Hem := Lib.hid (OInts.empty w w.heap.size (Nat.le_refl _))
  have Hb0 : Hid (Below w.heap.size w (w.alloc (.cells #[] 3))) := (Below.refl _ _).alloc (Nat.le_refl _) _
  have H := Lib.hid h
  clear h
  cases hs : isSmallM m
  · have hg : Hid (turnedP m = []) := by show _ = _; simp [turnedP, hs]
    rw [hg.out]
    go_enter Tryz.func41, Tryz.ntmps41
    go_wp2_with (first | (go_at_call 39; refine (sIsSmall_any _ _ _ m _ H.out).mono ?_; rintro e w' ⟨rfl, rfl⟩))
    go_ret
    exact ⟨_, rfl, Hem.out, Hb0.out⟩
  have hsm := isSmallM_mat hs
  have HR := Lib.hid (isMat_rowsLen hsm.1 HL.out)
  have hn4 : n ≤ 4 := by have := HL.out; omega
  have HG : Hid (turnedP m = cutZ (polyL m)) := by show _ = _; simp [turnedP, hs]
  have HPL : Hid ((polyL m).length = n + 1) := by show _ = _; rw [polyL_len, HL.out]
  have HS := Lib.hid hs
  rw [HG.out]
  clear hsm hs
  go_enter Tryz.func41, Tryz.ntmps41
  go_wp2_with (first | (go_at_call 39; refine (sIsSmall_any _ _ _ m _ H.out).mono ?_; rw [HS.out]; rintro e w' ⟨rfl, rfl⟩))
  go_loopw [3, 4, 5] (fun v s x wr => ∃ (k : Nat) (g : Int), k ≤ n + 1 ∧ x = .int .i64 k ∧ s = .int .i64 g ∧ -1 ≤ g ∧ g ≤ 1 ∧ Hid (sg k = g) ∧ OInts wr w.heap.size v k ((polyL m).take k) ∧ Below w.heap.size w wr) (fun _ _ x _ => n + 1 - (intOf x).toNat)
  case atStart => exact ⟨0, 1, Nat.zero_le _, rfl, rfl, by omega, by omega, rfl, by simpa using Hem.out, Hb0.out⟩
  case round =>
    obtain ⟨k, g, hk, rfl, rfl, hg1, hg2, hg, hown, hbl⟩ := hrel
    obtain ⟨ao5, cap5, rfl, hi5⟩ := hown.form
    have hcap := hown.capLe rfl
    have Hown := Lib.hid hown
    have Hbl := Lib.hid hbl
    clear hown hbl
    by_cases hlt : k < n + 1
    · have hle : k ≤ n := by omega
      have hd : decide ((k : Int) ≤ (n : Int)) = true := decide_eq_true (by omega)
      have hgx := polyL_get (t := m) (k := k) (by rw [HL.out]; exact hlt)
      have HP : Hid ((polyL m)[k]? = some (wrap64 (g * minTo m n k (2 ^ n)))) := by show _ = _; rw [hgx, HL.out]; unfold pE; rw [hg.out]
      have HSG : Hid (sg (k + 1) = -g) := by show _ = _; rw [sg_next, hg.out]
      obtain ⟨z, hz⟩ : ∃ z, minTo m n k (2 ^ n) = z := ⟨_, rfl⟩
      have HZ := Lib.hid hz
      rw [hz] at HP
      clear hgx hg hz hi5
      go_wp2_with (first
        | (go_at_call 69; refine (sMin7_any _ _ _ m k _ (H.out.keep (Hbl.out.mono (Nat.le_refl _))) HR.out hn4 (by omega)).mono ?_; rw [HZ.out]; rintro e w3 ⟨rfl, hb3⟩; have Hb3 := Lib.hid (Hbl.out.trans (hb3.mono Hbl.out.size)); have HO3 := Lib.hid (Hown.out.keep hb3); clear hb3)
        | (at_builtin; refine wpList_push_one _ _ rfl _ _ rfl w.heap.size _ _ _ rfl HO3.out (by omega) Hb3.out.size _ rfl rfl ?_; intro v1 w4 ho1 hb4; have Ho1 := Lib.hid ho1; have Hb4 := Lib.hid hb4; clear ho1 hb4))
      go_roundw
      case rel => exact ⟨k + 1, -g, hlt, by go_num, rfl, by omega, by omega, HSG.out, by have h := Ho1.out; rw [push_take HP.out] at h; exact h, Hb3.out.trans Hb4.out⟩
      case measure => simp [intOf]; omega
    · have e : k = n + 1 := by omega
      have hd : decide ((k : Int) ≤ (n : Int)) = false := decide_eq_false (by omega)
      subst e
      have HI : Hid (Ints wr ao5 (n + 1) (polyL m)) := by
        have h := hi5
        rw [List.take_of_length_le (by rw [HPL.out]; omega)] at h
        exact h
      clear hi5 Hown
      go_wp2_with (first
        | (go_at_call 70; refine (sCut_any _ _ _ (polyL m) _ HI.out hcap (by omega)).mono ?_; rintro e w5 ⟨v5, rfl, ho5, hb5⟩; have HO5 := Lib.hid ho5; have HB5 := Lib.hid (step2 Hbl.out hb5); clear ho5 hb5))
      go_ret
      exact ⟨_, rfl, HO5.out.mono Hbl.out.size, HB5.out⟩
end Go.Proofs.YtbjoblgklcilpaaGreat

namespace Go.Proofs.YtbjoblgklcilpaaGreat
open Go.RowKit
set_option linter.all false
set_option maxRecDepth 20000 in
set_option maxHeartbeats 3200000 in
theorem iPicked_any (p : Option Addr) (n c : Nat) (t : List (List Int)) (p1 : Option Addr) (n1 c1 : Nat) (rs : List Int) (m : Nat) (w : World)
    (h : Intss w p n t) (h1 : Ints w p1 n1 rs) (hr : RowsLen t m) (hi1 : Idx n rs) (hi2 : Idx m rs) (hn1 : n1 ≤ 1048576) :
    Calls Tryz.prog 82 #[.slice p n c, .slice p1 n1 c1] w fun e w' => ∃ v, e = .returned v ∧ OIntss w' w.heap.size v n1 (someT t rs rs) ∧ Below w.heap.size w w' := by
  have H := Lib.hid h
  have H1 := Lib.hid h1
  have HR := Lib.hid hr
  have HI1 := Lib.hid hi1
  have HI2 := Lib.hid hi2
  have HL1 : Hid (rs.length = n1) := h1.1
  clear h h1 hr hi1 hi2
  go_enter Tryz.func82, Tryz.ntmps82
  go_wp2_with fail
  go_loopw [5, 14] (fun v i wr => ∃ k : Nat, k ≤ n1 ∧ i = .int .i64 k ∧ OIntss wr w.heap.size v k ((someT t rs rs).take k) ∧ Below w.heap.size w wr) (fun _ i _ => n1 - (intOf i).toNat)
  case atStart => exact ⟨0, Nat.zero_le _, rfl, OIntss.empty w _ (Nat.le_refl _), (Below.refl _ _).alloc (Nat.le_refl _) _⟩
  case round =>
    obtain ⟨i, hi, rfl, hown, hbl⟩ := hrel
    obtain ⟨wo, rfl⟩ : ∃ wo : World, wo = wr := ⟨_, rfl⟩
    by_cases hlt : i < n1
    · obtain ⟨b1, o1, x, rfl, hcx, hgx⟩ := H1.out.at_ (k := i) (by have := HL1.out; omega)
      obtain ⟨a, rfl, ha⟩ := HI1.out.get hgx.out
      obtain ⟨b0, o0, a0, c0, r, rfl, hcr, hrow, hgr⟩ := H.out.at_ ha
      have HRL : Hid (r.length = m) := HR.out _ _ hgr.out
      have HG := Lib.hid (someT_get (cs := rs) hgx.out hgr.out)
      have q0 := (hbl.cell (World.block_lt_of_cell? w _ hcx)).trans hcx
      have Hcr := Lib.hid hcr
      have Hrow := Lib.hid hrow
      have Hown := Lib.hid hown
      have Hbl := Lib.hid hbl
      clear hown hbl hcx hcr hrow
      go_wp2_with fail
      clear q0
      go_loopw [8, 21] (fun v' x wx => ∃ j : Nat, j ≤ n1 ∧ x = .int .i64 j ∧ OInts wx wo.heap.size v' j ((pickRow r rs).take j) ∧ Below wo.heap.size wo wx) (fun _ x _ => n1 - (intOf x).toNat)
      case atStart => exact ⟨0, Nat.zero_le _, rfl, OInts.empty wo _ (Nat.le_refl _), (Below.refl _ _).alloc (Nat.le_refl _) _⟩
      case round =>
        obtain ⟨j, hj, rfl, hline, hbx⟩ := hrel
        have hbw := Hbl.out.trans (hbx.mono Hbl.out.size)
        by_cases hjn : j < n1
        · obtain ⟨b3, o3, y, eb, hcy, hgy⟩ := H1.out.at_ (k := j) (by have := HL1.out; omega)
          injection eb with eb
          injection eb with eb1 eb2
          subst eb1
          subst eb2
          obtain ⟨e, rfl, he⟩ := HI2.out.get hgy.out
          obtain ⟨b4, o4, z, rfl, hcz, hgz⟩ := Hrow.out.at_ (k := e) (by have := HRL.out; omega)
          have HE := Lib.hid (pickRow_get hgy.out hgz.out)
          have er : e < r.length := by have := HRL.out; omega
          have q2 := (hbw.cell (World.block_lt_of_cell? w _ Hcr.out)).trans Hcr.out
          have q3 := (hbw.cell (World.block_lt_of_cell? w _ hcy)).trans hcy
          have q4 := (hbw.cell (World.block_lt_of_cell? w _ hcz)).trans hcz
          obtain ⟨ao5, cap5, e5, _⟩ := hline.form
          subst e5
          have Hline := Lib.hid hline
          have Hbx := Lib.hid hbx
          clear hline hbx hbw hcy hcz
          go_wp2_with (first | (at_builtin; refine wpList_push_one _ _ rfl _ _ rfl wo.heap.size _ _ _ rfl Hline.out (by omega) Hbx.out.size _ rfl rfl ?_; intro v1 w3 ho1 hb1; have Ho1 := Lib.hid ho1; have Hb3 := Lib.hid hb1; clear ho1 hb1))
          go_roundw
          case rel => exact ⟨j + 1, hjn, by go_num, by have ho1 := Ho1.out; rw [push_take HE.out] at ho1; exact ho1, Hbx.out.trans Hb3.out⟩
          case measure => (simp [intOf] <;> omega)
        · have hjn' : j = n1 := by omega
          subst hjn'
          rw [List.take_of_length_le (by rw [pickRow_len]; have := HL1.out; omega)] at hline
          obtain ⟨ao6, cap6, e6, _⟩ := hline.form
          subst e6
          have Hline := Lib.hid hline
          have Hbx := Lib.hid hbx
          clear hline hbx hbw
          go_wp2_with (first | (at_builtin; refine wpList_push_fresh _ _ wo rfl _ _ rfl w.heap.size _ i _ rfl Hown.out (by omega) Hbl.out.size Hbx.out _ _ Hline.out _ (by rfl) rfl ?_; intro v3 w3 ho3 hb3 _))
          go_roundw
          case rel =>
            rw [push_take HG.out] at ho3
            exact ⟨i + 1, hlt, by go_num, ho3, Hbl.out.trans hb3⟩
          case measure => (simp [intOf] <;> omega)
    · have e : i = n1 := by omega
      subst e
      rw [List.take_of_length_le (by rw [someT_len]; have := HL1.out; omega)] at hown
      have Hown := Lib.hid hown
      clear hown
      go_wp2_with fail
      go_ret
      exact ⟨_, rfl, Hown.out, hbl⟩
end Go.Proofs.YtbjoblgklcilpaaGreat

namespace Go.Proofs.YtbjoblgklcilpaaGreat
open Go.RowKit
set_option linter.all false
set_option maxHeartbeats 3200000 in
theorem iWithout_any (p : Option Addr) (n c : Nat) (t : List (List Int)) (i j m : Nat) (w : World) (h : Intss w p n t) (hr : RowsLen t m) (hj : j < m) (hm : m ≤ 1048576) (hn : n ≤ 1048576) :
    Calls Tryz.prog 105 #[.slice p n c, .int .i64 i, .int .i64 j] w fun e w' => ∃ v, e = .returned v ∧ OIntss w' w.heap.size v (minorT t i j).length (minorT t i j) ∧ Below w.heap.size w w' := by
  have H := Lib.hid h
  have HL : Hid (t.length = n) := h.1
  have HR := Lib.hid hr
  clear h hr
  go_enter Tryz.func105, Tryz.ntmps105
  go_wp2_with fail
  go_loopw [7, 13] (fun v x wr => ∃ k : Nat, k ≤ n ∧ x = .int .i64 k ∧ OIntss wr w.heap.size v (minorTo t i j k).length (minorTo t i j k) ∧ Below w.heap.size w wr) (fun _ x _ => n - (intOf x).toNat)
  case atStart => exact ⟨0, Nat.zero_le _, rfl, by rw [minorTo_zero]; exact OIntss.empty w _ (Nat.le_refl _), (Below.refl _ _).alloc (Nat.le_refl _) _⟩
  case round =>
    obtain ⟨k, hk, rfl, hown, hbl⟩ := hrel
    obtain ⟨wo, rfl⟩ : ∃ wo : World, wo = wr := ⟨_, rfl⟩
    by_cases hlt : k < n
    · obtain ⟨b1, o1, a1, c1, r, rfl, hca, hrow, hget, hcap⟩ := H.out.cap_ hlt
      have h1 := (hbl.cell (World.block_lt_of_cell? w _ hca)).trans hca
      have hrl : r.length = m := HR.out _ _ hget.out
      by_cases hki : k = i
      · subst hki
        have e : minorTo t k j (k + 1) = minorTo t k j k := minorTo_skip (by have := HL.out; omega)
        rw [← e] at hown
        have Hown := Lib.hid hown
        have Hbl := Lib.hid hbl
        have hne : ((k : Int) != (k : Int)) = false := by simp
        clear hown hbl hca hrow hrl e
        go_wp2_with fail
        go_roundw
        case rel => exact ⟨k + 1, hlt, by go_num, Hown.out, Hbl.out⟩
        case measure => simp [intOf]; omega
      · have hne : ((k : Int) != (i : Int)) = true := by simp; omega
        have e : minorTo t i j (k + 1) = minorTo t i j k ++ [cut j r] := minorTo_step hget.out hki
        have Hown := Lib.hid hown
        have Hbl := Lib.hid hbl
        have hjr : j < r.length := by omega
        have hjr2 : j ≤ r.length := by omega
        have hjr3 : j + 1 ≤ r.length := by omega
        have hjc : j ≤ c1 := by omega
        have hjc3 : j + 1 ≤ c1 := by omega
        have hw1 : IntKind.i64.wrap ((j : Int) + 1) = (j : Int) + 1 := IntWalk.i64_in _ (by omega)
        have hw2 : 0 ≤ (j : Int) + 1 := by omega
        have hw3 : ((j : Int) + 1).toNat = j + 1 := by omega
        have Hrow := Lib.hid hrow
        have E := Lib.hid e
        have HRL := Lib.hid hrl
        clear hown hbl hca hki hrow e hrl
        have Hcap := Lib.hid hcap
        obtain ⟨A2, hA2⟩ : ∃ A2, (if c1 = j + 1 then a1 else a1.map (·.add (j + 1))) = A2 := ⟨_, rfl⟩
        have Hd : Hid (Ints wo A2 (r.length - (j + 1)) (r.drop (j + 1))) := by rw [← hA2]; exact (Hrow.out.keep (Hbl.out.mono (Nat.le_refl _))).drop hjr3 hcap
        have Ht : Hid (Ints wo a1 j (r.take j)) := (Hrow.out.keep (Hbl.out.mono (Nat.le_refl _))).take hjr2
        have hs1 := slice_to a1 r.length c1 j hjc
        have hs2 := slice_from a1 r.length c1 j hjr3
        rw [hA2] at hs2
        have HA2 := Lib.hid hA2
        clear hcap hA2 hjc hjc3 hjr hjr2 hjr3
        go_wp2_with fail
        have hw0 : Below wo.heap.size wo (wo.alloc (.cells #[] 3)).drew := ((Below.refl _ _).alloc (Nat.le_refl _) _).drew
        have Hw0 := Lib.hid hw0
        have ho0 : Hid (OInts (wo.alloc (.cells #[] 3)).drew wo.heap.size (.slice (some ⟨wo.heap.size, 0, none⟩) 0 0) 0 []) := (OInts.empty wo wo.heap.size (Nat.le_refl _)).drewN 1
        have hjm : j ≤ 1048576 := by omega
        have hrm : r.length ≤ 1048576 := by have := HRL.out; omega
        have hjr4 : j + 1 ≤ r.length := by have := HRL.out; omega
        have hml := minorTo_len (t := t) (i := i) (j := j) (k := k)
        clear hw0
        go_region_law (first
          | (refine step_of_wp rfl (wp_app_ints _ (.tmp 22) (.tmp 25) rfl wo.heap.size _ 0 [] rfl ho0.out a1 j _ (r.take j) rfl (Ht.out.keep Hw0.out) (by omega) (by exact Hw0.out.size) ?_); intro v1 w1 ho1 hg1; rw [Nat.zero_add, List.nil_append] at ho1; have Ho1 := Lib.hid ho1; have Hb1 : Hid (Below wo.heap.size wo w1) := Hw0.out.grown hg1 Hw0.out.size (fun k hk => (ho0.out.ownlt k hk).1); clear ho1 hg1)
          | (refine step_of_wp rfl (wp_app_ints _ (.tmp 26) (.tmp 30) rfl wo.heap.size _ _ _ rfl Ho1.out A2 _ _ (r.drop (j + 1)) rfl (Hd.out.keep Hb1.out) (by omega) (by exact Hb1.out.size) ?_); intro v2 w2 ho2 hg2; obtain ⟨ao2, cap2, rfl, _⟩ := ho2.form; have Ho2 := Lib.hid ho2; have Hb2 : Hid (Below wo.heap.size wo w2) := Hb1.out.grown hg2 Hb1.out.size (fun k hk => (Ho1.out.ownlt k hk).1); clear ho2 hg2)
          | (refine step_of_wp rfl (wp_push_fresh _ _ wo (.tmp 21) (.tmp 32) rfl w.heap.size _ _ _ rfl Hown.out (by omega) Hbl.out.size Hb2.out _ _ Ho2.out _ (by rfl) rfl ?_); intro v3 w3 ho3 hb3 _; have Ho3 := Lib.hid ho3; have Hb3 := Lib.hid hb3; clear ho3 hb3))
        go_wp2_with fail
        go_roundw
        case rel =>
          refine ⟨k + 1, hlt, by go_num, ?_, Hbl.out.trans Hb3.out⟩
          have h9 := Ho3.out
          rw [E.out, List.length_append]
          exact h9
        case measure => simp [intOf]; omega
    · go_wp2_with fail
      go_ret
      rw [minorTo_end (by have := HL.out; omega)] at hown
      exact ⟨_, rfl, hown, hbl⟩
end Go.Proofs.YtbjoblgklcilpaaGreat

namespace Go.Proofs.YtbjoblgklcilpaaGreat
open Go.RowKit
set_option linter.all false
theorem iWithout0_any (p : Option Addr) (n c : Nat) (t : List (List Int)) (j m : Nat) (w : World) (h : Intss w p n t) (hr : RowsLen t m) (hj : j < m) (hm : m ≤ 1048576) (hn : n ≤ 1048576) :
    Calls Tryz.prog 105 #[.slice p n c, .int .i64 0, .int .i64 j] w fun e w' => ∃ v, e = .returned v ∧ OIntss w' w.heap.size v (minorT t 0 j).length (minorT t 0 j) ∧ Below w.heap.size w w' := by
  have := iWithout_any p n c t 0 j m w h hr hj hm hn
  simpa using this

set_option maxHeartbeats 1600000 in
theorem iDet_any (m : Nat) : ∀ (p : Option Addr) (n c : Nat) (t : List (List Int)) (w : World), n = m → m ≤ 9 → Intss w p n t → RowsLen t m →
    Calls Tryz.prog 81 #[.slice p n c] w fun e w' => e = .returned (.int .i64 (det m t)) ∧ Below w.heap.size w w' := by
  induction m with
  | zero =>
    intro p n c t w hn _ _ _
    subst hn
    go_enter Tryz.func81, Tryz.ntmps81
    go_wp2_with fail
    go_ret
    exact ⟨rfl, Below.refl _ _⟩
  | succ m ih =>
    intro p n c t w hn hm h hr
    subst hn
    have HL : Hid (t.length = m + 1) := h.1
    obtain ⟨b0, o0, a0, c0, r0, rfl, hc0, hrow0, hget0⟩ := h.at_ (k := 0) (by omega)
    rw [Nat.add_zero] at hc0
    have HR0 : Hid (r0.length = m + 1) := hr _ _ hget0.out
    have hl1 : r0.length ≤ m + 1 := by have := HR0.out; omega
    have hl2 : m + 1 ≤ r0.length := by have := HR0.out; omega
    have HD : Hid (det (m + 1) t = dloop (det m) t r0 0 0 1) := by
      show det (m + 1) t = _
      have e : t.getD 0 [] = r0 := by rw [List.getD, hget0.out]; rfl
      unfold det
      rw [e]
    have hne : ((m : Int) + 1 == 0) = false := by simp; omega
    have H := Lib.hid h
    have HRL := Lib.hid hr
    have Hrow := Lib.hid hrow0
    have IH := Lib.hid ih
    clear h hr hrow0 ih
    go_enter Tryz.func81, Tryz.ntmps81
    go_wp2_with fail
    go_loopw [3, 4, 14] (fun s g i wr => ∃ (j : Nat) (sv gv : Int), j ≤ r0.length ∧ i = .int .i64 j ∧ s = .int .i64 sv ∧ g = .int .i64 gv ∧ -1 ≤ gv ∧ gv ≤ 1 ∧ Below w.heap.size w wr ∧ Hid (dloop (det m) t (r0.drop j) j sv gv = det (m + 1) t)) (fun _ _ i _ => (m + 1) - (intOf i).toNat)
    case atStart => exact ⟨0, 0, 1, Nat.zero_le _, rfl, rfl, rfl, by omega, by omega, Below.refl _ _, HD.out.symm⟩
    case round =>
      obtain ⟨j, sv, gv, hj, rfl, rfl, rfl, hg1, hg2, hbl, hd⟩ := hrel
      by_cases hlt : j < r0.length
      · obtain ⟨b1, o1, x, rfl, hcx, hgetx⟩ := Hrow.out.at_ hlt
        have hcx' := (hbl.cell (World.block_lt_of_cell? w _ hcx)).trans hcx
        by_cases hx0 : x = 0
        · subst hx0
          have hd1 : Hid _ := dloop_zero hgetx.out hd.out
          clear hcx hd
          go_wp2_with fail
          go_roundw
          case rel => exact ⟨j + 1, sv, -gv, hlt, by go_num, rfl, rfl, by omega, by omega, hbl, hd1⟩
          case measure => simp [intOf]; omega
        · have hd1 : Hid _ := dloop_step hgetx.out hx0 hd.out
          have hne2 : (x != 0) = true := by simp [hx0]
          clear hcx hd hx0
          have Hbl := Lib.hid hbl
          clear hbl
          go_wp2_with fail
          refine (iWithout0_any _ _ _ t j (m + 1) _ (H.out.keep (Hbl.out.mono (Nat.le_refl _))) HRL.out (by omega) (by omega) (by omega)).mono ?_
          rintro e w1 ⟨v1, rfl, ho1, hb1⟩
          obtain ⟨ao1, cap1, rfl, hi1⟩ := ho1.form
          have hml : (minorT t 0 j).length = m := by rw [minorT_len (by have := HL.out; omega), HL.out]; omega
          have Hi1 := Lib.hid hi1
          have Hb1 := Lib.hid (Hbl.out.trans (hb1.mono Hbl.out.size))
          have HML := Lib.hid hml
          clear ho1 hb1 hi1 hml
          go_wp2_with fail
          refine (IH.out _ _ _ (minorT t 0 j) _ HML.out (by omega) Hi1.out (minorT_rowsLen HRL.out (by omega))).mono ?_
          rintro e w2 ⟨rfl, hb2⟩
          have Hb2 := Lib.hid (Hb1.out.trans (hb2.mono Hb1.out.size))
          clear hb2
          go_wp2_with fail
          go_roundw
          case rel => exact ⟨j + 1, _, -gv, hlt, by go_num, rfl, rfl, by omega, by omega, Hb2.out, hd1⟩
          case measure => simp [intOf]; omega
      · go_wp2_with fail
        go_ret
        exact ⟨ret_int (dloop_end (by omega) hd.out), hbl⟩
end Go.Proofs.YtbjoblgklcilpaaGreat

namespace Go.Proofs.YtbjoblgklcilpaaGreat
open Go.RowKit
set_option linter.all false
set_option maxHeartbeats 3200000 in
theorem iSets_any (n k : Nat) (w : World) (hn : n ≤ 4) (hk : k ≤ 1048576) :
    Calls Tryz.prog 80 #[.int .i64 n, .int .i64 k] w fun e w' => ∃ v, e = .returned v ∧ OIntss w' w.heap.size v (sets n k).length (sets n k) ∧ Below w.heap.size w w' := by
  have h2n : 2 ^ n ≤ 16 := Nat.pow_le_pow_right (n := 2) (by omega) hn
  go_enter Tryz.func80, Tryz.ntmps80
  go_wp2_with fail
  go_loopw [5, 12] (fun v x wr => ∃ m : Nat, m ≤ 2 ^ n ∧ x = .int .i64 m ∧ OIntss wr w.heap.size v (setsTo n k m).length (setsTo n k m) ∧ Below w.heap.size w wr) (fun _ x _ => 2 ^ n - (intOf x).toNat)
  case atStart => exact ⟨0, Nat.zero_le _, rfl, OIntss.empty w _ (Nat.le_refl _), (Below.refl _ _).alloc (Nat.le_refl _) _⟩
  case round =>
    obtain ⟨m, hm, rfl, hown, hbl⟩ := hrel
    obtain ⟨wo, rfl⟩ : ∃ wo : World, wo = wr := ⟨_, rfl⟩
    have hp : wrap64 ((2 : Int) ^ n) = ((2 ^ n : Nat) : Int) := by
      have e : ((2 ^ n : Nat) : Int) = (2 : Int) ^ n := by simp
      rw [← e]; unfold wrap64; omega
    by_cases hlt : m < 2 ^ n
    · have hd : decide ((m : Int) < wrap64 (2 ^ n)) = true := by rw [hp]; simp only [decide_eq_true_eq]; omega
      have Hown := Lib.hid hown
      have Hbl := Lib.hid hbl
      clear hown hbl hp
      go_wp2_with fail
      go_loopw [7, 17] (fun v' x wx => ∃ i : Nat, i ≤ n ∧ x = .int .i64 i ∧ OInts wx wo.heap.size v' (setTo m i).length (setTo m i) ∧ Below wo.heap.size wo wx) (fun _ x _ => n - (intOf x).toNat)
      case atStart => exact ⟨0, Nat.zero_le _, rfl, OInts.empty wo _ (Nat.le_refl _), (Below.refl _ _).alloc (Nat.le_refl _) _⟩
      case round =>
        obtain ⟨i, hi, rfl, hrow, hbx⟩ := hrel
        by_cases hin : i < n
        · have hil := setTo_len m i
          have hbb := bits_bit (m := m) (i := i) (by omega) (by omega)
          have Hrow := Lib.hid hrow
          have Hbx := Lib.hid hbx
          cases hb : bitOf m i
          · rw [hb] at hbb
            have E : Hid (setTo m (i + 1) = setTo m i) := setTo_no hb
            clear hrow hbx hb
            go_wp2_with fail
            go_roundw
            case rel => exact ⟨i + 1, hin, by go_num, by rw [E.out]; exact Hrow.out, Hbx.out⟩
            case measure => simp [intOf]; omega
          · rw [hb] at hbb
            have E : Hid (setTo m (i + 1) = setTo m i ++ [(i : Int)]) := setTo_yes hb
            clear hrow hbx hb
            go_wp2_with (first | (at_builtin; refine wpList_push_one _ _ rfl _ _ rfl wo.heap.size _ _ _ rfl Hrow.out (by omega) Hbx.out.size _ rfl rfl ?_; intro v1 w1 ho1 hb1))
            go_roundw
            case rel => exact ⟨i + 1, hin, by go_num, by rw [E.out, List.length_append]; exact ho1, Hbx.out.trans hb1⟩
            case measure => simp [intOf]; omega
        · have e : i = n := by omega
          subst e
          have hsl := setsTo_len i k m
          have hrl := setTo_len m i
          have Hrow := Lib.hid hrow
          have Hbx := Lib.hid hbx
          by_cases hlk : (setTo m i).length = k
          · have hk1 : (((setTo m i).length : Int) == (k : Int)) = true := by simp [hlk]
            have E : Hid (setsTo i k (m + 1) = setsTo i k m ++ [setTo m i]) := setsTo_yes hlk
            clear hrow hbx hlk
            obtain ⟨ao, cap, e, _⟩ := Hrow.out.form
            subst e
            go_wp2_with (first | (at_builtin; refine wpList_push_fresh _ _ wo rfl _ _ rfl w.heap.size _ _ _ rfl Hown.out (by omega) Hbl.out.size Hbx.out _ _ Hrow.out _ (by rfl) rfl ?_; intro v3 w3 ho3 hb3 _))
            go_roundw
            case rel => exact ⟨m + 1, hlt, by go_num, by rw [E.out, List.length_append]; exact ho3, Hbl.out.trans hb3⟩
            case measure => simp [intOf]; omega
          · have hk1 : (((setTo m i).length : Int) == (k : Int)) = false := by simp; omega
            have E : Hid (setsTo i k (m + 1) = setsTo i k m) := setsTo_no hlk
            clear hrow hbx hlk
            obtain ⟨ao, cap, e, _⟩ := Hrow.out.form
            subst e
            go_wp2_with fail
            go_roundw
            case rel => exact ⟨m + 1, hlt, by go_num, by rw [E.out]; exact Hown.out.keep (Hbx.out.mono (Nat.le_refl _)), Hbl.out.trans (Hbx.out.mono Hbl.out.size)⟩
            case measure => simp [intOf]; omega
    · have hd : decide ((m : Int) < wrap64 (2 ^ n)) = false := by rw [hp]; simp only [decide_eq_false_iff_not]; omega
      clear hp
      go_wp2_with fail
      go_ret
      have : m = 2 ^ n := by omega
      subst this
      exact ⟨_, rfl, hown, hbl⟩
end Go.Proofs.YtbjoblgklcilpaaGreat

namespace Go.Proofs.YtbjoblgklcilpaaGreat
open Go.RowKit
set_option linter.all false
theorem set_same {α : Type} {xs : List α} {k : Nat} {x : α} (h : xs[k]? = some x) : xs.set k x = xs := by
  obtain ⟨hk, rfl⟩ := List.getElem?_eq_some_iff.1 h
  exact List.set_getElem_self hk
theorem set_getx {α : Type} {xs : List α} {k : Nat} {x y : α} (h : xs[k]? = some x) : (xs.set k y)[k]? = some y := by
  obtain ⟨hk, _⟩ := List.getElem?_eq_some_iff.1 h
  simp [hk]
theorem Since.other {lo hi : Nat} {a b : World} (h : Since lo hi a b) {p : Addr} (hp : p.block < lo) (u : Value) : Since lo hi a (b.setCell p u) :=
  ⟨by simpa using h.size, fun i h1 h2 => (heap_setCell_other b p i u (by omega)).trans (h.block i h1 h2)⟩
set_option maxRecDepth 20000 in
set_option maxHeartbeats 6400000 in
theorem iCharP_any (p : Option Addr) (n c : Nat) (t : List (List Int)) (w : World) (h : Intss w p n t) (hr : RowsLen t n) (hn : n ≤ 4) :
    Calls Tryz.prog 56 #[.slice p n c] w fun e w' => ∃ v, e = .returned v ∧ OInts w' w.heap.size v (n + 1) (charL t n (n + 1)) ∧ Below w.heap.size w w' := by
  have hmk := make_ints (n + 1) (by omega)
  have hcast : ((n + 1 : Nat) : Int) = (n : Int) + 1 := by omega
  rw [hcast] at hmk
  have Hm0 := Lib.hid (OInts.made w (n + 1) (by omega))
  have Hb0 : Hid (Below w.heap.size w (w.alloc (.cells (madeCells #[.int .i64 0] (n + 1)) 3))) := (Below.refl _ _).alloc (Nat.le_refl _) _
  have H := Lib.hid h
  have HR := Lib.hid hr
  clear h hr hcast
  go_enter Tryz.func56, Tryz.ntmps56
  go_wp2_with fail
  clear hmk
  go_loopw [5, 6] (fun s x wr => ∃ (k : Nat) (g : Int), k ≤ n + 1 ∧ x = .int .i64 k ∧ s = .int .i64 g ∧ -1 ≤ g ∧ g ≤ 1 ∧ Hid (sg k = g) ∧ OInts wr w.heap.size (.slice (some ⟨w.heap.size, 0, none⟩) (n + 1) (n + 1)) (n + 1) (charL t n k) ∧ Below w.heap.size w wr) (fun _ x _ => n + 1 - (intOf x).toNat)
  case atStart => exact ⟨0, 1, Nat.zero_le _, rfl, rfl, by omega, by omega, rfl, by rw [charL_zero]; exact Hm0.out, Hb0.out⟩
  case round =>
    obtain ⟨k, g, hk, rfl, rfl, hg1, hg2, hg, hown, hbl⟩ := hrel
    obtain ⟨wa, rfl⟩ : ∃ wo : World, wo = wr := ⟨_, rfl⟩
    have Hown := Lib.hid hown
    have Hbl := Lib.hid hbl
    clear hown hbl Hm0 Hb0
    by_cases hlt : k < n + 1
    · have hle : k ≤ n := by omega
      have hd : decide ((k : Int) ≤ (n : Int)) = true := decide_eq_true (by omega)
      have HSG : Hid (sg (k + 1) = -g) := by show _ = _; rw [sg_next, hg.out]
      have HA0 : Hid (accS t k g ((sets n k).drop 0) 0 = pE t n k) := by show _ = _; rw [List.drop_zero, ← hg.out]; exact accS_pE
      have hsl : (sets n k).length ≤ 1048576 := by
        have h1 := setsTo_len n k (2 ^ n)
        have h2n : 2 ^ n ≤ 16 := Nat.pow_le_pow_right (n := 2) (by omega) hn
        have h2 : (sets n k).length ≤ 2 ^ n := h1
        omega
      have HC0 := Lib.hid (charL_get (t := t) hle)
      have HCS := Lib.hid (charL_set (t := t) hle)
      obtain ⟨C, hC⟩ : ∃ C, charL t n k = C := ⟨_, rfl⟩
      rw [hC] at Hown HC0 HCS
      clear hC hg
      have hblk := Hown.out.lt.2
      go_wp2_with (go_at_call 80; refine (iSets_any n k _ hn (by omega)).mono ?_; rintro e w1 ⟨v1, rfl, ho1, hb1⟩; obtain ⟨ao1, cap1, rfl, hi1⟩ := ho1.form; have HI1 := Lib.hid hi1; have HB1 := Lib.hid hb1; have HO1 := Lib.hid (Hown.out.keep hb1); have HOC := Lib.hid ho1; clear ho1 hi1 hb1)
      have hnk : (n : Int) - (k : Int) = ((n - k : Nat) : Int) := by omega
      obtain ⟨j, hj⟩ : ∃ j, n - k = j := ⟨_, rfl⟩
      rw [hj] at hnk HC0 HCS
      have hjn : j < n + 1 := by omega
      clear hj
      go_loopw [23] (fun x wr => ∃ (i : Nat) (s : Int), i ≤ (sets n k).length ∧ x = .int .i64 i ∧ Hid (accS t k g ((sets n k).drop i) s = pE t n k) ∧ OInts wr w.heap.size (.slice (some ⟨w.heap.size, 0, none⟩) (n + 1) (n + 1)) (n + 1) (C.set j s) ∧ Since wa.heap.size w1.heap.size w1 wr ∧ Below w.heap.size w wr) (fun x _ => (sets n k).length - (intOf x).toNat)
      case atStart => exact ⟨0, 0, Nat.zero_le _, rfl, HA0.out, by rw [set_same HC0.out]; exact HO1.out, Since.refl _ _ _, Hbl.out.trans (HB1.out.mono Hbl.out.size)⟩
      case round =>
        obtain ⟨i, s, hi, rfl, hs, hown, hsi, hbl⟩ := hrel
        clear HA0
        have HOw := Lib.hid hown
        have HSi := Lib.hid hsi
        have HBr := Lib.hid hbl
        have hrd := (HOC.out.since hsi).read
        clear hown hsi hbl
        by_cases hlt2 : i < (sets n k).length
        · obtain ⟨b1, o1, a1, c1, cs, rfl, hc1, hrow1, hget1⟩ := hrd.at_ hlt2
          have HX1 := Lib.hid (setsTo_mem (n := n) (k := k) (m := 2 ^ n) (List.mem_of_getElem? hget1.out))
          have hst := accS_step hget1.out hs.out
          obtain ⟨z, hz⟩ : ∃ z, det k (someT t cs cs) = z := ⟨_, rfl⟩
          rw [hz] at hst
          have HZ := Lib.hid hz
          have HST := Lib.hid hst
          have Hrow1 := Lib.hid hrow1
          have q0 := HOw.out.cell j hjn
          have e0 : (C.set j s).getD j 0 = s := by
            have h := set_getx (y := s) HC0.out
            simp [List.getD, h]
          rw [e0] at q0
          have Q0 := Lib.hid q0
          have F0 : Hid (∀ W : World, Below wr.drew.heap.size wr.drew W → W.cell? ⟨w.heap.size, j, none⟩ = some (.int .i64 s) ∧ W.frozen? ⟨w.heap.size, j, none⟩ = false) := by
            show ∀ W : World, _
            intro W hW
            have h := HOw.out.drewN 1
            have h2 := h.keep hW
            have h3 := h2.cell j hjn
            rw [e0] at h3
            exact ⟨h3, h2.frozen j⟩
          have hcl := HX1.out.1
          have HCL := Lib.hid hcl
          have hc4 : cs.length ≤ 4 := by omega
          clear hst hz hs hrow1 hget1 e0 hcl hrd q0
          go_wp2_with fail
          clear hc1
          have hjn2 : (j : Int) < (n : Int) + 1 := by omega
          have hwr : IntKind.i64.wrap (j : Int) = (j : Int) := by rw [wrap_i64_eq]; unfold wrap64; omega
          have q1 := (F0.out _ (Below.refl _ _)).1
          have q2 := (F0.out _ (Below.refl _ _)).2
          go_region_law (first
            | (go_simp; go_at_call 82; refine (iPicked_any _ _ _ t _ _ _ cs n _ (H.out.keep (HBr.out.drew.mono (Nat.le_refl _))) (Hrow1.out.drewN 1) HR.out HX1.out.2 HX1.out.2 (by omega)).mono ?_; rintro e w4 ⟨v4, rfl, ho4, hb4⟩; obtain ⟨ao4, cap4, rfl, hi4⟩ := ho4.form; have Hi4 := Lib.hid hi4; have HB4 := Lib.hid hb4; have q3 := (F0.out _ hb4).1; have q4 := (F0.out _ hb4).2; clear ho4 hb4 hi4)
            | (go_simp; go_at_call 81; refine (iDet_any k _ _ _ (someT t cs cs) _ HCL.out (by omega) Hi4.out (by have h := someT_rowsLen t cs cs; rw [HCL.out] at h; exact h)).mono ?_; rw [HZ.out]; rintro e w5 ⟨rfl, hb5⟩; have HB5 := Lib.hid (step2 HB4.out hb5); have q5 := (F0.out _ HB5.out).1; have q6 := (F0.out _ HB5.out).2; clear hb5))
          all_goals (go_wp2_with fail)
          all_goals go_roundw
          all_goals first
            | (refine ⟨i + 1, _, hlt2, by go_num, HST.out, ?_, ?_, ?_⟩
               · have h := (((HOw.out.drewN 1).keep HB5.out).set j (wrap64 (s + wrap64 (g * z))))
                 rw [List.set_set] at h
                 exact h
               · exact (Since.below (HSi.out) (show Below wr.heap.size wr w5 from (below_drewN (Below.refl _ _) 1).trans (HB5.out)) HSi.out.size).other hblk _
               · exact ((HBr.out.drew).trans (HB5.out.mono HBr.out.size)).setCell (p := ⟨w.heap.size, j, none⟩) (Nat.le_refl _) _)
            | (simp [intOf] <;> omega)
        · have e : s = pE t n k := accS_end (by omega) hs.out
          subst e
          have HCE := Lib.hid HCS.out
          have ho := HOw.out
          rw [HCE.out] at ho
          have HO2 := Lib.hid ho
          clear ho HCE HCS hs hrd
          go_wp2_with fail
          go_roundw
          case rel => exact ⟨k + 1, -g, hlt, by go_num, rfl, by omega, by omega, HSG.out, HO2.out, HBr.out⟩
          case measure => (simp [intOf] <;> omega)
    · have e : k = n + 1 := by omega
      subst e
      have hd : decide (((n + 1 : Nat) : Int) ≤ (n : Int)) = false := decide_eq_false (by omega)
      rw [show ((n + 1 : Nat) : Int) = (n : Int) + 1 by omega] at hd ⊢
      go_wp2_with fail
      go_ret
      exact ⟨_, rfl, Hown.out, Hbl.out⟩
end Go.Proofs.YtbjoblgklcilpaaGreat

namespace Go.Proofs.YtbjoblgklcilpaaGreat
open Go.RowKit
set_option linter.all false
set_option maxHeartbeats 1600000 in
theorem iIsSmall_any (ao : Option Addr) (n cap : Nat) (xss : List (List Int)) (w : World) (h : Intss w ao n xss) :
    Calls Tryz.prog 27 #[.slice ao n cap] w fun e w' => e = .returned (.bool (isSmallM xss)) ∧ w = w' := by
  have hm := h.2.1
  have HL := Lib.hid h.1
  have H := Lib.hid h
  have hg0 : Hid (isSmallM xss = (isMat xss && (!decide (4 < n) && le9T xss))) := by show isSmallM xss = _; unfold isSmallM; rw [h.1]
  clear h
  cases hmat : isMat xss
  · have hg : Hid (isSmallM xss = false) := by show isSmallM xss = _; rw [hg0.out, hmat]; rfl
    go_enter Tryz.func27, Tryz.ntmps27
    go_wp2_with (first | (go_at_call 55; refine (iIsMatrix_any _ _ _ xss _ H.out).mono ?_; rintro e w' ⟨rfl, rfl⟩))
    go_ret
    exact ⟨ret_bool hg.out.symm, rfl⟩
  by_cases h4 : 4 < n
  · have hg : Hid (isSmallM xss = false) := by show isSmallM xss = _; rw [hg0.out]; simp [h4]
    go_enter Tryz.func27, Tryz.ntmps27
    go_wp2_with (first | (go_at_call 55; refine (iIsMatrix_any _ _ _ xss _ H.out).mono ?_; rintro e w' ⟨rfl, rfl⟩))
    go_ret
    exact ⟨ret_bool hg.out.symm, rfl⟩
  · have hg : Hid (isSmallM xss = le9T xss) := by show isSmallM xss = _; rw [hg0.out, hmat]; simp [h4]
    go_enter Tryz.func27, Tryz.ntmps27
    go_wp2_with (first | (go_at_call 55; refine (iIsMatrix_any _ _ _ xss _ H.out).mono ?_; rintro e w' ⟨rfl, rfl⟩))
    clear hmat
    go_loop [17] (fun i => ∃ k : Nat, k ≤ n ∧ i = .int .i64 k ∧ Hid (le9T (xss.drop k) = le9T xss)) (fun i => n - (intOf i).toNat)
    case atStart => exact ⟨0, Nat.zero_le _, rfl, rfl⟩
    case round =>
      obtain ⟨k, hk, rfl, hr⟩ := hrel
      by_cases hlt : k < n
      · obtain ⟨b, o, ai, ci, r, rfl, hcell, hrow, hget⟩ := H.out.at_ hlt
        have hrb := hrow.2.1
        have Hst := Lib.hid (le9T_step hget.out hr.out)
        have Hrow := Lib.hid hrow
        clear hrow hr H
        go_wp2_with fail
        go_loop [23] (fun i => ∃ j : Nat, j ≤ r.length ∧ i = .int .i64 j ∧ Hid (le9 (r.drop j) = le9 r)) (fun i => r.length - (intOf i).toNat)
        case atStart => exact ⟨0, Nat.zero_le _, rfl, rfl⟩
        case round =>
          obtain ⟨j, hj, rfl, hrj⟩ := hrel
          by_cases hjn : j < r.length
          · obtain ⟨b', o', x, rfl, hcell', hget'⟩ := Hrow.out.at_ hjn
            have Hsj := Lib.hid (le9_step hget'.out hrj.out)
            clear hrj Hrow
            by_cases h9 : 9 < x
            · have hr1 : Hid _ := Hst.out.1 (Hsj.out.1 h9)
              clear Hst Hsj
              go_wp2_with fail
              go_ret
              exact ⟨ret_bool (by rw [hg.out, hr1.out]), rfl⟩
            · have hr1 : Hid _ := Hsj.out.2 h9
              clear Hst Hsj
              go_wp2_with fail
              go_round
              case rel => exact ⟨j + 1, hjn, by go_num, hr1⟩
              case measure => simp [intOf]; omega
          · have hr1 : Hid _ := Hst.out.2 (by have := hrj.out; rw [drop_all r j (by omega)] at this; exact this.symm)
            clear Hst hrj Hrow
            go_wp2_with fail
            go_round
            case rel => exact ⟨k + 1, hlt, by go_num, hr1⟩
            case measure => simp [intOf]; omega
      · rw [drop_all xss k (by have := HL.out; omega)] at hr
        have hr1 : Hid _ := hr.out.symm
        clear hr H
        go_wp2_with fail
        go_ret
        exact ⟨ret_bool (by rw [hg.out, hr1.out]; rfl), rfl⟩
end Go.Proofs.YtbjoblgklcilpaaGreat

namespace Go.Proofs.YtbjoblgklcilpaaGreat
open Go.RowKit
set_option linter.all false
theorem OInts.cutTo {w : World} {lo n i : Nat} {ao : Option Addr} {cap : Nat} {ys : List Int} (h : OInts w lo (.slice ao n cap) n ys) (hi : i ≤ n) : OInts w lo (.slice ao i cap) i (ys.take i) := by
  have hl := h.len
  refine ⟨by have := h.1; omega, by simp [hl]; omega, ?_⟩
  rcases h.2.2 with ⟨e, hn⟩ | ⟨g', c, cur, e, hg, hh, hnc, hcm, hs, ht⟩
  · left
    have hz : i = 0 := by omega
    subst hz
    injection e with e1 e2 e3
    subst e1
    subst e3
    exact ⟨rfl, rfl⟩
  · right
    injection e with e1 e2 e3
    subst e1
    subst e3
    refine ⟨g', cap, cur, rfl, hg, hh, by omega, hcm, hs, ?_⟩
    rw [List.map_take, ← ht, List.take_take]
    congr 1
    omega
set_option maxRecDepth 20000 in
set_option maxHeartbeats 3200000 in
theorem iTrimmed_any (p : Option Addr) (n c : Nat) (xs : List Int) (w : World) (h : Ints w p n xs) (hc : n ≤ c) :
    Calls Tryz.prog 57 #[.slice p n c] w fun e w' => e = .returned (.slice p (cutN xs n) c) ∧ w = w' := by
  have H := Lib.hid h
  have hm := h.2.1
  clear h
  go_enter Tryz.func57, Tryz.ntmps57
  go_wp2_with fail
  go_loop [3] (fun x => ∃ k : Nat, k ≤ n ∧ x = .int .i64 k ∧ Hid (cutN xs k = cutN xs n)) (fun x => (intOf x).toNat)
  case atStart => exact ⟨n, Nat.le_refl _, rfl, rfl⟩
  case round =>
    obtain ⟨k, hk, rfl, hr⟩ := hrel
    rcases k with _ | k
    · have hs := slice_to p n c 0 (by omega)
      have HZ : Hid (cutN xs n = 0) := hr.out.symm
      clear hr
      go_wp2_with fail
      go_ret
      rw [HZ.out]
      exact ⟨rfl, rfl⟩
    · obtain ⟨b, o, x, rfl, hcx, hx⟩ := H.out.at_ (k := k) (by omega)
      have HST := Lib.hid (cutN_zero hx.out hr.out)
      have hcast : ((k + 1 : Nat) : Int) = (k : Int) + 1 := by omega
      clear hx hr
      by_cases h0 : x = 0
      · have HN := Lib.hid (HST.out.1 h0)
        have h1 : (x == 0) = true := by simp [h0]
        clear HST h0
        rw [hcast]
        clear hcast
        go_wp2_with fail
        go_round
        case rel => exact ⟨k, by omega, by go_num, HN.out⟩
        case measure => (simp [intOf] <;> omega)
      · have HN := Lib.hid (HST.out.2 h0)
        have h1 : (x == 0) = false := by simp [h0]
        have hs := slice_to (some ⟨b, o, none⟩) n c (k + 1) (by omega)
        clear HST h0
        rw [hcast]
        rw [hcast] at hs
        clear hcast
        go_wp2_with fail
        go_ret
        rw [← HN.out]
        exact ⟨rfl, rfl⟩
set_option maxRecDepth 20000 in
set_option maxHeartbeats 3200000 in
theorem iTurned_any (p : Option Addr) (n c : Nat) (m : List (List Int)) (w : World) (h : Intss w p n m) :
    Calls Tryz.prog 28 #[.slice p n c] w fun e w' => ∃ v, e = .returned v ∧ OInts w' w.heap.size v (turnedP m).length (turnedP m) ∧ Below w.heap.size w w' := by
  have HL : Hid (m.length = n) := h.1
  have H := Lib.hid h
  clear h
  cases hs : isSmallM m
  · have hg : Hid (turnedP m = []) := by show _ = _; simp [turnedP, hs]
    go_enter Tryz.func28, Tryz.ntmps28
    go_wp2_with (first | (go_at_call 27; refine (iIsSmall_any _ _ _ m _ H.out).mono ?_; rintro e w' ⟨rfl, rfl⟩))
    go_ret
    rw [hg.out]
    exact ⟨_, rfl, OInts.none_ _ _, Below.refl _ _⟩
  have hsm := isSmallM_mat hs
  have HR := Lib.hid (isMat_rowsLen hsm.1 HL.out)
  have hn4 : n ≤ 4 := by have := HL.out; omega
  have HG : Hid (turnedP m = cutZ (polyL m)) := by show _ = _; simp [turnedP, hs]
  have HPL : Hid ((polyL m).length = n + 1) := by show _ = _; rw [polyL_len, HL.out]
  have HS := Lib.hid hs
  have HCE : Hid (∀ i, i ≤ n → (charL m n (n + 1))[n - i]? = (polyL m)[i]?) := by
    show ∀ i, _
    intro i hi
    have h := charL_end (t := m) (i := i) (by rw [HL.out]; exact hi)
    rw [HL.out] at h
    exact h
  clear hsm hs
  go_enter Tryz.func28, Tryz.ntmps28
  go_wp2_with (first
    | (go_at_call 27; refine (iIsSmall_any _ _ _ m _ H.out).mono ?_; rw [HS.out]; rintro e w' ⟨rfl, rfl⟩)
    | (go_at_call 56; refine (iCharP_any _ _ _ m _ H.out HR.out hn4).mono ?_; rintro e w1 ⟨v1, rfl, ho1, hb1⟩; obtain ⟨a1, c1, rfl, hi1⟩ := ho1.form; have HI := Lib.hid hi1; have HB := Lib.hid hb1; have hb2 := hb1.size; clear ho1 hb1 hi1))
  have Hem := Lib.hid (OInts.empty w1 w1.heap.size (Nat.le_refl _))
  have Hb0 : Hid (Below w.heap.size w (w1.alloc (.cells #[] 3))) := HB.out.trans ((Below.refl _ _).alloc hb2 _)
  have hc1 : ((n + 1 : Nat) : Int) = (n : Int) + 1 := by omega
  go_loopw [4, 5] (fun v x wr => ∃ k : Nat, k ≤ n + 1 ∧ x = .int .i64 ((n : Int) - (k : Int)) ∧ OInts wr w1.heap.size v k ((polyL m).take k) ∧ Below w1.heap.size w1 wr) (fun _ x _ => (intOf x + 1).toNat)
  case atStart => exact ⟨0, Nat.zero_le _, by simp, by simpa using Hem.out, (Below.refl _ _).alloc (Nat.le_refl _) _⟩
  case round =>
    obtain ⟨k, hk, rfl, hown, hbl⟩ := hrel
    obtain ⟨ao5, cap5, rfl, hi5⟩ := hown.form
    have hcap := hown.capLe rfl
    have Hown := Lib.hid hown
    have Hbl := Lib.hid hbl
    clear hown hbl Hem Hb0
    have Hbw := Lib.hid (HB.out.trans (Hbl.out.mono hb2))
    by_cases hlt : k < n + 1
    · obtain ⟨j, hj⟩ : ∃ j : Nat, n - k = j := ⟨_, rfl⟩
      have hnk : (n : Int) - (k : Int) = (j : Int) := by omega
      obtain ⟨b, o, x, rfl, hcx, hx⟩ := (HI.out.keep Hbl.out).at_ (k := j) (by omega)
      have HP : Hid ((polyL m)[k]? = some x) := by show _ = _; rw [← HCE.out k (by omega), hj]; exact hx.out
      have hjn : j < n + 1 := by omega
      have hd : (0 : Int) ≤ (j : Int) := by omega
      clear hj hx hi5
      rw [hnk]
      go_wp2_with (first
        | (at_builtin; refine wpList_push_one _ _ rfl _ _ rfl w1.heap.size _ _ _ rfl Hown.out (by omega) Hbl.out.size _ rfl rfl ?_; intro v1 w4 ho1 hb4; have Ho1 := Lib.hid ho1; have Hb4 := Lib.hid hb4; clear ho1 hb4))
      go_roundw
      case rel => exact ⟨k + 1, hlt, by rw [← hnk]; go_num, by have h := Ho1.out; rw [push_take HP.out] at h; exact h, Hbl.out.trans Hb4.out⟩
      case measure => (simp [intOf] <;> omega)
    · have e : k = n + 1 := by omega
      subst e
      have hnk : (n : Int) - ((n + 1 : Nat) : Int) = -1 := by omega
      have HI2 : Hid (Ints wr ao5 (n + 1) (polyL m)) := by
        have h := hi5
        rw [List.take_of_length_le (by rw [HPL.out]; omega)] at h
        exact h
      have HO2 : Hid (OInts wr w1.heap.size (.slice ao5 (n + 1) cap5) (n + 1) (polyL m)) := by
        have h := Hown.out
        rw [List.take_of_length_le (by rw [HPL.out]; omega)] at h
        exact h
      clear hi5 Hown
      rw [hnk]
      go_wp2_with (first
        | (go_at_call 57; refine (iTrimmed_any _ _ _ (polyL m) _ HI2.out hcap).mono ?_; rintro e w5 ⟨rfl, rfl⟩))
      go_ret
      have ho := (HO2.out.mono hb2).cutTo (cutN_le (polyL m) (n + 1))
      have e : (polyL m).take (cutN (polyL m) (n + 1)) = cutZ (polyL m) := by unfold cutZ; rw [HPL.out]
      rw [e] at ho
      have hl := ho.len
      rw [HG.out, hl]
      exact ⟨_, rfl, ho, Hbw.out⟩
end Go.Proofs.YtbjoblgklcilpaaGreat

namespace Go.Proofs.YtbjoblgklcilpaaGreat
open Go.RowKit
set_option linter.all false
set_option maxHeartbeats 1600000 in
theorem sTrace_any (ao : Option Addr) (n cap : Nat) (p : List (List Int)) (w : World) (h : Intss w ao n p) (hp : isMat p = true) :
    Calls Tryz.prog 45 #[.slice ao n cap] w fun e w' => e = .returned (.int .i64 (trc 0 0 p)) ∧ w = w' := by
  have hm := h.2.1
  have HL : Hid (p.length = n) := h.1
  have H := Lib.hid h
  have HP := Lib.hid hp
  clear h
  go_enter Tryz.func45, Tryz.ntmps45
  go_wp2_with (go_at_call 68; refine (sIsMatrix_any _ _ _ p _ H.out).mono ?_; rintro e w' ⟨rfl, rfl⟩)
  clear hp
  go_loop [3, 4] (fun s x => ∃ (k : Nat) (t : Int), k ≤ n ∧ x = .int .i64 k ∧ s = .int .i64 t ∧ Hid (trc k t (p.drop k) = trc 0 0 p)) (fun _ x => n - (intOf x).toNat)
  case atStart => exact ⟨0, 0, Nat.zero_le _, rfl, rfl, rfl⟩
  case round =>
    obtain ⟨k, t, hk, rfl, rfl, hr⟩ := hrel
    by_cases hlt : k < n
    · obtain ⟨b, o, ai, ci, r, rfl, hcell, hrow, hget⟩ := H.out.at_ hlt
      have hrl : k < r.length := by have := (isMat_row HP.out hget.out).1; have := HL.out; omega
      obtain ⟨b', o', x, rfl, hcx, hgx⟩ := hrow.at_ hrl
      have HS := Lib.hid (trc_step hget.out hgx.out hr.out)
      clear hrow hget hgx hr
      go_wp2_with fail
      go_round
      case rel => exact ⟨k + 1, _, hlt, by go_num, rfl, HS.out⟩
      case measure => simp [intOf]; omega
    · have e : k = n := by omega
      have HE : Hid (t = trc 0 0 p) := by have := hr.out; rw [drop_all p k (by rw [HL.out]; omega)] at this; exact this
      clear hr
      go_wp2_with fail
      go_ret
      exact ⟨ret_int HE.out, rfl⟩
end Go.Proofs.YtbjoblgklcilpaaGreat

namespace Go.Proofs.YtbjoblgklcilpaaGreat
open Go.RowKit
set_option linter.all false
set_option maxHeartbeats 1600000 in
theorem sMulM_any (pa : Option Addr) (na ca : Nat) (a : List (List Int)) (pb : Option Addr) (nb cb : Nat) (b : List (List Int)) (w : World) (ha : Intss w pa na a) (hb : Intss w pb nb b) :
    Calls Tryz.prog 74 #[.slice pa na ca, .slice pb nb cb] w fun e w' => ∃ v, e = .returned (.tuple #[v, .bool (mulM a b).isSome]) ∧ OIntss w' w.heap.size v ((mulM a b).getD []).length ((mulM a b).getD []) ∧ Below w.heap.size w w' := by
  have hma := ha.2.1
  have hmb := hb.2.1
  have HA := Lib.hid ha
  have HB := Lib.hid hb
  have HLA : Hid (a.length = na) := ha.1
  have HLB : Hid (b.length = nb) := hb.1
  clear ha hb
  have hempty := OIntss.empty w w.heap.size (Nat.le_refl _)
  have hbe : Below w.heap.size w (w.alloc (.cells #[] 27)) := (Below.refl _ _).alloc (Nat.le_refl _) _
  have Hempty := Lib.hid hempty
  have Hbe := Lib.hid hbe
  clear hempty hbe
  cases h1 : isMat a
  · have hg : Hid (mulM a b = none) := mulM_none1 h1
    go_enter Tryz.func74, Tryz.ntmps74
    go_wp2_with (first | (go_at_call 68; refine (sIsMatrix_any _ _ _ a _ HA.out).mono ?_; rintro e w' ⟨rfl, rfl⟩))
    go_ret2
    rw [hg.out]
    exact ⟨_, rfl, Hempty.out, Hbe.out⟩
  cases h2 : isMat b
  · have hg : Hid (mulM a b = none) := mulM_none2 h2
    go_enter Tryz.func74, Tryz.ntmps74
    go_wp2_with fail
    refine (sIsMatrix_any _ _ _ a _ HA.out).mono ?_
    rintro e w' ⟨rfl, rfl⟩
    go_wp2_with fail
    refine (sIsMatrix_any _ _ _ b _ HB.out).mono ?_
    rintro e w' ⟨rfl, rfl⟩
    go_wp2_with fail
    go_ret2
    rw [hg.out]
    exact ⟨_, rfl, Hempty.out, Hbe.out⟩
  by_cases hn : na = nb
  · subst hn
    have hne : ((na : Int) != (na : Int)) = false := by simp
    have hn9 : na ≤ 9 := by have := isMat_len h1; have := HLA.out; omega
    have HRA := Lib.hid (isMat_rowsLen h1 HLA.out)
    have HRB := Lib.hid (isMat_rowsLen h2 HLB.out)
    have hlab : Hid (a.length = b.length) := by show a.length = b.length; rw [HLA.out, HLB.out]
    have H12 : Hid (isMat a = true ∧ isMat b = true) := ⟨h1, h2⟩
    go_enter Tryz.func74, Tryz.ntmps74
    go_wp2_with fail
    refine (sIsMatrix_any _ _ _ a _ HA.out).mono ?_
    rintro e w' ⟨rfl, rfl⟩
    go_wp2_with fail
    refine (sIsMatrix_any _ _ _ b _ HB.out).mono ?_
    rintro e w' ⟨rfl, rfl⟩
    go_wp2_with fail
    clear h1 h2
    refine (sL4Times_any _ _ _ a _ _ _ b na _ HA.out HB.out HRA.out HRB.out (by omega) (by omega)).mono ?_
    rintro e w1 ⟨v, rfl, hown, hbl⟩
    obtain ⟨ao, cap, rfl, hi⟩ := hown.form
    have Hown := Lib.hid hown
    have Hbl := Lib.hid hbl
    have Hi := Lib.hid hi
    clear hown hbl hi
    cases h3 : isMat (mulT a b na)
    · have hg : Hid (mulM a b = none) := mulM_none4 (by rw [HLB.out]; exact h3)
      go_wp2_with fail
      refine (sIsMatrix_any _ _ _ (mulT a b na) _ Hi.out).mono ?_
      rintro e w' ⟨rfl, rfl⟩
      go_wp2_with fail
      go_ret2
      rw [hg.out]
      exact ⟨_, rfl, OIntss.empty w1 _ Hbl.out.size, Hbl.out.alloc Hbl.out.size _⟩
    · have hg : Hid (mulM a b = some (mulT a b na)) := by
        have := mulM_some H12.out.1 H12.out.2 hlab.out (by rw [HLB.out]; exact h3)
        rw [HLB.out] at this
        exact this
      go_wp2_with fail
      refine (sIsMatrix_any _ _ _ (mulT a b na) _ Hi.out).mono ?_
      rintro e w' ⟨rfl, rfl⟩
      go_wp2_with fail
      go_ret2
      rw [hg.out]
      refine ⟨_, rfl, ?_, Hbl.out⟩
      show OIntss w1 w.heap.size _ (mulT a b na).length (mulT a b na)
      rw [Hown.out.len]
      exact Hown.out
  · have hg : Hid (mulM a b = none) := mulM_none3 (by rw [HLA.out, HLB.out]; exact hn)
    have hne : ((na : Int) != (nb : Int)) = true := by simp; omega
    clear hn
    go_enter Tryz.func74, Tryz.ntmps74
    go_wp2_with fail
    refine (sIsMatrix_any _ _ _ a _ HA.out).mono ?_
    rintro e w' ⟨rfl, rfl⟩
    go_wp2_with fail
    refine (sIsMatrix_any _ _ _ b _ HB.out).mono ?_
    rintro e w' ⟨rfl, rfl⟩
    go_wp2_with fail
    go_ret2
    rw [hg.out]
    exact ⟨_, rfl, Hempty.out, Hbe.out⟩
end Go.Proofs.YtbjoblgklcilpaaGreat

namespace Go.Proofs.YtbjoblgklcilpaaGreat
open Go.RowKit
set_option linter.all false
set_option maxHeartbeats 1600000 in
theorem sPowM_any (pm : Option Addr) (nm cm : Nat) (m : List (List Int)) (n : Int) (w : World) (hm : Intss w pm nm m) :
    Calls Tryz.prog 44 #[.slice pm nm cm, .int .i64 n] w fun e w' => ∃ v, e = .returned (.tuple #[v, .bool (powM m n).isSome]) ∧ OIntss w' w.heap.size v ((powM m n).getD []).length ((powM m n).getD []) ∧ Below w.heap.size w w' := by
  have HM := Lib.hid hm
  have HLM : Hid (m.length = nm) := hm.1
  clear hm
  have Hempty := Lib.hid (OIntss.empty w w.heap.size (Nat.le_refl _))
  have Hbe : Hid (Below w.heap.size w (w.alloc (.cells #[] 27))) := (Below.refl _ _).alloc (Nat.le_refl _) _
  cases h1 : isMat m
  · have hg : Hid (powM m n = none) := powM_none1 h1
    go_enter Tryz.func44, Tryz.ntmps44
    go_wp2_with (first | (go_at_call 68; refine (sIsMatrix_any _ _ _ m _ HM.out).mono ?_; rintro e w' ⟨rfl, rfl⟩))
    go_ret2
    rw [hg.out]
    exact ⟨_, rfl, Hempty.out, Hbe.out⟩
  cases h2 : inR n 0 30
  · have hg : Hid (powM m n = none) := powM_none2 h2
    go_enter Tryz.func44, Tryz.ntmps44
    go_wp2_with (first | (go_at_call 68; refine (sIsMatrix_any _ _ _ m _ HM.out).mono ?_; rintro e w' ⟨rfl, rfl⟩) | (go_at_call 40; refine (l1In_any _ _ _ _).mono ?_; rintro e w' ⟨rfl, rfl⟩))
    go_ret2
    rw [hg.out]
    exact ⟨_, rfl, Hempty.out, Hbe.out⟩
  obtain ⟨q, rfl⟩ := Int.eq_ofNat_of_zero_le (inR_true h2).1
  have hq : q ≤ 30 := by have := (inR_true h2).2; omega
  have hg : Hid (powM m q = iterM m q (oneT nm)) := by have := powM_iter h1 h2; rw [HLM.out] at this; exact this
  have hn9 : nm ≤ 9 := by have := isMat_len h1; have := HLM.out; omega
  go_enter Tryz.func44, Tryz.ntmps44
  go_wp2_with (first | (go_at_call 68; refine (sIsMatrix_any _ _ _ m _ HM.out).mono ?_; rintro e w' ⟨rfl, rfl⟩) | (go_at_call 40; refine (l1In_any _ _ _ _).mono ?_; rintro e w' ⟨rfl, rfl⟩))
  clear h1 h2
  refine (sL4One_any nm _ (by omega)).mono ?_
  rintro e w1 ⟨v, rfl, hown, hbl⟩
  have Hown := Lib.hid hown
  have Hbl := Lib.hid hbl
  clear hown hbl
  go_wp2_with fail
  go_loopw [6, 7] (fun v i wr => ∃ (k : Nat) (acc : List (List Int)), k ≤ q ∧ i = .int .i64 k ∧ OIntss wr w.heap.size v nm acc ∧ Hid (iterM m (q - k) acc = iterM m q (oneT nm)) ∧ Below w.heap.size w wr) (fun _ i _ => q - (intOf i).toNat)
  case atStart => exact ⟨0, _, Nat.zero_le _, rfl, Hown.out, rfl, Hbl.out⟩
  case round =>
    obtain ⟨k, acc, hk, rfl, hown, hit, hbl⟩ := hrel
    obtain ⟨wo, rfl⟩ : ∃ wo : World, wo = wr := ⟨_, rfl⟩
    clear Hown Hbl
    by_cases hlt : k < q
    · have Hstep : Hid (q - k = (q - (k + 1)) + 1) := by show q - k = _; omega
      obtain ⟨ao, cap, rfl, hi⟩ := hown.form
      have Hi := Lib.hid hi
      have Hbl := Lib.hid hbl
      clear hi hbl hown
      go_wp2_with fail
      refine (sMulM_any _ _ _ acc _ _ _ m _ Hi.out (HM.out.keep (Hbl.out.mono (Nat.le_refl _)))).mono ?_
      rintro e w2 ⟨v2, rfl, hown2, hb2⟩
      cases hp : mulM acc m with
      | none =>
        have hr1 : Hid (powM m q = none) := by
          have h5 := hit.out
          rw [Hstep.out, iterM_none hp] at h5
          show powM m q = none
          rw [hg.out, h5]
        have Hb2 := Lib.hid (Hbl.out.trans (hb2.mono Hbl.out.size))
        clear hown2 hb2 hit
        go_wp2_with fail
        go_ret2
        rw [hr1.out]
        exact ⟨_, rfl, OIntss.empty w2 _ Hb2.out.size, Hb2.out.alloc Hb2.out.size _⟩
      | some p =>
        have hit' : Hid (iterM m (q - (k + 1)) p = iterM m q (oneT nm)) := by
          have h5 := hit.out
          rw [Hstep.out, iterM_some hp] at h5
          exact h5
        have hpl : p.length = nm := by have := (mulM_mat hp).2; rw [this, HLM.out]
        rw [hp] at hown2
        have hown3 : OIntss w2 w.heap.size v2 nm p := by
          have h6 : OIntss w2 wo.heap.size v2 p.length p := hown2
          rw [hpl] at h6
          exact h6.mono Hbl.out.size
        have Hown3 := Lib.hid hown3
        have Hb2 := Lib.hid (Hbl.out.trans (hb2.mono Hbl.out.size))
        clear hown2 hb2 hit hown3 hpl
        go_wp2_with fail
        go_roundw
        case rel => exact ⟨k + 1, p, hlt, by go_num, Hown3.out, hit', Hb2.out⟩
        case measure => simp [intOf]; omega
    · have hr1 : Hid (powM m q = some acc) := by
        have h5 := hit.out
        rw [show q - k = 0 from by omega] at h5
        show powM m q = some acc
        rw [hg.out, ← h5]
        rfl
      have Hown := Lib.hid hown
      have Hbl := Lib.hid hbl
      clear hown hbl hit
      go_wp2_with fail
      go_ret2
      rw [hr1.out]
      refine ⟨_, rfl, ?_, Hbl.out⟩
      show OIntss wo w.heap.size _ acc.length acc
      rw [Hown.out.len]
      exact Hown.out
end Go.Proofs.YtbjoblgklcilpaaGreat

namespace Go.Proofs.YtbjoblgklcilpaaGreat
open Go.RowKit
set_option linter.all false
set_option maxHeartbeats 1600000 in
theorem sClosed_any (pm : Option Addr) (nm cm : Nat) (m : List (List Int)) (n : Int) (w : World) (h : Intss w pm nm m) :
    Calls Tryz.prog 16 #[.slice pm nm cm, .int .i64 n] w fun e w' => e = .returned (.int .i64 (closed m n)) ∧ Below w.heap.size w w' := by
  have H := Lib.hid h
  clear h
  cases h1 : inR n 1 30
  · have hg := Lib.hid (closed_n (m := m) h1)
    go_enter Tryz.func16, Tryz.ntmps16
    go_wp2_with (go_at_call 40; refine (l1In_any _ _ _ _).mono ?_; rintro e w' ⟨rfl, rfl⟩)
    go_ret
    exact ⟨ret_int hg.out.symm, Below.refl _ _⟩
  cases ht : powM m n with
  | none =>
    have hg := Lib.hid (closed_none ht)
    have hs : (powM m n).isSome = false := by simp [ht]
    clear ht
    go_enter Tryz.func16, Tryz.ntmps16
    go_wp2_with (first
          | (go_at_call 40; refine (l1In_any _ _ _ _).mono ?_; rintro e w' ⟨rfl, rfl⟩)
          | (go_at_call 44; refine (sPowM_any _ _ _ m _ _ H.out).mono ?_; rintro e w1 ⟨v, rfl, hown, hbl⟩; have Hbl := Lib.hid hbl; clear hown hbl))
    go_ret
    exact ⟨ret_int hg.out.symm, Hbl.out⟩
  | some p =>
    have hs : (powM m n).isSome = true := by simp [ht]
    have HPM := Lib.hid (powM_mat ht).2.1
    have HG : Hid ((powM m n).getD [] = p) := by show (powM m n).getD [] = p; simp [ht]
    have hg := Lib.hid (closed_some h1 ht)
    clear ht
    go_enter Tryz.func16, Tryz.ntmps16
    go_wp2_with (first
          | (go_at_call 40; refine (l1In_any _ _ _ _).mono ?_; rintro e w' ⟨rfl, rfl⟩)
          | (go_at_call 44; refine (sPowM_any _ _ _ m _ _ H.out).mono ?_; rintro e w1 ⟨v, rfl, hown, hbl⟩; obtain ⟨ao, cap, rfl, hin⟩ := hown.form; rw [HG.out] at hin; have Hin := Lib.hid hin; have Hbl := Lib.hid hbl; clear hown hbl hin; rw [HG.out])
          | (go_at_call 45; refine (sTrace_any _ _ _ p _ Hin.out HPM.out).mono ?_; rintro e w' ⟨rfl, rfl⟩))
    go_ret
    exact ⟨ret_int hg.out.symm, Hbl.out⟩
end Go.Proofs.YtbjoblgklcilpaaGreat

namespace Go.Proofs.YtbjoblgklcilpaaGreat
open Go.RowKit
set_option linter.all false
set_option maxHeartbeats 1600000 in
theorem iTrace_any (ao : Option Addr) (n cap : Nat) (p : List (List Int)) (w : World) (h : Intss w ao n p) (hp : isMat p = true) :
    Calls Tryz.prog 43 #[.slice ao n cap] w fun e w' => e = .returned (.int .i64 (trc 0 0 p)) ∧ w = w' := by
  have hm := h.2.1
  have HL : Hid (p.length = n) := h.1
  have H := Lib.hid h
  have HP := Lib.hid hp
  clear h
  go_enter Tryz.func43, Tryz.ntmps43
  clear hp
  go_wp2_with fail
  go_loop [3, 8] (fun s x => ∃ (k : Nat) (t : Int), k ≤ n ∧ x = .int .i64 k ∧ s = .int .i64 t ∧ Hid (trc k t (p.drop k) = trc 0 0 p)) (fun _ x => n - (intOf x).toNat)
  case atStart => exact ⟨0, 0, Nat.zero_le _, rfl, rfl, rfl⟩
  case round =>
    obtain ⟨k, t, hk, rfl, rfl, hr⟩ := hrel
    by_cases hlt : k < n
    · obtain ⟨b, o, ai, ci, r, rfl, hcell, hrow, hget⟩ := H.out.at_ hlt
      have hrl : k < r.length := by have := (isMat_row HP.out hget.out).1; have := HL.out; omega
      obtain ⟨b', o', x, rfl, hcx, hgx⟩ := hrow.at_ hrl
      have HS := Lib.hid (trc_step hget.out hgx.out hr.out)
      clear hrow hget hgx hr
      go_wp2_with fail
      go_round
      case rel => exact ⟨k + 1, _, hlt, by go_num, rfl, HS.out⟩
      case measure => simp [intOf]; omega
    · have e : k = n := by omega
      have HE : Hid (t = trc 0 0 p) := by have := hr.out; rw [drop_all p k (by rw [HL.out]; omega)] at this; exact this
      clear hr
      go_wp2_with fail
      go_ret
      exact ⟨ret_int HE.out, rfl⟩
end Go.Proofs.YtbjoblgklcilpaaGreat

namespace Go.Proofs.YtbjoblgklcilpaaGreat
open Go.RowKit
set_option linter.all false
set_option maxHeartbeats 3200000 in
theorem iTimes_any (pa : Option Addr) (na ca : Nat) (a : List (List Int)) (pb : Option Addr) (nb cb : Nat) (b : List (List Int)) (c : Nat) (w : World) (ha : Intss w pa na a) (hb : Intss w pb nb b)
    (hra : RowsLen a nb) (hrb : RowsLen b c) (hna : na ≤ 1048576) (hc : c ≤ 1048576) (hnb : 0 < nb) :
    Calls Tryz.prog 100 #[.slice pa na ca, .slice pb nb cb] w fun e w' => ∃ v, e = .returned v ∧ OIntss w' w.heap.size v na (mulT a b c) ∧ Below w.heap.size w w' := by
  have hmb := hb.2.1
  have HA := Lib.hid ha
  have HB := Lib.hid hb
  have HRA := Lib.hid hra
  have HRB := Lib.hid hrb
  have HLA : Hid (a.length = na) := ha.1
  have HLB : Hid (b.length = nb) := hb.1
  obtain ⟨b0, o0, a0, c0, r0, rfl, hc0, hrow0, hget0⟩ := hb.at_ hnb
  have hr0 : r0.length = c := hrb _ _ hget0.out
  rw [hr0, Nat.add_zero] at hc0
  have HC0 := Lib.hid hc0
  clear ha hb hra hrb hrow0 hget0 hr0 hc0
  have hmk := make_ints c (by omega)
  go_enter Tryz.func100, Tryz.ntmps100
  go_wp2_with fail
  go_loopw [5, 16] (fun v i wr => ∃ k : Nat, k ≤ na ∧ i = .int .i64 k ∧ OIntss wr w.heap.size v k ((mulT a b c).take k) ∧ Below w.heap.size w wr) (fun _ i _ => na - (intOf i).toNat)
  case atStart => exact ⟨0, Nat.zero_le _, rfl, OIntss.empty w _ (Nat.le_refl _), (Below.refl _ _).alloc (Nat.le_refl _) _⟩
  case round =>
    obtain ⟨i, hi, rfl, hown, hbl⟩ := hrel
    obtain ⟨wo, rfl⟩ : ∃ wo : World, wo = wr := ⟨_, rfl⟩
    by_cases hlt : i < na
    · obtain ⟨b1, o1, a1, c1, ra, rfl, hca, hrow, hgeta⟩ := HA.out.at_ hlt
      have Hrow := Lib.hid hrow
      have HRL : Hid (ra.length = nb) := HRA.out _ _ hgeta.out
      have hrl1 : ra.length ≤ nb := by have := HRL.out; omega
      have h1 := (hbl.cell (World.block_lt_of_cell? w _ hca)).trans hca
      have h0 := (hbl.cell (World.block_lt_of_cell? w _ HC0.out)).trans HC0.out
      have Hown := Lib.hid hown
      have Hbl := Lib.hid hbl
      clear hrow hca hown hbl
      go_wp2_with fail
      clear h1 h0
      have hmade := OInts.made wo c (by omega)
      rw [← wline_zero b ra] at hmade
      go_loopw [27] (fun i' wx => ∃ k : Nat, k ≤ ra.length ∧ i' = .int .i64 k ∧ OInts wx wo.heap.size (.slice (some ⟨wo.heap.size, 0, none⟩) c c) c (wline b ra c k) ∧ Below wo.heap.size wo wx) (fun i _ => ra.length - (intOf i).toNat)
      case atStart => exact ⟨0, Nat.zero_le _, rfl, hmade, (Below.refl _ _).alloc (Nat.le_refl _) _⟩
      case round =>
        obtain ⟨k, hk, rfl, hline, hbx⟩ := hrel
        clear hmade
        have hbw := Hbl.out.trans (hbx.mono Hbl.out.size)
        by_cases hkr : k < ra.length
        · obtain ⟨b2, o2, a2, c2, rb, e, hcb, hrowb, hgetb⟩ := HB.out.at_ (k := k) (by omega)
          injection e with e
          injection e with e1 e2
          subst e1
          subst e2
          have hrbl : rb.length = c := HRB.out _ _ hgetb.out
          obtain ⟨b3, o3, x, rfl, hcx, hgetx⟩ := Hrow.out.at_ (k := k) hkr
          have h2 := (hbw.cell (World.block_lt_of_cell? w _ hcb)).trans hcb
          have h3 := (hbw.cell (World.block_lt_of_cell? w _ hcx)).trans hcx
          have hkb : k < nb := by omega
          have hlc1 : rb.length ≤ c := by omega
          have hlc2 : c ≤ rb.length := by omega
          have Hrowb := Lib.hid hrowb
          have Hline := Lib.hid hline
          have Hbx := Lib.hid hbx
          clear hrowb hrbl hcb hcx hline hbx hbw
          go_wp2_with fail
          clear h2 h3
          go_loopw [37] (fun i' wy => ∃ j : Nat, j ≤ rb.length ∧ i' = .int .i64 j ∧ OInts wy wo.heap.size (.slice (some ⟨wo.heap.size, 0, none⟩) c c) c ((wline b ra c (k + 1)).take j ++ (wline b ra c k).drop j) ∧ Below wo.heap.size wo wy) (fun i _ => c - (intOf i).toNat)
          case atStart => exact ⟨0, Nat.zero_le _, rfl, by simpa using Hline.out, Hbx.out⟩
          case round =>
            obtain ⟨j, hj, rfl, hline, hbx⟩ := hrel
            clear Hline Hbx
            have hbw := Hbl.out.trans (hbx.mono Hbl.out.size)
            by_cases hjc : j < rb.length
            · obtain ⟨b4, o4, y, rfl, hcy, hgety⟩ := Hrowb.out.at_ (k := j) hjc
              have HW : Hid (wd b ra (k + 1) j = wrap64 (wd b ra k j + wrap64 (x * y))) := wd_succ hgetx.out hgetb.out hgety.out
              have h4 := (hbw.cell (World.block_lt_of_cell? w _ hcy)).trans hcy
              have hjc' : j < c := by omega
              have h6 := hline.cell j hjc'
              rw [List.getD, mix_get (by rw [wline_len]; omega) (wline_get hjc'), Option.getD_some] at h6
              have h7 := hline.frozen j
              have hset := hline.set j (wd b ra (k + 1) j)
              rw [mix_set (wline_get hjc') (wline_get hjc')] at hset
              have hb' := hbx.setCell (p := ⟨wo.heap.size, j, none⟩) (Nat.le_refl _) (.int .i64 (wd b ra (k + 1) j))
              have Hset := Lib.hid hset
              have Hb' := Lib.hid hb'
              clear hset hb' hline hbx hbw hcy
              go_wp2_with fail
              go_roundw
              case rel => exact ⟨j + 1, hjc, by go_num, by rw [← HW.out]; first | exact Hset.out | exact Hset.out.drewN 1, by rw [← HW.out]; first | exact Hb'.out | exact Hb'.out.drew⟩
              case measure => simp [intOf]; omega
            · have hjc' : j = c := by omega
              subst hjc'
              rw [mix_end (wline_len b ra j (k + 1)) (wline_len b ra j k)] at hline
              have Hline := Lib.hid hline
              have Hbx := Lib.hid hbx
              clear hline hbx hbw
              go_wp2_with fail
              go_roundw
              case rel => exact ⟨k + 1, hkr, by go_num, Hline.out, Hbx.out⟩
              case measure => simp [intOf]; omega
        · rw [wline_end (by omega) (by have := HLB.out; have := HRL.out; omega)] at hline
          have Hline := Lib.hid hline
          have Hbx := Lib.hid hbx
          clear hline hbx hbw
          go_wp2_with (first | (at_builtin; refine wpList_push_fresh _ _ wo rfl _ _ rfl w.heap.size _ i _ rfl Hown.out (by omega) Hbl.out.size Hbx.out c _ Hline.out _ ?ctb rfl ?_))
          case ctb => rfl
          intro v' w' hown' hbel _
          rw [push_take (mulT_get hgeta.out)] at hown'
          have hb' := Hbl.out.trans hbel
          go_wp2_with fail
          go_roundw
          case rel => exact ⟨i + 1, hlt, by go_num, hown', hb'⟩
          case measure => simp [intOf]; omega
    · have Hown := Lib.hid hown
      have Hbl := Lib.hid hbl
      clear hown hbl
      go_wp2_with fail
      go_ret
      have : i = na := by omega
      subst this
      have h := Hown.out
      rw [List.take_of_length_le (by rw [mulT_len]; have := HLA.out; omega)] at h
      exact ⟨_, rfl, h, Hbl.out⟩
end Go.Proofs.YtbjoblgklcilpaaGreat

namespace Go.Proofs.YtbjoblgklcilpaaGreat
open Go.RowKit
set_option linter.all false
set_option maxHeartbeats 800000 in
theorem iChecked_any (p : Option Addr) (n c : Nat) (a : List (List Int)) (lo : Nat) (w : World) (h : OIntss w lo (.slice p n c) n a) :
    Calls Tryz.prog 99 #[.slice p n c] w fun e w' => ∃ v, e = .returned (.tuple #[v, .bool (isMat a)]) ∧ OIntss w' lo v (if isMat a then a else []).length (if isMat a then a else []) ∧ w = w' := by
  obtain ⟨ao, cap, e, hi⟩ := h.form
  injection e with e1 e2 e3
  subst e1
  subst e3
  have Hi := Lib.hid hi
  have H := Lib.hid h
  clear h hi
  cases h1 : isMat a
  · go_enter Tryz.func99, Tryz.ntmps99
    go_wp2_with (first | (go_at_call 55; refine (iIsMatrix_any _ _ _ a _ Hi.out).mono ?_; rintro e w' ⟨rfl, rfl⟩))
    go_ret2
    exact ⟨_, rfl, OIntss.none_ _ _, rfl⟩
  · go_enter Tryz.func99, Tryz.ntmps99
    go_wp2_with (first | (go_at_call 55; refine (iIsMatrix_any _ _ _ a _ Hi.out).mono ?_; rintro e w' ⟨rfl, rfl⟩))
    go_ret2
    refine ⟨_, rfl, ?_, rfl⟩
    show OIntss w lo _ a.length a
    rw [H.out.len]
    exact H.out

set_option maxHeartbeats 1600000 in
theorem iMulM_any (pa : Option Addr) (na ca : Nat) (a : List (List Int)) (pb : Option Addr) (nb cb : Nat) (b : List (List Int)) (w : World) (ha : Intss w pa na a) (hb : Intss w pb nb b) :
    Calls Tryz.prog 72 #[.slice pa na ca, .slice pb nb cb] w fun e w' => ∃ v, e = .returned (.tuple #[v, .bool (mulM a b).isSome]) ∧ OIntss w' w.heap.size v ((mulM a b).getD []).length ((mulM a b).getD []) ∧ Below w.heap.size w w' := by
  have hma := ha.2.1
  have hmb := hb.2.1
  have HA := Lib.hid ha
  have HB := Lib.hid hb
  have HLA : Hid (a.length = na) := ha.1
  have HLB : Hid (b.length = nb) := hb.1
  clear ha hb
  cases h1 : isMat a
  · have hg : Hid (mulM a b = none) := mulM_none1 h1
    go_enter Tryz.func72, Tryz.ntmps72
    go_wp2_with (first | (go_at_call 55; refine (iIsMatrix_any _ _ _ a _ HA.out).mono ?_; rintro e w' ⟨rfl, rfl⟩))
    go_ret2
    rw [hg.out]
    exact ⟨_, rfl, OIntss.none_ _ _, Below.refl _ _⟩
  cases h2 : isMat b
  · have hg : Hid (mulM a b = none) := mulM_none2 h2
    go_enter Tryz.func72, Tryz.ntmps72
    go_wp2_with fail
    refine (iIsMatrix_any _ _ _ a _ HA.out).mono ?_
    rintro e w' ⟨rfl, rfl⟩
    go_wp2_with fail
    refine (iIsMatrix_any _ _ _ b _ HB.out).mono ?_
    rintro e w' ⟨rfl, rfl⟩
    go_wp2_with fail
    go_ret2
    rw [hg.out]
    exact ⟨_, rfl, OIntss.none_ _ _, Below.refl _ _⟩
  by_cases hn : na = nb
  · subst hn
    have hne : ((na : Int) != (na : Int)) = false := by simp
    have hn9 : na ≤ 9 := by have := isMat_len h1; have := HLA.out; omega
    have hn0 : 0 < na := by have := isMat_len h1; have := HLA.out; omega
    have HRA := Lib.hid (isMat_rowsLen h1 HLA.out)
    have HRB := Lib.hid (isMat_rowsLen h2 HLB.out)
    have hg : Hid (mulM a b = if isMat (mulT a b na) then some (mulT a b na) else none) := by
      show mulM a b = _
      unfold mulM
      rw [h1, h2, HLA.out, HLB.out]
      simp
    go_enter Tryz.func72, Tryz.ntmps72
    go_wp2_with fail
    refine (iIsMatrix_any _ _ _ a _ HA.out).mono ?_
    rintro e w' ⟨rfl, rfl⟩
    go_wp2_with fail
    refine (iIsMatrix_any _ _ _ b _ HB.out).mono ?_
    rintro e w' ⟨rfl, rfl⟩
    go_wp2_with fail
    clear h1 h2
    refine (iTimes_any _ _ _ a _ _ _ b na _ HA.out HB.out HRA.out HRB.out (by omega) (by omega) hn0).mono ?_
    rintro e w1 ⟨v, rfl, hown, hbl⟩
    obtain ⟨ao, cap, rfl, hi⟩ := hown.form
    have Hown := Lib.hid hown
    have Hbl := Lib.hid hbl
    clear hown hbl hi
    go_wp2_with fail
    refine (iChecked_any _ _ _ (mulT a b na) _ _ Hown.out).mono ?_
    rintro e w' ⟨v, rfl, hv, rfl⟩
    have Hv := Lib.hid hv
    clear hv
    go_wp2_with fail
    go_ret2
    rw [hg.out]
    refine ⟨v, ?_, ?_, Hbl.out⟩
    · cases isMat (mulT a b na) <;> rfl
    · have := Hv.out
      revert this
      cases isMat (mulT a b na) <;> exact id
  · have hg : Hid (mulM a b = none) := mulM_none3 (by rw [HLA.out, HLB.out]; exact hn)
    have hne : ((na : Int) != (nb : Int)) = true := by simp; omega
    clear hn
    go_enter Tryz.func72, Tryz.ntmps72
    go_wp2_with fail
    refine (iIsMatrix_any _ _ _ a _ HA.out).mono ?_
    rintro e w' ⟨rfl, rfl⟩
    go_wp2_with fail
    refine (iIsMatrix_any _ _ _ b _ HB.out).mono ?_
    rintro e w' ⟨rfl, rfl⟩
    go_wp2_with fail
    go_ret2
    rw [hg.out]
    exact ⟨_, rfl, OIntss.none_ _ _, Below.refl _ _⟩
end Go.Proofs.YtbjoblgklcilpaaGreat

namespace Go.Proofs.YtbjoblgklcilpaaGreat
open Go.RowKit
set_option linter.all false
set_option maxHeartbeats 1600000 in
theorem iPowM_any (pm : Option Addr) (nm cm : Nat) (m : List (List Int)) (n : Int) (w : World) (hm : Intss w pm nm m) :
    Calls Tryz.prog 42 #[.slice pm nm cm, .int .i64 n] w fun e w' => ∃ v, e = .returned (.tuple #[v, .bool (powM m n).isSome]) ∧ OIntss w' w.heap.size v ((powM m n).getD []).length ((powM m n).getD []) ∧ Below w.heap.size w w' := by
  have HM := Lib.hid hm
  have HLM : Hid (m.length = nm) := hm.1
  clear hm
  cases h1 : isMat m
  · have hg : Hid (powM m n = none) := powM_none1 h1
    go_enter Tryz.func42, Tryz.ntmps42
    go_wp2_with (first | (go_at_call 55; refine (iIsMatrix_any _ _ _ m _ HM.out).mono ?_; rintro e w' ⟨rfl, rfl⟩))
    go_ret2
    rw [hg.out]
    exact ⟨_, rfl, OIntss.none_ _ _, Below.refl _ _⟩
  by_cases h2 : n < 0
  · have hg : Hid (powM m n = none) := powM_none2 (inR_no (.inl h2))
    have hd : decide (n < 0) = true := by simpa using h2
    go_enter Tryz.func42, Tryz.ntmps42
    go_wp2_with (first | (go_at_call 55; refine (iIsMatrix_any _ _ _ m _ HM.out).mono ?_; rintro e w' ⟨rfl, rfl⟩))
    go_ret2
    rw [hg.out]
    exact ⟨_, rfl, OIntss.none_ _ _, Below.refl _ _⟩
  by_cases h3 : 30 < n
  · have hg : Hid (powM m n = none) := powM_none2 (inR_no (.inr h3))
    have hd : decide (n < 0) = false := by simpa using h2
    go_enter Tryz.func42, Tryz.ntmps42
    go_wp2_with (first | (go_at_call 55; refine (iIsMatrix_any _ _ _ m _ HM.out).mono ?_; rintro e w' ⟨rfl, rfl⟩))
    go_ret2
    rw [hg.out]
    exact ⟨_, rfl, OIntss.none_ _ _, Below.refl _ _⟩
  obtain ⟨q, rfl⟩ := Int.eq_ofNat_of_zero_le (show 0 ≤ n by omega)
  have hq : q ≤ 30 := by omega
  have hd : decide ((q : Int) < 0) = false := by simp
  have hg : Hid (powM m q = iterM m q (oneT nm)) := by have := powM_iter h1 (n := q) (inR_mk ⟨by omega, by omega⟩); rw [HLM.out] at this; exact this
  have hn9 : nm ≤ 9 := by have := isMat_len h1; have := HLM.out; omega
  clear h2 h3
  go_enter Tryz.func42, Tryz.ntmps42
  go_wp2_with (first | (go_at_call 55; refine (iIsMatrix_any _ _ _ m _ HM.out).mono ?_; rintro e w' ⟨rfl, rfl⟩))
  clear h1 hd
  refine (iUnit_any nm _ (by omega)).mono ?_
  rintro e w1 ⟨v, rfl, hown, hbl⟩
  have Hown := Lib.hid hown
  have Hbl := Lib.hid hbl
  clear hown hbl
  go_wp2_with fail
  go_loopw [6, 23] (fun v i wr => ∃ (k : Nat) (acc : List (List Int)), k ≤ q ∧ i = .int .i64 k ∧ OIntss wr w.heap.size v nm acc ∧ Hid (iterM m (q - k) acc = iterM m q (oneT nm)) ∧ Below w.heap.size w wr) (fun _ i _ => q - (intOf i).toNat)
  case atStart => exact ⟨0, _, Nat.zero_le _, rfl, Hown.out, rfl, Hbl.out⟩
  case round =>
    obtain ⟨k, acc, hk, rfl, hown, hit, hbl⟩ := hrel
    obtain ⟨wo, rfl⟩ : ∃ wo : World, wo = wr := ⟨_, rfl⟩
    clear Hown Hbl
    by_cases hlt : k < q
    · have Hstep : Hid (q - k = (q - (k + 1)) + 1) := by show q - k = _; omega
      obtain ⟨ao, cap, rfl, hi⟩ := hown.form
      have Hi := Lib.hid hi
      have Hbl := Lib.hid hbl
      clear hi hbl hown
      go_wp2_with fail
      refine (iMulM_any _ _ _ acc _ _ _ m _ Hi.out (HM.out.keep (Hbl.out.mono (Nat.le_refl _)))).mono ?_
      rintro e w2 ⟨v2, rfl, hown2, hb2⟩
      cases hp : mulM acc m with
      | none =>
        have hr1 : Hid (powM m q = none) := by
          have h5 := hit.out
          rw [Hstep.out, iterM_none hp] at h5
          show powM m q = none
          rw [hg.out, h5]
        have Hb2 := Lib.hid (Hbl.out.trans (hb2.mono Hbl.out.size))
        clear hown2 hb2 hit
        go_wp2_with fail
        go_ret2
        rw [hr1.out]
        exact ⟨_, rfl, OIntss.none_ _ _, Hb2.out⟩
      | some p =>
        have hit' : Hid (iterM m (q - (k + 1)) p = iterM m q (oneT nm)) := by
          have h5 := hit.out
          rw [Hstep.out, iterM_some hp] at h5
          exact h5
        have hpl : p.length = nm := by have := (mulM_mat hp).2; rw [this, HLM.out]
        rw [hp] at hown2
        have hown3 : OIntss w2 w.heap.size v2 nm p := by
          have h6 : OIntss w2 wo.heap.size v2 p.length p := hown2
          rw [hpl] at h6
          exact h6.mono Hbl.out.size
        have Hown3 := Lib.hid hown3
        have Hb2 := Lib.hid (Hbl.out.trans (hb2.mono Hbl.out.size))
        clear hown2 hb2 hit hown3 hpl
        go_wp2_with fail
        go_roundw
        case rel => exact ⟨k + 1, p, hlt, by go_num, Hown3.out, hit', Hb2.out⟩
        case measure => simp [intOf]; omega
    · have hr1 : Hid (powM m q = some acc) := by
        have h5 := hit.out
        rw [show q - k = 0 from by omega] at h5
        show powM m q = some acc
        rw [hg.out, ← h5]
        rfl
      have Hown := Lib.hid hown
      have Hbl := Lib.hid hbl
      clear hown hbl hit
      go_wp2_with fail
      go_ret2
      rw [hr1.out]
      refine ⟨_, rfl, ?_, Hbl.out⟩
      show OIntss wo w.heap.size _ acc.length acc
      rw [Hown.out.len]
      exact Hown.out
end Go.Proofs.YtbjoblgklcilpaaGreat

namespace Go.Proofs.YtbjoblgklcilpaaGreat
open Go.RowKit
set_option linter.all false
set_option maxHeartbeats 1600000 in
theorem iClosed_any (pm : Option Addr) (nm cm : Nat) (m : List (List Int)) (n : Int) (w : World) (h : Intss w pm nm m) :
    Calls Tryz.prog 15 #[.slice pm nm cm, .int .i64 n] w fun e w' => e = .returned (.int .i64 (closed m n)) ∧ Below w.heap.size w w' := by
  have H := Lib.hid h
  clear h
  by_cases hl : n < 1
  · have hg := Lib.hid (closed_n (m := m) (inR_no (x := n) (lo := 1) (hi := 30) (.inl hl)))
    go_enter Tryz.func15, Tryz.ntmps15
    go_wp2_with fail
    go_ret
    exact ⟨ret_int hg.out.symm, Below.refl _ _⟩
  cases ht : powM m n with
  | none =>
    have hg := Lib.hid (closed_none ht)
    have hs : (powM m n).isSome = false := by simp [ht]
    clear ht
    go_enter Tryz.func15, Tryz.ntmps15
    go_wp2_with (first
          | (go_at_call 42; refine (iPowM_any _ _ _ m _ _ H.out).mono ?_; rintro e w1 ⟨v, rfl, hown, hbl⟩; have Hbl := Lib.hid hbl; clear hown hbl))
    go_ret
    exact ⟨ret_int hg.out.symm, Hbl.out⟩
  | some p =>
    have hs : (powM m n).isSome = true := by simp [ht]
    have HPM := Lib.hid (powM_mat ht).2.1
    have HG : Hid ((powM m n).getD [] = p) := by show (powM m n).getD [] = p; simp [ht]
    have h1 : inR n 1 30 = true := by
      cases h6 : inR n 0 30 with
      | false => rw [powM_none2 h6] at ht; cases ht
      | true => exact inR_mk ⟨by omega, (inR_true h6).2⟩
    have hg := Lib.hid (closed_some h1 ht)
    clear ht
    go_enter Tryz.func15, Tryz.ntmps15
    go_wp2_with (first
          | (go_at_call 42; refine (iPowM_any _ _ _ m _ _ H.out).mono ?_; rintro e w1 ⟨v, rfl, hown, hbl⟩; obtain ⟨ao, cap, rfl, hin⟩ := hown.form; rw [HG.out] at hin; have Hin := Lib.hid hin; have Hbl := Lib.hid hbl; clear hown hbl hin; rw [HG.out])
          | (go_at_call 43; refine (iTrace_any _ _ _ p _ Hin.out HPM.out).mono ?_; rintro e w' ⟨rfl, rfl⟩))
    go_ret
    exact ⟨ret_int hg.out.symm, Hbl.out⟩
end Go.Proofs.YtbjoblgklcilpaaGreat

namespace Go.Proofs.YtbjoblgklcilpaaGreat
open Go.RowKit
set_option linter.all false
set_option maxHeartbeats 1600000 in
theorem sMoeb_any (n : Int) (w : World) : Calls Tryz.prog 22 #[.int .i64 n] w fun e w' => e = .returned (.int .i64 (moeb n)) ∧ w = w' := by
  cases h1 : inR n 1 1000
  · have hg : Hid (moeb n = 0) := by show _ = _; simp [moeb, h1]
    go_enter Tryz.func22, Tryz.ntmps22
    go_wp2_with (go_at_call 40; refine (l1In_any _ _ _ _).mono ?_; rintro e w' ⟨rfl, rfl⟩)
    go_ret
    exact ⟨ret_int hg.out.symm, rfl⟩
  have hb := inR_true h1
  obtain ⟨n0, rfl⟩ := Int.eq_ofNat_of_zero_le (show 0 ≤ n by omega)
  have HM : Hid (mb (1001 - 2) n0 2 1 = moeb (n0 : Int)) := by show _ = _; simp [moeb, h1]
  have hn0 : n0 ≤ 1000 := by omega
  clear hb
  go_enter Tryz.func22, Tryz.ntmps22
  go_wp2_with (go_at_call 40; refine (l1In_any _ _ _ _).mono ?_; rintro e w' ⟨rfl, rfl⟩)
  clear h1
  go_loop [0, 3, 4] (fun vn vo vp => ∃ (n p : Nat) (o : Int), vn = .int .i64 n ∧ vo = .int .i64 o ∧ vp = .int .i64 p ∧ n ≤ 1000 ∧ 2 ≤ p ∧ p ≤ 1001 ∧ -1 ≤ o ∧ o ≤ 1 ∧ Hid (mb (1001 - p) n p o = moeb (n0 : Int))) (fun _ _ vp => 1001 - (intOf vp).toNat)
  case atStart => exact ⟨n0, 2, 1, rfl, rfl, rfl, hn0, by omega, by omega, by omega, by omega, HM.out⟩
  case round =>
    clear hn0 HM
    obtain ⟨n, p, o, rfl, rfl, rfl, hn, hp2, hp1, ho1, ho2, hm⟩ := hrel
    by_cases hle : p ≤ n
    · have Hst := Lib.hid (mb_step hn hle hm)
      clear hm
      have hp0 : 0 < p := by omega
      have HD : n / p ≤ n := Nat.div_le_self n p
      have hq0 := (divI_bounds n p).1
      have hq1 : (n : Int) / (p : Int) ≤ 1000 := Int.le_trans (divI_bounds n p).2 (by omega)
      by_cases hz : n % p = 0
      · have hz1 := modI_z hz
        by_cases hz2 : n / p % p = 0
        · have hz3 := divmodI_z hz2
          have HR := Lib.hid (Hst.out.2.1 hz hz2)
          clear Hst hz hz2
          go_wp2_with fail
          go_ret
          exact ⟨ret_int HR.out.symm, rfl⟩
        · have hz3 := divmodI_nz hz2
          have HR := Hst.out.2.2 hz hz2
          clear Hst hz hz2
          go_wp2_with fail
          go_round
          case rel => exact ⟨n / p, p + 1, -o, by rw [divI], rfl, by go_num, by omega, by omega, by omega, by omega, by omega, HR⟩
          case measure => simp [intOf]; omega
      · have hz1 := modI_nz hz
        have HR := Hst.out.1 hz
        clear Hst hz
        go_wp2_with fail
        go_round
        case rel => exact ⟨n, p + 1, o, rfl, rfl, by go_num, by omega, by omega, by omega, by omega, by omega, HR⟩
        case measure => simp [intOf]; omega
    · have HR : Hid (o = moeb (n0 : Int)) := by have := hm.out; rw [mb_stop (by omega)] at this; exact this
      clear hm
      go_wp2_with fail
      go_ret
      exact ⟨ret_int HR.out, rfl⟩
end Go.Proofs.YtbjoblgklcilpaaGreat

namespace Go.Proofs.YtbjoblgklcilpaaGreat
open Go.RowKit
set_option linter.all false
set_option maxHeartbeats 1600000 in
theorem sLp_any (pm : Option Addr) (nm cm : Nat) (m : List (List Int)) (n : Int) (w : World) (h : Intss w pm nm m) :
    Calls Tryz.prog 18 #[.slice pm nm cm, .int .i64 n] w fun e w' => e = .returned (.int .i64 (lp m n)) ∧ Below w.heap.size w w' := by
  have H := Lib.hid h
  clear h
  by_cases h12 : 12 < n
  · have hg : Hid (lp m n = -1) := by show _ = _; simp [lp, h12]
    go_enter Tryz.func18, Tryz.ntmps18
    go_wp2_with fail
    go_ret
    exact ⟨ret_int hg.out.symm, Below.refl _ _⟩
  have hd12 : decide (12 < n) = false := by simpa using h12
  by_cases hc : closed m n < 0
  · have hg : Hid (lp m n = -1) := by show _ = _; simp [lp, h12, hc]
    have hdc : decide (closed m n < 0) = true := by simpa using hc
    clear hc
    go_enter Tryz.func18, Tryz.ntmps18
    go_wp2_with (go_at_call 16; refine (sClosed_any _ _ _ m _ _ H.out).mono ?_; rintro e w1 ⟨rfl, hb1⟩; have Hb1 := Lib.hid hb1; clear hb1)
    go_ret
    exact ⟨ret_int hg.out.symm, Hb1.out⟩
  have hr := closed_range hc
  have hdc : decide (closed m n < 0) = false := by simpa using hc
  obtain ⟨n0, rfl⟩ := Int.eq_ofNat_of_zero_le (show 0 ≤ n by omega)
  have hn0 : n0 ≤ 12 := by omega
  have HG : Hid (lpLoop m n0 (n0 + 1 - 1) 1 0 = lp m (n0 : Int)) := by show _ = _; simp [lp, h12, hc]
  clear hr h12 hc
  go_enter Tryz.func18, Tryz.ntmps18
  go_wp2_with (go_at_call 16; refine (sClosed_any _ _ _ m _ _ H.out).mono ?_; rintro e w1 ⟨rfl, hb1⟩; have Hb1 := Lib.hid hb1; clear hb1)
  clear hdc hd12
  go_loopw [5, 6] (fun vs vd wr => ∃ (d : Nat) (s : Int), 1 ≤ d ∧ d ≤ n0 + 1 ∧ vs = .int .i64 s ∧ vd = .int .i64 d ∧ Hid (lpLoop m n0 (n0 + 1 - d) d s = lp m (n0 : Int)) ∧ Below w.heap.size w wr) (fun _ vd _ => n0 + 1 - (intOf vd).toNat)
  case atStart => exact ⟨1, 0, by omega, by omega, rfl, rfl, HG.out, Hb1.out⟩
  case round =>
    obtain ⟨d, s, hd1, hd2, rfl, rfl, hl, hb⟩ := hrel
    have HB := Lib.hid hb
    have HM := Lib.hid (H.out.keep hb)
    clear hb
    by_cases hle : d ≤ n0
    · have HS := Lib.hid (lp_step hle hl)
      have hq0 := (divI_bounds n0 d).1
      have hq1 : (n0 : Int) / (d : Int) ≤ 12 := Int.le_trans (divI_bounds n0 d).2 (by omega)
      clear hl
      by_cases hz : n0 % d = 0
      · have hz1 := modE_z hz
        have HR := HS.out.1 hz
        clear HS hz
        go_wp2_with (first
          | (go_at_call 22; refine (sMoeb_any _ _).mono ?_; rintro e w' ⟨rfl, rfl⟩)
          | (go_at_call 16; refine (sClosed_any _ _ _ m _ _ HM.out).mono ?_; rintro e w2 ⟨rfl, hb2⟩; have Hb2 := Lib.hid hb2; clear hb2))
        go_roundw
        case rel => exact ⟨d + 1, _, by omega, by omega, rfl, by go_num, HR, step2 HB.out Hb2.out⟩
        case measure => simp [intOf]; omega
      · have hz1 := modE_nz hz
        have HR := HS.out.2 hz
        clear HS hz
        go_wp2_with fail
        go_roundw
        case rel => exact ⟨d + 1, s, by omega, by omega, rfl, by go_num, HR, HB.out⟩
        case measure => simp [intOf]; omega
    · have HE : Hid (s = lp m (n0 : Int)) := by have := hl.out; rw [show n0 + 1 - d = 0 by omega] at this; exact this
      clear hl
      go_wp2_with fail
      go_ret
      exact ⟨ret_int HE.out, HB.out⟩
end Go.Proofs.YtbjoblgklcilpaaGreat

namespace Go.Proofs.YtbjoblgklcilpaaGreat
open Go.RowKit
set_option linter.all false
set_option maxHeartbeats 1600000 in
theorem iMoeb_any (n : Int) (w : World) : Calls Tryz.prog 21 #[.int .i64 n] w fun e w' => e = .returned (.int .i64 (moeb n)) ∧ w = w' := by
  by_cases hl : n < 1
  · have hg : Hid (moeb n = 0) := by show _ = _; simp [moeb, inR_no (x := n) (lo := 1) (hi := 1000) (.inl hl)]
    go_enter Tryz.func21, Tryz.ntmps21
    go_wp2_with fail
    go_ret
    exact ⟨ret_int hg.out.symm, rfl⟩
  by_cases hh : 1000 < n
  · have hg : Hid (moeb n = 0) := by show _ = _; simp [moeb, inR_no (x := n) (lo := 1) (hi := 1000) (.inr hh)]
    have hd1 : decide (n < 1) = false := by simpa using hl
    go_enter Tryz.func21, Tryz.ntmps21
    go_wp2_with fail
    go_ret
    exact ⟨ret_int hg.out.symm, rfl⟩
  have h1 : inR n 1 1000 = true := inR_mk ⟨by omega, by omega⟩
  have hd1 : decide (n < 1) = false := by simpa using hl
  have hd2 : decide (1000 < n) = false := by simpa using hh
  have hb := inR_true h1
  obtain ⟨n0, rfl⟩ := Int.eq_ofNat_of_zero_le (show 0 ≤ n by omega)
  have HM : Hid (mb (1001 - 2) n0 2 1 = moeb (n0 : Int)) := by show _ = _; simp [moeb, h1]
  have hn0 : n0 ≤ 1000 := by omega
  clear hb
  go_enter Tryz.func21, Tryz.ntmps21
  go_wp2_with fail
  clear h1
  go_loop [0, 3, 4] (fun vn vo vp => ∃ (n p : Nat) (o : Int), vn = .int .i64 n ∧ vo = .int .i64 o ∧ vp = .int .i64 p ∧ n ≤ 1000 ∧ 2 ≤ p ∧ p ≤ 1001 ∧ -1 ≤ o ∧ o ≤ 1 ∧ Hid (mb (1001 - p) n p o = moeb (n0 : Int))) (fun _ _ vp => 1001 - (intOf vp).toNat)
  case atStart => exact ⟨n0, 2, 1, rfl, rfl, rfl, hn0, by omega, by omega, by omega, by omega, HM.out⟩
  case round =>
    clear hn0 HM
    obtain ⟨n, p, o, rfl, rfl, rfl, hn, hp2, hp1, ho1, ho2, hm⟩ := hrel
    by_cases hle : p ≤ n
    · have Hst := Lib.hid (mb_step hn hle hm)
      clear hm
      have hp0 : 0 < p := by omega
      have HD : n / p ≤ n := Nat.div_le_self n p
      have hq0 := (divI_bounds n p).1
      have hq1 : (n : Int) / (p : Int) ≤ 1000 := Int.le_trans (divI_bounds n p).2 (by omega)
      by_cases hz : n % p = 0
      · have hz1 := modI_z hz
        by_cases hz2 : n / p % p = 0
        · have hz3 := divmodI_z hz2
          have HR := Lib.hid (Hst.out.2.1 hz hz2)
          clear Hst hz hz2
          go_wp2_with fail
          go_ret
          exact ⟨ret_int HR.out.symm, rfl⟩
        · have hz3 := divmodI_nz hz2
          have HR := Hst.out.2.2 hz hz2
          clear Hst hz hz2
          go_wp2_with fail
          go_round
          case rel => exact ⟨n / p, p + 1, -o, by rw [divI], rfl, by go_num, by omega, by omega, by omega, by omega, by omega, HR⟩
          case measure => simp [intOf]; omega
      · have hz1 := modI_nz hz
        have HR := Hst.out.1 hz
        clear Hst hz
        go_wp2_with fail
        go_round
        case rel => exact ⟨n, p + 1, o, rfl, rfl, by go_num, by omega, by omega, by omega, by omega, by omega, HR⟩
        case measure => simp [intOf]; omega
    · have HR : Hid (o = moeb (n0 : Int)) := by have := hm.out; rw [mb_stop (by omega)] at this; exact this
      clear hm
      go_wp2_with fail
      go_ret
      exact ⟨ret_int HR.out, rfl⟩
end Go.Proofs.YtbjoblgklcilpaaGreat

namespace Go.Proofs.YtbjoblgklcilpaaGreat
open Go.RowKit
set_option linter.all false
set_option maxHeartbeats 1600000 in
theorem iLp_any (pm : Option Addr) (nm cm : Nat) (m : List (List Int)) (n : Int) (w : World) (h : Intss w pm nm m) :
    Calls Tryz.prog 17 #[.slice pm nm cm, .int .i64 n] w fun e w' => e = .returned (.int .i64 (lp m n)) ∧ Below w.heap.size w w' := by
  have H := Lib.hid h
  clear h
  by_cases h12 : 12 < n
  · have hg : Hid (lp m n = -1) := by show _ = _; simp [lp, h12]
    go_enter Tryz.func17, Tryz.ntmps17
    go_wp2_with fail
    go_ret
    exact ⟨ret_int hg.out.symm, Below.refl _ _⟩
  have hd12 : decide (12 < n) = false := by simpa using h12
  by_cases hc : closed m n < 0
  · have hg : Hid (lp m n = -1) := by show _ = _; simp [lp, h12, hc]
    have hdc : decide (closed m n < 0) = true := by simpa using hc
    clear hc
    go_enter Tryz.func17, Tryz.ntmps17
    go_wp2_with (go_at_call 15; refine (iClosed_any _ _ _ m _ _ H.out).mono ?_; rintro e w1 ⟨rfl, hb1⟩; have Hb1 := Lib.hid hb1; clear hb1)
    go_ret
    exact ⟨ret_int hg.out.symm, Hb1.out⟩
  have hr := closed_range hc
  have hdc : decide (closed m n < 0) = false := by simpa using hc
  obtain ⟨n0, rfl⟩ := Int.eq_ofNat_of_zero_le (show 0 ≤ n by omega)
  have hn0 : n0 ≤ 12 := by omega
  have HG : Hid (lpLoop m n0 (n0 + 1 - 1) 1 0 = lp m (n0 : Int)) := by show _ = _; simp [lp, h12, hc]
  clear hr h12 hc
  go_enter Tryz.func17, Tryz.ntmps17
  go_wp2_with (go_at_call 15; refine (iClosed_any _ _ _ m _ _ H.out).mono ?_; rintro e w1 ⟨rfl, hb1⟩; have Hb1 := Lib.hid hb1; clear hb1)
  clear hdc hd12
  go_loopw [5, 6] (fun vs vd wr => ∃ (d : Nat) (s : Int), 1 ≤ d ∧ d ≤ n0 + 1 ∧ vs = .int .i64 s ∧ vd = .int .i64 d ∧ Hid (lpLoop m n0 (n0 + 1 - d) d s = lp m (n0 : Int)) ∧ Below w.heap.size w wr) (fun _ vd _ => n0 + 1 - (intOf vd).toNat)
  case atStart => exact ⟨1, 0, by omega, by omega, rfl, rfl, HG.out, Hb1.out⟩
  case round =>
    obtain ⟨d, s, hd1, hd2, rfl, rfl, hl, hb⟩ := hrel
    have HB := Lib.hid hb
    have HM := Lib.hid (H.out.keep hb)
    clear hb
    by_cases hle : d ≤ n0
    · have HS := Lib.hid (lp_step hle hl)
      have hq0 := (divI_bounds n0 d).1
      have hq1 : (n0 : Int) / (d : Int) ≤ 12 := Int.le_trans (divI_bounds n0 d).2 (by omega)
      clear hl
      by_cases hz : n0 % d = 0
      · have hz1 := modE_z hz
        have HR := HS.out.1 hz
        clear HS hz
        go_wp2_with (first
          | (go_at_call 21; refine (iMoeb_any _ _).mono ?_; rintro e w' ⟨rfl, rfl⟩)
          | (go_at_call 15; refine (iClosed_any _ _ _ m _ _ HM.out).mono ?_; rintro e w2 ⟨rfl, hb2⟩; have Hb2 := Lib.hid hb2; clear hb2))
        go_roundw
        case rel => exact ⟨d + 1, _, by omega, by omega, rfl, by go_num, HR, step2 HB.out Hb2.out⟩
        case measure => simp [intOf]; omega
      · have hz1 := modE_nz hz
        have HR := HS.out.2 hz
        clear HS hz
        go_wp2_with fail
        go_roundw
        case rel => exact ⟨d + 1, s, by omega, by omega, rfl, by go_num, HR, HB.out⟩
        case measure => simp [intOf]; omega
    · have HE : Hid (s = lp m (n0 : Int)) := by have := hl.out; rw [show n0 + 1 - d = 0 by omega] at this; exact this
      clear hl
      go_wp2_with fail
      go_ret
      exact ⟨ret_int HE.out, HB.out⟩
end Go.Proofs.YtbjoblgklcilpaaGreat

namespace Go.Proofs.YtbjoblgklcilpaaGreat
open Go.RowKit
set_option linter.all false
set_option maxHeartbeats 800000 in
theorem sCntO_any (pm : Option Addr) (nm cm : Nat) (m : List (List Int)) (n : Int) (w : World) (h : Intss w pm nm m) :
    Calls Tryz.prog 20 #[.slice pm nm cm, .int .i64 n] w fun e w' => e = .returned (.int .i64 (cntO m n)) ∧ Below w.heap.size w w' := by
  have H := Lib.hid h
  clear h
  go_enter Tryz.func20, Tryz.ntmps20
  go_wp2_with fail
  refine (sLp_any _ _ _ m n _ H.out).mono ?_
  rintro e w1 ⟨rfl, hb⟩
  have HB := Lib.hid hb
  clear hb
  by_cases hl : lp m n < 0
  · have HR : Hid (cntO m n = -1) := by show _ = _; simp [cntO, hl]
    go_wp2_with fail
    go_ret
    exact ⟨ret_int HR.out.symm, HB.out⟩
  · have HR : Hid (cntO m n = lp m n / n) := by show _ = _; simp [cntO, hl]
    have h1 := (lp_range hl).1
    have h12 := (lp_range hl).2.1
    have h2 := lp_big hl
    have hn0 : ¬ n = 0 := by omega
    have hnz : (n == 0) = false := by simpa using hn0
    have hd : decide (lp m n < 0) = false := by simpa using hl
    go_wp2_with fail
    go_ret
    exact ⟨ret_int HR.out.symm, HB.out⟩
end Go.Proofs.YtbjoblgklcilpaaGreat

namespace Go.Proofs.YtbjoblgklcilpaaGreat
open Go.RowKit
set_option linter.all false
set_option maxHeartbeats 800000 in
theorem iCntO_any (pm : Option Addr) (nm cm : Nat) (m : List (List Int)) (n : Int) (w : World) (h : Intss w pm nm m) :
    Calls Tryz.prog 19 #[.slice pm nm cm, .int .i64 n] w fun e w' => e = .returned (.int .i64 (cntO m n)) ∧ Below w.heap.size w w' := by
  have H := Lib.hid h
  clear h
  go_enter Tryz.func19, Tryz.ntmps19
  go_wp2_with fail
  refine (iLp_any _ _ _ m n _ H.out).mono ?_
  rintro e w1 ⟨rfl, hb⟩
  have HB := Lib.hid hb
  clear hb
  by_cases hl : lp m n < 0
  · have HR : Hid (cntO m n = -1) := by show _ = _; simp [cntO, hl]
    go_wp2_with fail
    go_ret
    exact ⟨ret_int HR.out.symm, HB.out⟩
  · have HR : Hid (cntO m n = lp m n / n) := by show _ = _; simp [cntO, hl]
    have h1 := (lp_range hl).1
    have h12 := (lp_range hl).2.1
    have h2 := lp_big hl
    have hn0 : ¬ n = 0 := by omega
    have hnz : (n == 0) = false := by simpa using hn0
    have hd : decide (lp m n < 0) = false := by simpa using hl
    go_wp2_with fail
    go_ret
    exact ⟨ret_int HR.out.symm, HB.out⟩
end Go.Proofs.YtbjoblgklcilpaaGreat

namespace Go.Proofs.YtbjoblgklcilpaaGreat
open Go.RowKit
set_option linter.all false
/- Words that avoid forbidden ones. -/
def MaxM (w : World) : Prop := ∃ m, w.cell? ⟨0, 0, none⟩ = some (.int .i64 m)
theorem maxM_of {w : World} (h : w.ShapedOpen Tryz.prog) : MaxM w := Tryz.laysM144.s1_3 w h
theorem MaxM.keep {w w' : World} (h : MaxM w) (hb : Below w.heap.size w w') : MaxM w' := by
  obtain ⟨m, h⟩ := h
  exact ⟨m, (hb.cell (World.block_lt_of_cell? w _ h)).trans h⟩
theorem occ_contains (s p : ByteArray) (h0 : 0 < p.size) : occ s p = Lib.contains s.data.toList p.data.toList := by
  have hps : p.data.toList.length = p.size := Array.length_toList
  have hss : s.data.toList.length = s.size := Array.length_toList
  unfold Lib.contains
  cases h : occ s p
  · have hn : Lib.index s.data.toList p.data.toList = -1 := by
      refine Lib.index_none fun j hj => ?_
      cases hq : Lib.occAt s.data.toList p.data.toList j
      · rfl
      · rcases Lib.occAt_room hq with h1 | h1
        · have := (occ_iff h0).2 ⟨j, by omega, hq⟩
          rw [h] at this; cases this
        · rw [h1] at hps; simp at hps; omega
    rw [hn]; rfl
  · obtain ⟨j, h1, h2⟩ := (occ_iff h0).1 h
    obtain ⟨m, h3, h4, h5⟩ := least_of (P := fun j => Lib.occAt s.data.toList p.data.toList j = true) j h2
    have hi := Lib.index_first (s := s.data.toList) (sub := p.data.toList) (i := m) (by omega) h4 (fun j hj => by simpa using h5 j hj)
    rw [hi]; symm; simp
set_option maxHeartbeats 800000 in
theorem iAvoids_any (K : Int) (ao : Option Addr) (n cap : Nat) (F : List ByteArray) (s : ByteArray) (w : World) (h : Strs w ao n F) (hs : s.size ≤ 100) (hF : ∀ f ∈ F, 0 < f.size ∧ f.size ≤ 100) (hm : MaxM w) :
    Calls Tryz.prog 38 #[.agg #[.int .i64 K, .slice ao n cap], .string s] w fun e w' => e = .returned (.bool (avB F s)) ∧ Below w.heap.size w w' := by
  have hn := h.1
  have hm1 := h.2.1
  have HB := Lib.hid (below1 w (.cells #[.int .i64 K, .slice ao n cap] 32))
  have H := Lib.hid (h.keep HB.out)
  have HK := Blk.new w 32 #[.int .i64 K, .slice ao n cap]
  have k1 : (w.alloc (.cells #[.int .i64 K, .slice ao n cap] 32)).cell? ⟨w.heap.size, 1, none⟩ = some (.slice ao n cap) := HK.cell 1
  obtain ⟨mx, hmx⟩ := hm.keep HB.out
  have HX := Lib.hid hmx
  clear h hm HK hmx
  go_enter Tryz.func38, Tryz.ntmps38
  go_wp2_with fail
  generalize w.alloc (.cells #[.int .i64 K, .slice ao n cap] 32) = w1 at HB H k1 HX ⊢
  clear k1
  go_loop [10] (fun x => ∃ k : Nat, k ≤ n ∧ x = .int .i64 k ∧ Hid ((F.drop k).all (fun f => !occ s f) = avB F s)) (fun x => n - (intOf x).toNat)
  case atStart => exact ⟨0, Nat.zero_le _, rfl, rfl⟩
  case round =>
    obtain ⟨k, hk, rfl, hr⟩ := hrel
    by_cases hlt : k < n
    · obtain ⟨b, o, f, rfl, hc, hf⟩ := H.out.at_ hlt
      have HST := Lib.hid (av_step hf.out hr.out)
      have hfs := hF f (List.mem_of_getElem? hf.out)
      have HOC := Lib.hid (occ_contains s f hfs.1)
      clear hf hr
      cases ho : occ s f
      · have HN := Lib.hid (HST.out.2 ho)
        have HO : Hid (Lib.contains s.data.toList f.data.toList = false) := by show _ = _; rw [← HOC.out]; exact ho
        clear HST ho
        go_wp2_with (go_at_call 67; refine (Tryz.strings_Contains s f mx _ (by omega) HX.out).mono ?_; rw [HO.out]; rintro e w' ⟨rfl, rfl⟩)
        go_round
        case rel => exact ⟨k + 1, hlt, by go_num, HN.out⟩
        case measure => simp [intOf]; omega
      · have HN := Lib.hid (HST.out.1 ho)
        have HO : Hid (Lib.contains s.data.toList f.data.toList = true) := by show _ = _; rw [← HOC.out]; exact ho
        clear HST ho
        go_wp2_with (go_at_call 67; refine (Tryz.strings_Contains s f mx _ (by omega) HX.out).mono ?_; rw [HO.out]; rintro e w' ⟨rfl, rfl⟩)
        go_ret
        exact ⟨ret_bool HN.out.symm, HB.out⟩
    · have HE : Hid (avB F s = true) := by
        show _ = _
        rw [← hr.out, List.drop_eq_nil_of_le (by omega)]
        rfl
      clear hr
      go_wp2_with fail
      go_ret
      exact ⟨ret_bool HE.out.symm, HB.out⟩
end Go.Proofs.YtbjoblgklcilpaaGreat

namespace Go.Proofs.YtbjoblgklcilpaaGreat
open Go.RowKit
set_option linter.all false
set_option maxRecDepth 20000 in
set_option maxHeartbeats 6400000 in
theorem sIn_any (K : Int) (aF : Option Addr) (nF cF : Nat) (F : List ByteArray) (aP : Option Addr) (n cP : Nat) (P : List ByteArray) (s : ByteArray) (w : World) (h : Strs w aF nF F) (hF : ∀ f ∈ F, f.size ≤ 100) (hp : Strs w aP n P) (hP : ∀ p ∈ P, p.size ≤ 100) (hs : s.size ≤ 100) :
    Calls Tryz.prog 103 #[.agg #[.int .i64 K, .slice aF nF cF], .slice aP n cP, .string s] w fun e w' => e = .returned (.bool (inL F P s)) ∧ Below w.heap.size w w' := by
  have hm := hp.2.1
  have HB1 := Lib.hid (below1 w (.cells #[.int .i64 K, .slice aF nF cF] 32))
  have HF1 := Lib.hid (h.keep HB1.out)
  have HP1 := Lib.hid (hp.keep HB1.out)
  have HK1 := Lib.hid (Blk.new w 32 #[.int .i64 K, .slice aF nF cF])
  have k1 : (w.alloc (.cells #[.int .i64 K, .slice aF nF cF] 32)).cell? ⟨w.heap.size, 1, none⟩ = some (.slice aF nF cF) := HK1.out.cell 1
  have HL := Lib.hid hp.1
  have HPs := Lib.hid hP
  have hFs := Lib.hid hF
  clear h hp hP hF
  by_cases h0 : n = 0
  · have HR : Hid (inL F P s = false) := by
      show _ = _
      have e : P = [] := List.eq_nil_of_length_eq_zero (by rw [HL.out]; exact h0)
      subst e
      rfl
    have d0 : ((n : Int) == 0) = true := beq_iff_eq.2 (by omega)
    clear h0 k1
    go_enter Tryz.func103, Tryz.ntmps103
    go_wp2_with fail
    go_ret
    exact ⟨ret_bool HR.out.symm, HB1.out⟩
  have d0 : ((n : Int) == 0) = false := beq_eq_false_iff_ne.2 (by omega)
  have HNE : Hid (P.isEmpty = false) := by
    show _ = _
    cases P with
    | nil => exact absurd HL.out.symm h0
    | cons a b => rfl
  clear h0
  have HAV := fun W (q : Strs W aF nF F) => sAvoids_any aF nF cF F s W q hs hFs.out
  cases ha : avB F s
  · have HR : Hid (inL F P s = false) := by show _ = _; simp [inL, ha]
    rw [ha] at HAV
    have HAV := Lib.hid HAV
    clear ha
    go_enter Tryz.func103, Tryz.ntmps103
    go_wp2_with fail
    refine (HAV.out _ HF1.out).mono ?_
    rintro e w' ⟨rfl, rfl⟩
    go_wp2_with fail
    go_ret
    exact ⟨ret_bool HR.out.symm, HB1.out⟩
  rw [ha] at HAV
  have HAV := Lib.hid HAV
  have HA := Lib.hid ha
  clear ha
  by_cases h2 : 2 ≤ s.size
  · have d2 : decide ((2 : Int) ≤ (s.size : Int)) = true := decide_eq_true (by omega)
    have hw1 : (0 : Int) ≤ (s.size : Int) - 2 := by omega
    have hw2 : (2 : Int) ≤ (s.size : Int) := by omega
    have hw3 : (s.size : Int) - 2 ≤ (s.size : Int) := by omega
    have HC1 := fun W (q : Strs W aP n P) => sHas_any aP n cP P (s.extract 0 2) W q
    cases h1 : hasT P (s.extract 0 2)
    · have HR : Hid (inL F P s = false) := by show _ = _; simp [inL, h1, h2]
      rw [h1] at HC1
      have HC1 := Lib.hid HC1
      clear h1
      go_enter Tryz.func103, Tryz.ntmps103
      go_wp2_with fail
      refine (HAV.out _ HF1.out).mono ?_
      rintro e w' ⟨rfl, rfl⟩
      go_wp2_with fail
      refine (HC1.out _ HP1.out).mono ?_
      rintro e w' ⟨rfl, rfl⟩
      go_wp2_with fail
      go_ret
      exact ⟨ret_bool HR.out.symm, HB1.out⟩
    · have HR : Hid (inL F P s = hasT P (s.extract (s.size - 2) s.size)) := by show _ = _; simp [inL, h1, h2, HNE.out, HA.out]
      rw [h1] at HC1
      have HC1 := Lib.hid HC1
      clear h1
      go_enter Tryz.func103, Tryz.ntmps103
      go_wp2_with fail
      refine (HAV.out _ HF1.out).mono ?_
      rintro e w' ⟨rfl, rfl⟩
      go_wp2_with fail
      refine (HC1.out _ HP1.out).mono ?_
      rintro e w' ⟨rfl, rfl⟩
      go_wp2_with fail
      refine (sHas_any _ _ _ P _ _ HP1.out).mono ?_
      rintro e w' ⟨rfl, rfl⟩
      go_wp2_with fail
      go_ret
      refine ⟨ret_bool ?_, HB1.out⟩
      rw [HR.out]
      all_goals (first | rfl | (congr 2; omega) | simp)
  · have d2 : decide ((2 : Int) ≤ (s.size : Int)) = false := decide_eq_false (by omega)
    have HR : Hid (inL F P s = P.any fun p => occ p s) := by show _ = _; simp [inL, h2, HNE.out, HA.out]
    go_enter Tryz.func103, Tryz.ntmps103
    go_wp2_with fail
    refine (HAV.out _ HF1.out).mono ?_
    rintro e w' ⟨rfl, rfl⟩
    go_wp2_with fail
    go_loop [7] (fun v => ∃ k : Nat, k ≤ n ∧ v = .int .i64 k ∧ Hid ((P.drop k).any (fun p => occ p s) = inL F P s)) (fun v => n - (intOf v).toNat)
    case atStart => exact ⟨0, Nat.zero_le _, rfl, HR.out.symm⟩
    case round =>
      obtain ⟨k, hk, rfl, hr⟩ := hrel
      clear HR
      by_cases hlt : k < n
      · obtain ⟨b, o, p, rfl, hc, hp⟩ := HP1.out.at_ hlt
        have hp100 := HPs.out p (List.mem_of_getElem? hp.out)
        have HST := Lib.hid (any_step hp.out hr.out)
        clear hp hr
        have HO := sOccurs_any p s
        cases ho : occ p s
        · have HN := Lib.hid (HST.out.2 ho)
          rw [ho] at HO
          have HO := Lib.hid HO
          clear HST ho
          go_wp2_with fail
          refine (HO.out _ hp100 hs).mono ?_
          rintro e w' ⟨rfl, rfl⟩
          go_wp2_with fail
          go_round
          case rel => exact ⟨k + 1, hlt, by go_num, HN.out⟩
          case measure => simp [intOf]; omega
        · have HN := Lib.hid (HST.out.1 ho)
          rw [ho] at HO
          have HO := Lib.hid HO
          clear HST ho
          go_wp2_with fail
          refine (HO.out _ hp100 hs).mono ?_
          rintro e w' ⟨rfl, rfl⟩
          go_wp2_with fail
          go_ret
          exact ⟨ret_bool HN.out.symm, HB1.out⟩
      · have HE := Lib.hid (any_end (by have := HL.out; omega) hr.out)
        clear hr
        go_wp2_with fail
        go_ret
        exact ⟨ret_bool HE.out.symm, HB1.out⟩
end Go.Proofs.YtbjoblgklcilpaaGreat
