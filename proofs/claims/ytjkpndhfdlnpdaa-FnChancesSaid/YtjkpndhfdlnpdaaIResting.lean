/- IResting: a part of the proofs of this seat. -/
import Derived.Test.YtjkpndhfdlnpdaaProg
import Derived.Test.YtjkpndhfdlnpdaaResting
import Derived.Test.YtjkpndhfdlnpdaaIIsChance
import Derived.Test.YtjkpndhfdlnpdaaIIrr
import Derived.Test.YtjkpndhfdlnpdaaILess
import Derived.Test.YtjkpndhfdlnpdaaIDet
import Derived.Test.YtjkpndhfdlnpdaaTotal
namespace Go.Proofs.Ytjkpndhfdlnpdaa
open Go.RowKit
set_option linter.all false
set_option maxHeartbeats 1600000 in
theorem iReduced_any (v : Value) (n : Nat) (lo : Nat) (xs : List Int) (w : World) (h : OInts w lo v n xs) (hg : Good xs) (hn : 0 < n) (hm : n ≤ 1048576) (hlo : lo ≤ w.heap.size) :
    Calls Try.prog 98 #[v] w fun e w' => ∃ v', e = .returned v' ∧ OInts w' w.heap.size v' n (redL xs) ∧ Below w.heap.size w w' := by
  have HL : Hid (xs.length = n) := h.len
  obtain ⟨ao, cap, rfl, hi⟩ := h.form
  have HI := Lib.hid hi
  have HGd := Lib.hid hg
  have hgp := gcdL_pos hg (by rw [HL.out]; exact hn)
  obtain ⟨hgp1, hgp2⟩ := hgp
  have HRL : Hid ((redL xs).length = n) := (redL_len xs).trans HL.out
  clear h hi hg
  go_enter Try.func98, Try.ntmps98
  go_wp2_with fail
  go_loopw [3, 11] (fun vd x wr => ∃ (k : Nat) (d : Int), k ≤ n ∧ x = .int .i64 k ∧ vd = .int .i64 d ∧ 0 ≤ d ∧ d ≤ 4000000 ∧ Hid (gcdL d (xs.drop k) = gcdL 0 xs) ∧ Drew w wr) (fun _ x _ => n - (intOf x).toNat)
  case atStart => exact ⟨0, 0, Nat.zero_le _, rfl, rfl, by omega, by omega, rfl, Drew.refl _⟩
  case round =>
    obtain ⟨k, d, hk, rfl, rfl, hd0, hd1, hgd, q, rfl⟩ := hrel
    by_cases hlt : k < n
    · obtain ⟨b, o, x, rfl, hcx, hgx⟩ := HI.out.at_ hlt
      have hxg := HGd.out x (List.mem_of_getElem? hgx.out)
      have HB := Lib.hid (gcdI_bd ⟨hd0, hd1⟩ hxg)
      have HS := Lib.hid (gcdL_step hgx.out hgd.out)
      have hs1 : Hid (Small62 d) := ⟨by omega, by omega⟩
      have hs2 : Hid (Small62 x) := ⟨by omega, by omega⟩
      clear hgx hgd hxg
      go_wp2_with (go_at_call 123; refine (iGcd_any d x _ hs1.out hs2.out).mono ?_; rintro e w2 ⟨rfl, q2, rfl⟩)
      go_roundw
      case rel =>
        have := HB.out
        exact ⟨k + 1, _, hlt, by go_num, rfl, by omega, by omega, HS.out, (by first | exact Drew.refl _ | exact Drew.mk _ _ | exact (Drew.mk _ _).drewN _)⟩
      case measure => simp [intOf]; omega
    · have HE := Lib.hid (gcdL_end (by rw [HL.out]; omega) hgd.out)
      have hdp : 0 < d := by rw [HE.out]; exact hgp1
      clear hgd
      go_wp2_with fail
      go_loopw [6, 22] (fun v x wr => ∃ k : Nat, k ≤ n ∧ x = .int .i64 k ∧ OInts wr w.heap.size v k ((redL xs).take k) ∧ Below w.heap.size w wr) (fun _ x _ => n - (intOf x).toNat)
      case atStart => exact ⟨0, Nat.zero_le _, rfl, OInts.empty (w.drewN q) _ (Nat.le_refl _), (below_drewN (Below.refl _ _) q).alloc (Nat.le_refl _) _⟩
      case round =>
        clear hk hlt
        obtain ⟨k, hk, rfl, hown, hbl⟩ := hrel
        obtain ⟨ao5, cap5, e5, _⟩ := hown.form
        subst e5
        by_cases hlt : k < n
        · obtain ⟨b, o, x, rfl, hcx, hgx⟩ := HI.out.at_ hlt
          have hxg := HGd.out x (List.mem_of_getElem? hgx.out)
          obtain ⟨ha1, ha2, ha3⟩ := quo_bd hxg hdp
          have HP : Hid ((redL xs).take k ++ [wrap64 (x.tdiv d)] = (redL xs).take (k + 1)) := by
            have := redL_get hgx.out
            rw [← HE.out] at this
            rw [wrap_id (by rw [ha1]; omega)]
            exact push_take this
          have q1 := (hbl.cell (World.block_lt_of_cell? w _ hcx)).trans hcx
          have hx0 : 0 ≤ x := by omega
          have hd0' : ¬ d = 0 := by omega
          have Hown := Lib.hid hown
          have Hbl := Lib.hid hbl
          clear hown hbl hcx hgx hxg ha1
          go_wp2_with (first | (at_builtin; refine wpList_push_one _ _ rfl _ _ rfl w.heap.size _ _ _ rfl Hown.out (by omega) Hbl.out.size _ rfl rfl ?_; intro v1 w3 ho1 hb3; have Ho1 := Lib.hid ho1; have Hb3 := Lib.hid hb3; clear ho1 hb3))
          go_roundw
          case rel =>
            have h9 := Ho1.out
            rw [HP.out] at h9
            exact ⟨k + 1, hlt, by go_num, h9, Hbl.out.trans Hb3.out⟩
          case measure => simp [intOf]; omega
        · have e : k = n := by omega
          have HE2 : Hid ((redL xs).take k = redL xs) := by show _ = _; rw [List.take_of_length_le (by rw [HRL.out]; omega)]
          rw [HE2.out, e] at hown
          have Hown := Lib.hid hown
          have Hbl := Lib.hid hbl
          subst e
          clear hown hbl
          go_wp2_with fail
          go_ret
          exact ⟨_, rfl, Hown.out, Hbl.out⟩
set_option maxRecDepth 20000 in
set_option maxHeartbeats 3200000 in
theorem iResting_any (p : Option Addr) (n c : Nat) (t : List (List Int)) (w : World) (h : Intss w p n t) :
    Calls Try.prog 53 #[.slice p n c] w fun e w' => ∃ v, e = .returned (.tuple #[v, .bool (restOk t)]) ∧ OInts w' w.heap.size v (restV t).length (restV t) ∧ Below w.heap.size w w' := by
  have HL : Hid (t.length = n) := h.1
  have H := Lib.hid h
  clear h
  cases hc : isChance t
  · have hg : Hid (restOk t = false) := by show _ = _; simp [restOk, hc]
    have hv : Hid (restV t = []) := by show _ = _; simp [restV, hg.out]
    go_enter Try.func53, Try.ntmps53
    go_wp2_with (first | (go_at_call 59; refine (iIsChance_any _ _ _ t _ H.out).mono ?_; rintro e w' ⟨rfl, rfl⟩))
    go_ret2
    rw [hg.out, hv.out]
    exact ⟨_, rfl, OInts.none_ _ _, Below.refl _ _⟩
  have HMT := Lib.hid (chance_mat hc)
  cases hi : irrT t
  · have hg : Hid (restOk t = false) := by show _ = _; simp [restOk, hi]
    have hv : Hid (restV t = []) := by show _ = _; simp [restV, hg.out]
    go_enter Try.func53, Try.ntmps53
    go_wp2_with (first
      | (go_at_call 59; refine (iIsChance_any _ _ _ t _ H.out).mono ?_; rintro e w' ⟨rfl, rfl⟩)
      | (go_at_call 94; refine (iIrr_any _ _ _ t _ H.out HMT.out).mono ?_; rintro e w1 ⟨rfl, hb1⟩; have Hb1 := Lib.hid hb1; clear hb1))
    go_ret2
    rw [hg.out, hv.out]
    exact ⟨_, rfl, OInts.none_ _ _, Hb1.out⟩
  have hf := chance_facts hc
  have hg : Hid (restOk t = true) := by show _ = _; simp [restOk, hc, hi]
  have hv : Hid (restV t = redL (cofL t)) := by show _ = _; simp [restV, hg.out]
  have HGd := Lib.hid (cofL_good hg.out)
  have hn1 : 1 ≤ n := by have := HL.out; omega
  have hn4 : n ≤ 4 := by have := HL.out; omega
  obtain ⟨b0, o0, a0, c0, r0, rfl, hc0, hrow0, hget0⟩ := H.out.at_ (k := 0) (by omega)
  have hsum : isum 0 (t.getD 0 []) = isum 0 r0 := by rw [getD_get3 hget0.out]
  have hs1 : 1 ≤ isum 0 r0 := by rw [← hsum]; omega
  have hs2 : isum 0 r0 ≤ 60 := by rw [← hsum]; omega
  have HC : Hid (∀ i, i < n → det (n - 1) (minorT (lessT (isum 0 r0) 1 t) i i) = cofAt t i) := fun i hi => by show _ = det (t.length - 1) _; rw [HL.out, hsum]
  have HR := Lib.hid (isMat_rowsLen HMT.out HL.out)
  have HRR : Hid (RowsLen (lessT (isum 0 r0) 1 t) n) := lessT_rowsLen HR.out
  have HRL : Hid ((lessT (isum 0 r0) 1 t).length = n) := by show _ = _; rw [lessT_len, HL.out]
  have HCL : Hid ((cofL t).length = n) := (cofL_len t).trans HL.out
  have Hrow0 := Lib.hid hrow0
  rw [Nat.add_zero] at hc0
  have HC0 := Lib.hid hc0
  clear hf hsum hrow0 hget0 hc0
  go_enter Try.func53, Try.ntmps53
  go_wp2_with (first
    | (go_at_call 59; refine (iIsChance_any _ _ _ t _ H.out).mono ?_; rintro e w' ⟨rfl, rfl⟩)
    | (go_at_call 94; refine (iIrr_any _ _ _ t _ H.out HMT.out).mono ?_; rintro e w1 ⟨rfl, hb1⟩; have q1 := (hb1.cell (World.block_lt_of_cell? w _ HC0.out)).trans HC0.out; have Hb1 := Lib.hid hb1; clear hb1)
    | (go_at_call 67; refine (total_any _ _ _ r0 _ (Hrow0.out.keep Hb1.out)).mono ?_; rintro e w' ⟨rfl, rfl⟩)
    | (go_at_call 95; refine (iLess_any _ _ _ t (isum 0 r0) 1 _ (H.out.keep Hb1.out) HR.out (by omega) (by omega) (by omega) (by omega) (by omega)).mono ?_; rintro e w3 ⟨v3, rfl, ho3, hb3⟩; obtain ⟨ao3, cap3, rfl, hi3⟩ := ho3.form; have Hi3 := Lib.hid hi3; have Hb3 := Lib.hid (step2 Hb1.out hb3); clear ho3 hb3 hi3))
  clear hc hi q1
  go_loopw [5, 24] (fun v x wr => ∃ k : Nat, k ≤ n ∧ x = .int .i64 k ∧ OInts wr w3.heap.size v k ((cofL t).take k) ∧ Below w3.heap.size w3 wr) (fun _ x _ => n - (intOf x).toNat)
  case atStart => exact ⟨0, Nat.zero_le _, rfl, OInts.empty w3 _ (Nat.le_refl _), (Below.refl _ _).alloc (Nat.le_refl _) _⟩
  case round =>
    obtain ⟨k, hk, rfl, hown, hbl⟩ := hrel
    obtain ⟨ao5, cap5, e5, _⟩ := hown.form
    subst e5
    have Hown := Lib.hid hown
    have Hbl := Lib.hid hbl
    have HRk := Lib.hid (Hi3.out.keep hbl)
    clear hown hbl
    by_cases hlt : k < n
    · have HML : Hid ((minorT (lessT (isum 0 r0) 1 t) k k).length = n - 1) := by show _ = _; rw [minorT_len (by rw [HRL.out]; exact hlt), HRL.out]
      have HMR : Hid (RowsLen (minorT (lessT (isum 0 r0) 1 t) k k) (n - 1)) := minorT_rowsLen (by rw [show n - 1 + 1 = n by omega]; exact HRR.out) (by omega)
      have HCk := Lib.hid (HC.out k hlt)
      have HP : Hid ((cofL t).take k ++ [cofAt t k] = (cofL t).take (k + 1)) := push_take (cofL_get (by rw [HL.out]; exact hlt))
      go_wp2_with (first
        | (go_at_call 97; refine (iWithout_any _ _ _ (lessT (isum 0 r0) 1 t) k k n _ HRk.out HRR.out hlt (by omega) (by omega)).mono ?_; rintro e w4 ⟨v4, rfl, ho4, hb4⟩; obtain ⟨ao4, cap4, rfl, hi4⟩ := ho4.form; have Hi4 := Lib.hid hi4; have Hb4 := Lib.hid hb4; clear ho4 hb4 hi4)
        | (go_at_call 96; refine (iDet_any (n - 1) _ _ _ (minorT (lessT (isum 0 r0) 1 t) k k) _ HML.out (by omega) Hi4.out HMR.out).mono ?_; rintro e w5 ⟨rfl, hb5⟩; rw [HCk.out]; have Hb5 := Lib.hid (step2 Hb4.out hb5); clear hb5)
        | (at_builtin; refine wpList_push_one _ _ rfl _ _ rfl w3.heap.size _ _ _ rfl (Hown.out.keep Hb5.out) (by omega) (Nat.le_trans Hbl.out.size Hb5.out.size) _ rfl rfl ?_; intro v6 w6 ho6 hb6; have Ho6 := Lib.hid ho6; have Hb6 := Lib.hid hb6; clear ho6 hb6))
      go_roundw
      case rel =>
        have h9 := Ho6.out
        rw [HP.out] at h9
        exact ⟨k + 1, hlt, by go_num, h9, (step2 Hbl.out Hb5.out).trans Hb6.out⟩
      case measure => simp [intOf]; omega
    · have e : k = n := by omega
      have HE2 : Hid ((cofL t).take k = cofL t) := by show _ = _; rw [List.take_of_length_le (by rw [HCL.out]; omega)]
      have hown := Hown.out
      rw [HE2.out, e] at hown
      have HO := Lib.hid hown
      have hkn : k = n := e
      subst hkn
      clear hown
      go_wp2_with (first
        | (go_at_call 98; refine (iReduced_any _ _ w3.heap.size (cofL t) _ HO.out HGd.out (by omega) (by omega) Hbl.out.size).mono ?_; rintro e w7 ⟨v7, rfl, ho7, hb7⟩; have Ho7 := Lib.hid ho7; have Hb7 := Lib.hid hb7; clear ho7 hb7))
      go_ret2
      rw [hg.out, hv.out, redL_len, HCL.out]
      exact ⟨_, rfl, Ho7.out.mono (Nat.le_trans Hb3.out.size Hbl.out.size), step2 (step2 Hb3.out Hbl.out) Hb7.out⟩
end Go.Proofs.Ytjkpndhfdlnpdaa
