/- SResting: a part of the proofs of this seat. -/
import Derived.StillTailTactics
import Derived.Test.YtjkpndhfdlnpdaaProg
import Derived.Test.YtjkpndhfdlnpdaaResting
import Derived.Test.YtjkpndhfdlnpdaaSIsChance
import Derived.Test.YtjkpndhfdlnpdaaSIrr
import Derived.Test.YtjkpndhfdlnpdaaSL4Zero
import Derived.Test.YtjkpndhfdlnpdaaSMinor
import Derived.Test.YtjkpndhfdlnpdaaSDet
import Derived.Test.YtjkpndhfdlnpdaaL28Sum
import Derived.Test.YtjkpndhfdlnpdaaL1Bit
import Derived.Test.YtjkpndhfdlnpdaaBase
namespace Go.Proofs.Ytjkpndhfdlnpdaa
open Go.RowKit
set_option linter.all false
theorem rest_get {r : List Int} {s : Int} {i j : Nat} {x : Int} (hx : r[j]? = some x) (h : 0 ≤ x ∧ x ≤ 60) (hs : 1 ≤ s ∧ s ≤ 60) : (lessRow s 1 i r)[j]? = some (if i = j then s - x else -x) := by
  unfold lessRow
  rw [List.getElem?_set]
  have hn := negRow_get (d := 1) hx
  have hw : wrap64 (-1 * x) = -x := by unfold wrap64; omega
  rw [hw] at hn
  by_cases e : i = j
  · subst e
    rw [if_pos rfl, if_pos (List.getElem?_eq_some_iff.1 hn).1, if_pos rfl]
    simp only [List.getD, hn, Option.getD_some]
    rw [dia_w h hs]
  · rw [if_neg e, if_neg e, hn]
set_option maxRecDepth 20000 in
set_option maxHeartbeats 6400000 in
theorem sResting_any (p : Option Addr) (n c : Nat) (t : List (List Int)) (w : World) (h : Intss w p n t) :
    Calls Try.prog 54 #[.slice p n c] w fun e w' => ∃ v, e = .returned (.tuple #[v, .bool (restOk t)]) ∧ OInts w' w.heap.size v (restV t).length (restV t) ∧ Below w.heap.size w w' := by
  have HL : Hid (t.length = n) := h.1
  have H := Lib.hid h
  clear h
  cases hc : isChance t
  · have hg : Hid (restOk t = false) := by show _ = _; simp [restOk, hc]
    have hv : Hid (restV t = []) := by show _ = _; simp [restV, hg.out]
    go_enter Try.func54, Try.ntmps54
    go_wp2_with (first | (go_at_call 60; refine (sIsChance_any _ _ _ t _ H.out).mono ?_; rintro e w1 ⟨rfl, hd1⟩; have Hb1 := Lib.hid (hd1.below w.heap.size); clear hd1))
    go_ret2
    rw [hg.out, hv.out]
    exact ⟨_, rfl, OInts.empty _ _ Hb1.out.size, Hb1.out.alloc Hb1.out.size _⟩
  have HMT := Lib.hid (chance_mat hc)
  cases hi : irrT t
  · have hg : Hid (restOk t = false) := by show _ = _; simp [restOk, hi]
    have hv : Hid (restV t = []) := by show _ = _; simp [restV, hg.out]
    go_enter Try.func54, Try.ntmps54
    go_wp2_with (first
      | (go_at_call 60; refine (sIsChance_any _ _ _ t _ H.out).mono ?_; rintro e w0 ⟨rfl, hd0⟩; have Hb0 := Lib.hid (hd0.below w.heap.size); clear hd0)
      | (go_at_call 99; refine (sIrr_any _ _ _ t _ (H.out.keep Hb0.out) HMT.out).mono ?_; rintro e w1 ⟨rfl, hb1⟩; have Hb1 := Lib.hid (step2 Hb0.out hb1); clear hb1))
    go_ret2
    rw [hg.out, hv.out]
    exact ⟨_, rfl, OInts.empty _ _ Hb1.out.size, Hb1.out.alloc Hb1.out.size _⟩
  have hf := chance_facts hc
  have hg : Hid (restOk t = true) := by show _ = _; simp [restOk, hc, hi]
  have hv : Hid (restV t = redL (cofL t)) := by show _ = _; simp [restV, hg.out]
  have HGd := Lib.hid (cofL_good hg.out)
  have hn1 : 1 ≤ n := by have := HL.out; omega
  have hn4 : n ≤ 4 := by have := HL.out; omega
  obtain ⟨b0, o0, a0, c0, r0, rfl, hc0, hrow0, hget0⟩ := H.out.at_ (k := 0) (by omega)
  have hsum : isum 0 (t.getD 0 []) = isum 0 r0 := by rw [getD_get2 hget0.out]
  have hs1 : 1 ≤ isum 0 r0 := by rw [← hsum]; omega
  have hs2 : isum 0 r0 ≤ 60 := by rw [← hsum]; omega
  have HC : Hid (∀ i, i < n → det (n - 1) (minorT (lessT (isum 0 r0) 1 t) i i) = cofAt t i) := fun i hi => by show _ = det (t.length - 1) _; rw [HL.out, hsum]
  have HR := Lib.hid (isMat_rowsLen HMT.out HL.out)
  have HRR : Hid (RowsLen (lessT (isum 0 r0) 1 t) n) := lessT_rowsLen HR.out
  have HRL : Hid ((lessT (isum 0 r0) 1 t).length = n) := by show _ = _; rw [lessT_len, HL.out]
  have HCL : Hid ((cofL t).length = n) := (cofL_len t).trans HL.out
  have HRV : Hid ((redL (cofL t)).length = n) := (redL_len _).trans HCL.out
  have HF : Hid (∀ r ∈ t, ∀ x ∈ r, 0 ≤ x ∧ x ≤ 60) := fun r hr => (hf.2.2.2.2 r hr).2.1
  have Hrow0 := Lib.hid hrow0
  rw [Nat.add_zero] at hc0
  have HC0 := Lib.hid hc0
  have hgp := gcdL_pos HGd.out (by rw [HCL.out]; omega)
  obtain ⟨hgp1, hgp2⟩ := hgp
  clear hf hsum hrow0 hget0 hc0
  go_enter Try.func54, Try.ntmps54
  go_wp2_with (first
    | (go_at_call 60; refine (sIsChance_any _ _ _ t _ H.out).mono ?_; rintro e w0 ⟨rfl, hd0⟩; have Hb0 := Lib.hid (hd0.below w.heap.size); clear hd0)
    | (go_at_call 99; refine (sIrr_any _ _ _ t _ (H.out.keep Hb0.out) HMT.out).mono ?_; rintro e w1 ⟨rfl, hb1⟩; have hb01 := step2 Hb0.out hb1; have q1 := (hb01.cell (World.block_lt_of_cell? w _ HC0.out)).trans HC0.out; have Hb1 := Lib.hid hb01; clear hb1 hb01)
    | (go_at_call 66; refine (l28Sum_any _ _ _ r0 _ (Hrow0.out.keep Hb1.out)).mono ?_; rintro e w' ⟨rfl, rfl⟩)
    | (go_at_call 68; refine (sL4Zero_any n n _ (by omega) (by omega)).mono ?_; rintro e w3 ⟨v3, rfl, ho3, hb3⟩; obtain ⟨ao3, cap3, rfl, _⟩ := ho3.form; have Ho3 := Lib.hid (ho3.mono Hb1.out.size); have Hb3 := Lib.hid (step2 Hb1.out hb3); clear ho3 hb3))
  clear hc hi q1
  go_loopw [6] (fun x wr => ∃ i : Nat, i ≤ n ∧ x = .int .i64 i ∧ OIntss wr w.heap.size (.slice ao3 n cap3) n ((lessT (isum 0 r0) 1 t).take i ++ (List.replicate n (List.replicate n 0)).drop i) ∧ Below w.heap.size w wr) (fun x _ => n - (intOf x).toNat)
  case atStart => exact ⟨0, Nat.zero_le _, rfl, by simpa using Ho3.out, Hb3.out⟩
  case round =>
    obtain ⟨i, hi, rfl, hown, hbl⟩ := hrel
    by_cases hlt : i < n
    · obtain ⟨b1, o1, a1, c1, r, e0, hca, hrow, hget⟩ := H.out.at_ hlt
      injection e0 with e0
      injection e0 with e1 e2
      subst e1
      subst e2
      have HRL1 : Hid (r.length = n) := HR.out _ _ hget.out
      have hrl1 : r.length ≤ n := by have := HRL1.out; omega
      have hrl2 : n ≤ r.length := by have := HRL1.out; omega
      have hzi : (List.replicate n (List.replicate n (0 : Int)))[i]? = some (List.replicate n 0) := by simp [hlt]
      rw [drop_of_get hzi] at hown
      have HMG := Lib.hid (lessT_get (q := isum 0 r0) (d := 1) hget.out)
      have HAl : Hid (((lessT (isum 0 r0) 1 t).take i).length = i) := take_len (by rw [HRL.out]; omega)
      have HRW : Hid ((lessRow (isum 0 r0) 1 i r).length = n) := by show _ = _; rw [lessRow_len, HRL1.out]
      have HFr := Lib.hid (HF.out r (List.mem_of_getElem? hget.out))
      obtain ⟨g, cap', e⟩ := hown.head (by omega)
      injection e with e1 e2 e3
      subst e1
      clear e2 e3 cap'
      have Hca := Lib.hid hca
      have Hrow := Lib.hid hrow
      have Hown := Lib.hid hown
      have Hbl := Lib.hid hbl
      clear hown hbl hrow hca hzi
      go_wp2_with fail
      go_loopw [7] (fun x wr => ∃ j : Nat, j ≤ n ∧ x = .int .i64 j ∧ OIntss wr w.heap.size (.slice (some ⟨g, 0, none⟩) n cap3) n ((lessT (isum 0 r0) 1 t).take i ++ ((lessRow (isum 0 r0) 1 i r).take j ++ (List.replicate n 0).drop j) :: (List.replicate n (List.replicate n 0)).drop (i + 1)) ∧ Below w.heap.size w wr) (fun x _ => n - (intOf x).toNat)
      case atStart => exact ⟨0, Nat.zero_le _, rfl, by simpa using Hown.out, Hbl.out⟩
      case round =>
        obtain ⟨j, hj, rfl, hown, hbl⟩ := hrel
        clear Hown Hbl
        by_cases hjn : j < n
        · obtain ⟨b3, o3, x, rfl, hcx, hgetx⟩ := Hrow.out.at_ (k := j) (by omega)
          have hjr : j < r.length := by omega
          have hx := HFr.out x (List.mem_of_getElem? hgetx.out)
          obtain ⟨hx0, hx60⟩ := hx
          have hG := rest_get (i := i) hgetx.out ⟨hx0, hx60⟩ ⟨hs1, hs2⟩
          have h1 := (hbl.cell (World.block_lt_of_cell? w _ Hca.out)).trans Hca.out
          have h3 := (hbl.cell (World.block_lt_of_cell? w _ hcx)).trans hcx
          have hz : (List.replicate n (0 : Int))[j]? = some 0 := by simp [hjn]
          have hlenr : ((lessRow (isum 0 r0) 1 i r).take j ++ (List.replicate n 0).drop j).length = n := by
            rw [List.length_append, take_len (by rw [HRW.out]; omega), List.length_drop, List.length_replicate]; omega
          obtain ⟨gk, ck, h5, ho, hne, hlo⟩ := hown.rowAt (at_mid HAl.out) (by rw [hlenr]; omega)
          have hset := hown.setIn (at_mid HAl.out) h5 ho j (if i = j then isum 0 r0 - x else -x)
          rw [set_mid HAl.out, mix_set hz hG] at hset
          rw [hlenr] at h5 ho
          have h6 := ho.cell j hjn
          have h7 := ho.frozen j
          have hb' := hbl.setCell (p := ⟨gk, j, none⟩) hlo (.int .i64 (if i = j then isum 0 r0 - x else -x))
          clear hcx hz hlenr hG ho hown hbl
          by_cases hij : i = j
          · rw [if_pos hij] at hset hb'
            have Hset := Lib.hid hset
            have Hb' := Lib.hid hb'
            have hd : ((i : Int) == (j : Int)) = true := by simp [hij]
            have hbt : bit true = 1 := rfl
            clear hset hb' hij
            go_wp2_with fail
            go_still_tail 20, (by kernel_rfl)
            still_call ((l1Bit_any _ _).mono fun _ _ h => ⟨h.1, h.2.symm⟩)
            repeat still_step
            refine wpStill_nil ?_
            change wpList _ _ _ _ _ wr.drew
            go_wp2_with fail
            go_roundw
            all_goals first
              | exact ⟨j + 1, hjn, by go_num, by first | exact Hset.out | exact Hset.out.drewN 1, by first | exact Hb'.out | exact Hb'.out.drew⟩
              | (simp [intOf]; omega)
          · rw [if_neg hij] at hset hb'
            have e0 : -x = 0 - x := by omega
            have hset2 := hset
            have hb2 := hb'
            rw [e0] at hset2 hb2
            have Hset2 := Lib.hid hset2
            have Hb2 := Lib.hid hb2
            clear hset2 hb2 e0
            have Hset := Lib.hid hset
            have Hb' := Lib.hid hb'
            have hd : ((i : Int) == (j : Int)) = false := by simp; omega
            have hbt : bit false = 0 := rfl
            clear hset hb' hij
            go_wp2_with fail
            go_still_tail 20, (by kernel_rfl)
            still_call ((l1Bit_any _ _).mono fun _ _ h => ⟨h.1, h.2.symm⟩)
            repeat still_step
            refine wpStill_nil ?_
            change wpList _ _ _ _ _ wr.drew
            go_wp2_with fail
            go_roundw
            all_goals first
              | exact ⟨j + 1, hjn, by go_num, Hset.out.drewN 1, Hb'.out.drew⟩
              | exact ⟨j + 1, hjn, by go_num, Hset2.out.drewN 1, Hb2.out.drew⟩
              | (simp [intOf]; omega)
              | trace_state
        · have hjn' : j = n := by omega
          subst hjn'
          rw [mix_end HRW.out (by simp), fill_shut HMG.out] at hown
          have Hown := Lib.hid hown
          have Hbl := Lib.hid hbl
          clear hown hbl
          go_wp2_with fail
          go_roundw
          case rel => exact ⟨i + 1, hlt, by go_num, Hown.out, Hbl.out⟩
          case measure => simp [intOf]; omega
    · have e : i = n := by omega
      have HE : Hid ((lessT (isum 0 r0) 1 t).take i ++ (List.replicate n (List.replicate n (0 : Int))).drop i = lessT (isum 0 r0) 1 t) := by rw [e]; exact mix_end HRL.out (by simp)
      rw [HE.out] at hown
      have Hown := Lib.hid hown
      have Hbl := Lib.hid hbl
      have HTI := Lib.hid hown.read
      clear hown hbl e
      obtain ⟨wt, rfl⟩ : ∃ wt : World, wt = wr := ⟨_, rfl⟩
      go_wp2_with fail
      clear hlt hi
      go_loopw [8, 9, 10] (fun v vg x wr => ∃ (k : Nat) (g : Int), k ≤ n ∧ x = .int .i64 k ∧ vg = .int .i64 g ∧ 0 ≤ g ∧ g ≤ 4000000 ∧ OInts wr wt.heap.size v k ((cofL t).take k) ∧ Hid (gcdL g ((cofL t).drop k) = gcdL 0 (cofL t)) ∧ Below wt.heap.size wt wr) (fun _ _ x _ => n - (intOf x).toNat)
      case atStart => exact ⟨0, 0, Nat.zero_le _, rfl, rfl, by omega, by omega, OInts.empty wt _ (Nat.le_refl _), rfl, (Below.refl _ _).alloc (Nat.le_refl _) _⟩
      case round =>
        obtain ⟨k, g, hk, rfl, rfl, hg0, hg1, hown, hgd, hbl⟩ := hrel
        obtain ⟨ao5, cap5, e5, _⟩ := hown.form
        subst e5
        by_cases hlt : k < n
        · have Hown' := Lib.hid hown
          have Hbl' := Lib.hid hbl
          have HRk := Lib.hid (HTI.out.keep hbl)
          clear hown hbl
          have HML : Hid ((minorT (lessT (isum 0 r0) 1 t) k k).length = n - 1) := by show _ = _; rw [minorT_len (by rw [HRL.out]; exact hlt), HRL.out]
          have HMR : Hid (RowsLen (minorT (lessT (isum 0 r0) 1 t) k k) (n - 1)) := minorT_rowsLen (by rw [show n - 1 + 1 = n by omega]; exact HRR.out) (by omega)
          have HCk := Lib.hid (HC.out k hlt)
          have hgk := cofL_get (t := t) (i := k) (by rw [HL.out]; exact hlt)
          have HP : Hid ((cofL t).take k ++ [cofAt t k] = (cofL t).take (k + 1)) := push_take hgk
          have hxg := HGd.out _ (List.mem_of_getElem? hgk)
          have HB := Lib.hid (gcdI_bd ⟨hg0, hg1⟩ hxg)
          have HS := Lib.hid (gcdL_step hgk hgd.out)
          have hs1' : Hid (Small62 g) := ⟨by omega, by omega⟩
          have hs2' : Hid (Small62 (cofAt t k)) := ⟨by omega, by omega⟩
          clear hgk hxg hgd
          go_wp2_with (first
            | (go_at_call 102; refine (sMinor_any _ _ _ (lessT (isum 0 r0) 1 t) k k n _ HRk.out HRR.out hlt (by omega) (by omega)).mono ?_; rintro e w4 ⟨v4, rfl, ho4, hb4⟩; obtain ⟨ao4, cap4, rfl, hi4⟩ := ho4.form; have Hi4 := Lib.hid hi4; have Hb4 := Lib.hid hb4; clear ho4 hb4 hi4)
            | (go_at_call 101; refine (sDet_any (n - 1) _ _ _ (minorT (lessT (isum 0 r0) 1 t) k k) _ HML.out (by omega) Hi4.out HMR.out).mono ?_; rintro e w5 ⟨rfl, hb5⟩; rw [HCk.out]; have Hb5 := Lib.hid (step2 Hb4.out hb5); clear hb5)
            | (at_builtin; refine wpList_push_one _ _ rfl _ _ rfl wt.heap.size _ _ _ rfl (Hown'.out.keep Hb5.out) (by omega) (Nat.le_trans Hbl'.out.size Hb5.out.size) _ rfl rfl ?_; intro v6 w6 ho6 hb6; have Ho6 := Lib.hid ho6; have Hb6 := Lib.hid hb6; clear ho6 hb6)
            | (go_at_call 103; refine (sGcd_any g (cofAt t k) _ hs1'.out hs2'.out).mono ?_; rintro e w7 ⟨rfl, rfl⟩))
          go_roundw
          case rel =>
            have h9 := Ho6.out
            rw [HP.out] at h9
            have := HB.out
            exact ⟨k + 1, _, hlt, by go_num, rfl, by omega, by omega, h9, HS.out, (step2 Hbl'.out Hb5.out).trans Hb6.out⟩
          case measure => simp [intOf]; omega
        · have e : k = n := by omega
          have HE2 : Hid ((cofL t).take k = cofL t) := by show _ = _; rw [List.take_of_length_le (by rw [HCL.out]; omega)]
          have HGE := Lib.hid (gcdL_end (by rw [HCL.out]; omega) hgd.out)
          have hgp : 0 < g := by rw [HGE.out]; exact hgp1
          rw [HE2.out, e] at hown
          have hkn : k = n := e
          subst hkn
          obtain ⟨g8, c8, e8⟩ := hown.head (by omega)
          injection e8 with e8 e9 e10
          subst e8
          subst e10
          clear e9 e hgd
          have Hown' := Lib.hid hown
          have Hbl' := Lib.hid hbl
          clear hown hbl
          go_wp2_with fail
          go_loopw [12] (fun x wr => ∃ i : Nat, i ≤ k ∧ x = .int .i64 i ∧ OInts wr wt.heap.size (.slice (some ⟨g8, 0, none⟩) k cap5) k ((redL (cofL t)).take i ++ (cofL t).drop i) ∧ Below wt.heap.size wt wr) (fun x _ => k - (intOf x).toNat)
          case atStart => exact ⟨0, Nat.zero_le _, rfl, by simpa using Hown'.out, Hbl'.out⟩
          case round =>
            clear Hown' Hbl'
            obtain ⟨i, hi, rfl, hown, hbl⟩ := hrel
            by_cases hik : i < k
            · have hx : (cofL t)[i]? = some (cofAt t i) := cofL_get (by rw [HL.out]; exact hik)
              have hxg := HGd.out _ (List.mem_of_getElem? hx)
              obtain ⟨ha1, ha2, ha3⟩ := quo_bd hxg hgp
              have hy : (redL (cofL t))[i]? = some (wrap64 ((cofAt t i).tdiv g)) := by
                rw [wrap_id (by rw [ha1]; omega)]
                have := redL_get hx
                rw [← HGE.out] at this
                exact this
              have hc8 := hown.cell i hik
              rw [List.getD, mix_get (by rw [HRV.out]; omega) hx, Option.getD_some] at hc8
              have hf8 := hown.frozen i
              have hset := hown.set i (wrap64 ((cofAt t i).tdiv g))
              rw [mix_set hx hy] at hset
              have Hset := Lib.hid hset
              have Hb' := Lib.hid (hbl.setCell (p := ⟨g8, i, none⟩) hown.lt.1 (.int .i64 (wrap64 ((cofAt t i).tdiv g))))
              have hg0' : ¬ g = 0 := by omega
              clear hset hown hbl hx hy hxg ha1 ha2 ha3
              go_wp2_with fail
              go_roundw
              all_goals first
                | exact ⟨i + 1, hik, by go_num, by first | exact Hset.out | exact Hset.out.drewN 1, by first | exact Hb'.out | exact Hb'.out.drew⟩
                | (simp [intOf]; omega)
                | trace_state
            · have e : i = k := by omega
              have HE3 : Hid ((redL (cofL t)).take i ++ (cofL t).drop i = redL (cofL t)) := by rw [e]; exact mix_end HRV.out HCL.out
              rw [HE3.out] at hown
              have Hown' := Lib.hid hown
              have Hbl' := Lib.hid hbl
              clear hown hbl e
              go_wp2_with fail
              go_ret2
              rw [hg.out, hv.out, HRV.out]
              exact ⟨_, rfl, Hown'.out.mono Hbl.out.size, step2 Hbl.out Hbl'.out⟩
end Go.Proofs.Ytjkpndhfdlnpdaa
