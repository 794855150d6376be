/- IRev: a part of the proofs of this seat. -/
import Derived.StillTailTactics
import Derived.Test.YtjkpndhfdlnpdaaProg
import Derived.Test.YtjkpndhfdlnpdaaRevT
import Derived.Test.YtjkpndhfdlnpdaaIResting
import Derived.Test.YtjkpndhfdlnpdaaTotal
import Derived.Test.YtjkpndhfdlnpdaaIZeros
import Derived.Test.YtjkpndhfdlnpdaaBase
namespace Go.Proofs.Ytjkpndhfdlnpdaa
open Go.RowKit
set_option linter.all false
set_option maxRecDepth 20000 in
set_option maxHeartbeats 6400000 in
theorem iRev_any (p : Option Addr) (n c : Nat) (t : List (List Int)) (w : World) (h : Intss w p n t) :
    Calls Try.prog 23 #[.slice p n c] w fun e w' => ∃ v, e = .returned (.tuple #[v, .bool (revOk t)]) ∧ OIntss w' w.heap.size v (revV t).length (revV t) ∧ Below w.heap.size w w' := by
  have HL : Hid (t.length = n) := h.1
  have H := Lib.hid h
  clear h
  have no : Hid (revOk t = false → revV t = []) := by intro h1; simp [revV, h1]
  cases hok : restOk t
  · have hg : Hid (revOk t = false) := by show _ = _; simp [revOk, hok]
    have hv := Lib.hid (no.out hg.out)
    go_enter Try.func23, Try.ntmps23
    go_wp2_with (go_at_call 53; refine (iResting_any _ _ _ t _ H.out).mono ?_; rintro e w1 ⟨v1, rfl, ho1, hb1⟩; obtain ⟨ao1, cap1, rfl, _⟩ := ho1.form; have Hb1 := Lib.hid hb1; clear ho1 hb1)
    go_ret2
    rw [hg.out, hv.out]
    exact ⟨_, rfl, OIntss.none_ _ _, Hb1.out⟩
  have hc : isChance t = true := by have hok' := hok; simp only [restOk, Bool.and_eq_true] at hok'; exact hok'.1
  have hf := chance_facts hc
  have hn1 : 1 ≤ n := by have := HL.out; omega
  have hn4 : n ≤ 4 := by have := HL.out; omega
  have HRL : Hid ((restV t).length = n) := (restV_len' hok).trans HL.out
  have HR := Lib.hid (isMat_rowsLen (chance_mat hc) HL.out)
  have HRN := Lib.hid (rest_mem hok)
  obtain ⟨b0, o0, a0, c0, r0, rfl, hc0, hrow0, hget0⟩ := H.out.at_ (k := 0) (by omega)
  rw [Nat.add_zero] at hc0
  have hsum : isum 0 (t.getD 0 []) = isum 0 r0 := by rw [getD_get3 hget0.out]
  have HC0 := Lib.hid hc0
  have HRow0 := Lib.hid hrow0
  have hsame := rev_same hok
  rw [hsum] at hsame
  have HSame := Lib.hid hsame
  obtain ⟨M, hM⟩ : ∃ M, restV t = M := ⟨_, rfl⟩
  have HM := Lib.hid hM
  have HMG : Hid (∀ (k : Nat) (x : Int), (restV t)[k]? = some x → M[k]? = some x) := fun k x hx => by rw [← hM]; exact hx
  have HML : Hid (M.length = n) := by show _ = _; rw [← hM]; exact HRL.out
  have HTL : Hid ((revT t M).length = n) := (revT_len t M).trans HL.out
  have HTG : Hid (∀ i, i < n → (revT t M)[i]? = some (revRow t M n i)) := fun i hi => by rw [← HL.out]; exact revT_get (by rw [HL.out]; exact hi)
  have HOK : Hid (revOk t = prodU (isum 0 r0) (restV t)) := by show _ = _; rw [HSame.out.1]; simp [revOk, hok]
  have HVT : Hid (revOk t = true → revV t = revT t M) := by
    intro h1
    have h2 := HSame.out.2 (HOK.out ▸ h1)
    simp only [revV, h1, if_true]
    rw [h2, hM]
  clear hc hf hM hsame hsum hc0 hrow0 hget0
  go_enter Try.func23, Try.ntmps23
  go_wp2_with (first
    | (go_at_call 53; refine (iResting_any _ _ _ t _ H.out).mono ?_; rintro e w1 ⟨v1, rfl, ho1, hb1⟩; rw [HRL.out] at ho1; obtain ⟨ao1, cap1, rfl, hi1⟩ := ho1.form; have HI1 := Lib.hid hi1; have HT1 := Lib.hid (H.out.keep hb1); have q1 := (hb1.cell (World.block_lt_of_cell? w _ HC0.out)).trans HC0.out; have HR1 := Lib.hid (HRow0.out.keep hb1); have Hb1 := Lib.hid hb1; clear ho1 hb1 hi1)
    | (go_at_call 67; refine (total_any _ _ _ r0 _ HR1.out).mono ?_; rintro e w' ⟨rfl, rfl⟩))
  clear hok q1
  go_loop [6, 28] (fun vs x => ∃ (k : Nat) (q : Int), k ≤ n ∧ x = .int .i64 k ∧ vs = .int .i64 q ∧ Hid (prodU q ((restV t).drop k) = prodU (isum 0 r0) (restV t))) (fun _ x => n - (intOf x).toNat)
  case atStart => exact ⟨0, _, Nat.zero_le _, rfl, rfl, rfl⟩
  case round =>
    obtain ⟨k, q, hk, rfl, rfl, hr⟩ := hrel
    by_cases hkn : k < n
    · obtain ⟨b3, o3, x, rfl, hcx, hgx⟩ := HI1.out.at_ hkn
      have HS := Lib.hid (prodU_step hgx.out hr.out)
      clear hgx hr
      by_cases h60 : 60 < wrap64 (q * x)
      · have hd : decide (60 < wrap64 (q * x)) = true := by simpa using h60
        have hg : Hid (revOk t = false) := HOK.out.trans (HS.out.1 h60)
        have hv := Lib.hid (no.out hg.out)
        clear HS h60
        go_wp2_with fail
        go_ret2
        rw [hg.out, hv.out]
        exact ⟨_, rfl, OIntss.none_ _ _, Hb1.out⟩
      · have hd : decide (60 < wrap64 (q * x)) = false := by simpa using h60
        have HR2 := Lib.hid (HS.out.2 h60)
        clear HS h60
        go_wp2_with fail
        go_round
        case rel => exact ⟨k + 1, _, hkn, by go_num, rfl, HR2.out⟩
        case measure => simp [intOf]; omega
    · have hg : Hid (revOk t = true) := HOK.out.trans (prodU_end (by have := HRL.out; omega) hr.out)
      have hv := Lib.hid (HVT.out hg.out)
      clear hr
      go_wp2_with (go_at_call 70; refine (iZeros_any n _ (by omega)).mono ?_; rintro e w3 ⟨v3, rfl, ho3, hb3⟩; obtain ⟨ao3, cap3, rfl, _⟩ := ho3.form; have Ho3 := Lib.hid ho3; have Hb3 := Lib.hid hb3; clear ho3 hb3)
      clear hk hkn
      go_loopw [43] (fun x wr => ∃ i : Nat, i ≤ n ∧ x = .int .i64 i ∧ OIntss wr w1.heap.size (.slice ao3 n cap3) n ((revT t M).take i ++ (List.replicate n (List.replicate n 0)).drop i) ∧ Below w1.heap.size w1 wr) (fun x _ => n - (intOf x).toNat)
      case atStart => exact ⟨0, Nat.zero_le _, rfl, by simpa using Ho3.out, Hb3.out⟩
      case round =>
        obtain ⟨i, hi, rfl, hown, hbl⟩ := hrel
        by_cases hlt : i < n
        · have hzi : (List.replicate n (List.replicate n (0 : Int)))[i]? = some (List.replicate n 0) := by simp [hlt]
          rw [drop_of_get hzi] at hown
          have HTi := Lib.hid (HTG.out i hlt)
          have HAl : Hid (((revT t M).take i).length = i) := take_len (by rw [HTL.out]; omega)
          have HRW : Hid ((revRow t M n i).length = n) := revRow_len _ _ _ _
          obtain ⟨g, cap', e⟩ := hown.head (by omega)
          injection e with e1 e2 e3
          subst e1
          clear e2 e3 cap'
          have Hown := Lib.hid hown
          have Hbl := Lib.hid hbl
          clear hown hbl hzi
          go_wp2_with fail
          go_loop [11, 48] (fun vp x => ∃ (k : Nat) (q : Int), k ≤ n ∧ x = .int .i64 k ∧ vp = .int .i64 q ∧ Hid (oth i (M.drop k) k q = oth i M 0 1)) (fun _ x => n - (intOf x).toNat)
          case atStart => exact ⟨0, 1, Nat.zero_le _, rfl, rfl, rfl⟩
          case round =>
            obtain ⟨k, q, hk, rfl, rfl, hr⟩ := hrel
            by_cases hkn : k < n
            · obtain ⟨b3, o3, x, rfl, hcx, hgx⟩ := HI1.out.at_ hkn
              have HS := Lib.hid (oth_step (HMG.out k x hgx.out) hr.out)
              have h3 := (Hbl.out.cell (World.block_lt_of_cell? w1 _ hcx)).trans hcx
              clear hcx hgx hr
              by_cases hki : k = i
              · have hd : ((k : Int) != (i : Int)) = false := by simp [hki]
                have HR1 := Lib.hid (HS.out.1 hki)
                clear HS hki
                go_wp2_with fail
                go_round
                case rel => exact ⟨k + 1, _, hkn, by go_num, rfl, HR1.out⟩
                case measure => simp [intOf]; omega
              · have hd : ((k : Int) != (i : Int)) = true := by simp; omega
                have HR1 := Lib.hid (HS.out.2 hki)
                clear HS hki
                go_wp2_with fail
                go_round
                case rel => exact ⟨k + 1, _, hkn, by go_num, rfl, HR1.out⟩
                case measure => simp [intOf]; omega
            · have HE := Lib.hid (oth_end (by have := HML.out; omega) hr.out)
              have HGE : Hid (∀ (j : Nat) (y x : Int) (r : List Int), j < n → (restV t)[j]? = some y → t[j]? = some r → r[i]? = some x → (revRow t M n i)[j]? = some (wrap64 (wrap64 (y * x) * q))) := by
                intro j y x r hj hy hr hx
                rw [revRow_get hj, ← HE.out, en_get hr hx]
                simp [List.getD, HMG.out j y hy]
              clear hr HE
              go_wp2_with fail
              clear hk hkn
              go_loopw [62] (fun x wr => ∃ j : Nat, j ≤ n ∧ x = .int .i64 j ∧ OIntss wr w1.heap.size (.slice (some ⟨g, 0, none⟩) n cap3) n ((revT t M).take i ++ ((revRow t M n i).take j ++ (List.replicate n 0).drop j) :: (List.replicate n (List.replicate n 0)).drop (i + 1)) ∧ Below w1.heap.size w1 wr) (fun x _ => n - (intOf x).toNat)
              case atStart => exact ⟨0, Nat.zero_le _, rfl, by simpa using Hown.out, Hbl.out⟩
              case round =>
                obtain ⟨j, hj, rfl, hown, hbl⟩ := hrel
                clear Hown Hbl
                by_cases hjn : j < n
                · obtain ⟨b3, o3, y, rfl, hcy, hgy⟩ := HI1.out.at_ hjn
                  obtain ⟨b1, o1, a1, c1, r, e9, hca, hrow, hget⟩ := HT1.out.at_ hjn
                  injection e9 with e9
                  injection e9 with e7 e8
                  subst e7
                  subst e8
                  have hrl : i < r.length := by have := HR.out _ _ hget.out; omega
                  obtain ⟨b4, o4, x, rfl, hcx, hgx⟩ := hrow.at_ hrl
                  have hG := HGE.out j y x r hjn hgy.out hget.out hgx.out
                  have h1 := (hbl.cell (World.block_lt_of_cell? w1 _ hca)).trans hca
                  have h3 := (hbl.cell (World.block_lt_of_cell? w1 _ hcx)).trans hcx
                  have h4 := (hbl.cell (World.block_lt_of_cell? w1 _ hcy)).trans hcy
                  have hz : (List.replicate n (0 : Int))[j]? = some 0 := by simp [hjn]
                  have hlenr : ((revRow t M n i).take j ++ (List.replicate n 0).drop j).length = n := by
                    rw [List.length_append, take_len (by rw [HRW.out]; omega), List.length_drop, List.length_replicate]; omega
                  obtain ⟨gk, ck, h5, ho, hne, hlo⟩ := hown.rowAt (at_mid HAl.out) (by rw [hlenr]; omega)
                  have hset := hown.setIn (at_mid HAl.out) h5 ho j (wrap64 (wrap64 (y * x) * q))
                  rw [set_mid HAl.out, mix_set hz hG] at hset
                  rw [hlenr] at h5 ho
                  have h6 := ho.cell j hjn
                  have h7 := ho.frozen j
                  have hb' := hbl.setCell (p := ⟨gk, j, none⟩) hlo (.int .i64 (wrap64 (wrap64 (y * x) * q)))
                  have Hset := Lib.hid hset
                  have Hb' := Lib.hid hb'
                  clear hset hb' hz hlenr hG ho hown hbl hca hcx hcy hgx hgy hget hrow
                  go_wp2_with fail
                  go_still_tail 20, (by kernel_rfl)
                  change wpList _ _ _ _ _ wr.drew
                  go_wp2_with fail
                  go_roundw
                  all_goals first
                    | exact ⟨j + 1, hjn, by go_num, by first | exact Hset.out | exact Hset.out.drewN 1, by first | exact Hb'.out | exact Hb'.out.drew⟩
                    | (simp [intOf]; omega)
                · have hjn' : j = n := by omega
                  subst hjn'
                  rw [mix_end HRW.out (by simp), fill_shut HTi.out] at hown
                  have Hown := Lib.hid hown
                  have Hbl := Lib.hid hbl
                  clear hown hbl
                  go_wp2_with fail
                  go_roundw
                  case rel => exact ⟨i + 1, hlt, by go_num, Hown.out, Hbl.out⟩
                  case measure => simp [intOf]; omega
        · have e : i = n := by omega
          have HE : Hid ((revT t M).take i ++ (List.replicate n (List.replicate n (0 : Int))).drop i = revT t M) := by rw [e]; exact mix_end HTL.out (by simp)
          rw [HE.out] at hown
          have Hown := Lib.hid hown
          have Hbl := Lib.hid hbl
          clear hown hbl e
          go_wp2_with fail
          go_ret2
          rw [hg.out, hv.out, HTL.out]
          exact ⟨_, rfl, Hown.out.mono Hb1.out.size, step2 Hb1.out Hbl.out⟩
end Go.Proofs.Ytjkpndhfdlnpdaa
