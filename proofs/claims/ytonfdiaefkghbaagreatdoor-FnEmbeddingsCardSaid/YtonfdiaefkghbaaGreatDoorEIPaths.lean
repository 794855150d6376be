/- IPaths: a part of the proofs of this seat. -/
import Derived.BigQuiet
import Derived.Test.YtonfdiaefkghbaaGreatDoorProg
import Derived.Test.YtonfdiaefkghbaaGreatDoorEG1a
import Derived.Test.YtonfdiaefkghbaaGreatDoorEG0d
namespace Go.Proofs.YtonfdiaefkghbaaGreatDoor
open Go.RowKit
set_option linter.all false
set_option maxRecDepth 20000 in
set_option maxHeartbeats 6400000 in
theorem iPathsOf_any (p : Option Addr) (n c : Nat) (m : List (List Int)) (t : Int) (w : World) (h : Intss w p n m) :
    Calls Tryz.prog 49 #[.slice p n c, .int .i64 t] w fun e w' => ∃ v, e = .returned v ∧ OIntss w' w.heap.size v (pathsV m t).length (pathsV m t) ∧ Below w.heap.size w w' := by
  have H := Lib.hid h
  clear h
  cases hg : isGraph m
  · have hv : Hid (pathsV m t = []) := by show _ = _; simp [pathsV, pathsOk, hg]
    have HG := Lib.hid hg
    clear hg
    go_enter Tryz.func49, Tryz.ntmps49
    go_wp2_with (go_at_call 96; refine (iIsGraph_any _ _ _ m _ H.out).mono ?_; rw [HG.out]; rintro e w' ⟨rfl, rfl⟩)
    go_ret
    rw [hv.out]
    exact ⟨_, rfl, OIntss.none_ _ _, Below.refl _ _⟩
  have HG := Lib.hid hg
  clear hg
  by_cases h1 : t < 1
  · have hv : Hid (pathsV m t = []) := by show _ = _; simp [pathsV, pathsOk, inR_no (x := t) (lo := 1) (hi := 6) (.inl h1)]
    have hd : decide (t < 1) = true := by simpa using h1
    go_enter Tryz.func49, Tryz.ntmps49
    go_wp2_with (go_at_call 96; refine (iIsGraph_any _ _ _ m _ H.out).mono ?_; rw [HG.out]; rintro e w' ⟨rfl, rfl⟩)
    go_ret
    rw [hv.out]
    exact ⟨_, rfl, OIntss.none_ _ _, Below.refl _ _⟩
  have hd1 : decide (t < 1) = false := by simpa using h1
  by_cases h6 : 6 < t
  · have hv : Hid (pathsV m t = []) := by show _ = _; simp [pathsV, pathsOk, inR_no (x := t) (lo := 1) (hi := 6) (.inr h6)]
    have hd : decide (6 < t) = true := by simpa using h6
    go_enter Tryz.func49, Tryz.ntmps49
    go_wp2_with (go_at_call 96; refine (iIsGraph_any _ _ _ m _ H.out).mono ?_; rw [HG.out]; rintro e w' ⟨rfl, rfl⟩)
    go_ret
    rw [hv.out]
    exact ⟨_, rfl, OIntss.none_ _ _, Below.refl _ _⟩
  have hd2 : decide (6 < t) = false := by simpa using h6
  have HT : Hid (inR t 1 6 = true) := inR_mk ⟨by omega, by omega⟩
  clear h1 h6
  obtain ⟨many, hmany⟩ : ∃ x, cntP m t = x := ⟨_, rfl⟩
  by_cases h1 : many < 0
  · have hv : Hid (pathsV m t = []) := by show _ = _; simp [pathsV, pathsOk, hmany, inR_no (x := many) (lo := 0) (hi := 500) (.inl h1)]
    have hd : decide (many < 0) = true := by simpa using h1
    have HMY := Lib.hid hmany
    clear h1 hmany
    go_enter Tryz.func49, Tryz.ntmps49
    go_wp2_with (first | (go_at_call 97; refine (iCntP_any _ _ _ m t _ H.out).mono ?_; rw [HMY.out]; rintro e w1 ⟨rfl, hb1⟩; have Hb1 := Lib.hid hb1; clear hb1) | (go_at_call 96; refine (iIsGraph_any _ _ _ m _ H.out).mono ?_; rw [HG.out]; rintro e w' ⟨rfl, rfl⟩))
    go_ret
    rw [hv.out]
    exact ⟨_, rfl, OIntss.none_ _ _, Hb1.out⟩
  have hm1 : decide (many < 0) = false := by simpa using h1
  by_cases h6 : 500 < many
  · have hv : Hid (pathsV m t = []) := by show _ = _; simp [pathsV, pathsOk, hmany, inR_no (x := many) (lo := 0) (hi := 500) (.inr h6)]
    have hd : decide (500 < many) = true := by simpa using h6
    have HMY := Lib.hid hmany
    clear h1 hmany h6
    go_enter Tryz.func49, Tryz.ntmps49
    go_wp2_with (first | (go_at_call 97; refine (iCntP_any _ _ _ m t _ H.out).mono ?_; rw [HMY.out]; rintro e w1 ⟨rfl, hb1⟩; have Hb1 := Lib.hid hb1; clear hb1) | (go_at_call 96; refine (iIsGraph_any _ _ _ m _ H.out).mono ?_; rw [HG.out]; rintro e w' ⟨rfl, rfl⟩))
    go_ret
    rw [hv.out]
    exact ⟨_, rfl, OIntss.none_ _ _, Hb1.out⟩
  have hm2 : decide (500 < many) = false := by simpa using h6
  have hok : pathsOk m t = true := by
    have hcc : inR many 0 500 = true := inR_mk ⟨by omega, by omega⟩
    simp [pathsOk, HG.out, HT.out, hmany, hcc]
  have HMY := Lib.hid hmany
  have HA := Lib.hid (graph_arcs HG.out)
  obtain ⟨t, rfl⟩ : ∃ r : Nat, t = (r : Int) := ⟨t.toNat, by have := inR_true HT.out; omega⟩
  have ht6 : t ≤ 6 := by have := inR_true HT.out; omega
  have hv : Hid (pathsV m (t : Int) = fillL (arcsL m) t []) := by show _ = _; unfold pathsV; rw [if_pos hok, Int.toNat_natCast]
  have hN60 : (arcsL m).length ≤ 60 := by have := HA.out; omega
  have HA2 : Hid (∀ (k : Nat) (a : List Int), (arcsL m)[k]? = some a → ∃ x y : Int, a = [x, y]) := fun k a ha => by obtain ⟨x, y, e⟩ := arc_get ha; exact ⟨_, _, e⟩
  obtain ⟨R, hR⟩ : ∃ R, fillL (arcsL m) t [] = R := ⟨_, rfl⟩
  rw [hR] at hv
  have hR0 : [[]].flatMap (fillL (arcsL m) (t - 0)) = R := by simpa using hR
  have HR := Lib.hid hR0
  clear h1 h6 hok hmany hR hR0
  have HMat := Lib.hid HA.out.1
  generalize hA0 : arcsL m = A at HA HR HA2 hN60
  have HA0 := Lib.hid hA0
  have HN6 : Hid (A.length ≤ 60) := hN60
  clear hA0
  go_enter Tryz.func49, Tryz.ntmps49
  go_wp2_with (first | (go_at_call 98; refine (iArcs5_any _ _ _ m _ (H.out.keep Hb1.out) HMat.out (by rw [HA0.out]; exact HN6.out)).mono ?_; rw [HA0.out]; rintro e w2 ⟨v2, rfl, ho2, hb2⟩; obtain ⟨a2, c2, rfl, hi2⟩ := ho2.form; have HI2 := Lib.hid hi2; have Hb2 := Lib.hid (step2 Hb1.out hb2); clear ho2 hb2 hi2) | (go_at_call 97; refine (iCntP_any _ _ _ m _ _ H.out).mono ?_; rw [HMY.out]; rintro e w1 ⟨rfl, hb1⟩; have Hb1 := Lib.hid hb1; clear hb1) | (go_at_call 96; refine (iIsGraph_any _ _ _ m _ H.out).mono ?_; rw [HG.out]; rintro e w' ⟨rfl, rfl⟩))
  clear hd1 hd2 hm1 hm2
  obtain ⟨N, hN⟩ : ∃ N, A.length = N := ⟨_, rfl⟩
  rw [hN] at HI2 hN60
  simp only [hN]
  have HAN := Lib.hid hN
  clear hN
  go_loopw [7, 38] (fun v x wr => ∃ (a : Nat) (cur : List (List Int)), a ≤ t ∧ x = .int .i64 a ∧ OIntss wr w2.heap.size v cur.length cur ∧ Hid (cur.flatMap (fillL A (t - a)) = R) ∧ Hid (∀ p ∈ cur, p.length = a ∧ Idx A.length p) ∧ Hid (cur.length ≤ 60 ^ a) ∧ Below w2.heap.size w2 wr) (fun _ x _ => t - (intOf x).toNat)
  case atStart => exact ⟨0, [[]], Nat.zero_le _, rfl, OIntss.unit w2 _ (Nat.le_refl _), HR, (fun p hp => by simp at hp; subst hp; exact ⟨rfl, fun x hx => by simp at hx⟩), (by show _ ≤ _; simp), step2 (belowA _ _) (belowA _ _)⟩
  case round =>
    obtain ⟨a, cur, ha, rfl, hown, heq, hmem, hcl, hbl⟩ := hrel
    obtain ⟨wo, rfl⟩ : ∃ wo : World, wo = wr := ⟨_, rfl⟩
    obtain ⟨ao, cap, rfl, hci⟩ := hown.form
    have Hown := Lib.hid hown
    have Hbl := Lib.hid hbl
    have HCI := Lib.hid hci
    have HAo := Lib.hid (HI2.out.keep hbl)
    have hcur := hown.1
    clear hown hbl hci
    by_cases hlt : a < t
    · have HNF := Lib.hid (nxt_fill hlt heq.out)
      have HNM : Hid (∀ p ∈ cur.flatMap (ext1 A), p.length = a + 1 ∧ Idx A.length p) := nxt_mem hmem.out
      have HNL : Hid ((cur.flatMap (ext1 A)).length ≤ 60 ^ (a + 1)) := by
        have h1 := nxt_len HN6.out cur
        have h2 := hcl.out
        show _ ≤ _
        rw [Nat.pow_succ]
        exact Nat.le_trans h1 (Nat.mul_le_mul_right _ h2)
      have HNX : Hid ((cur.flatMap (ext1 A)).length ≤ 1099511627776) := Nat.le_trans HNL.out (Nat.le_trans (Nat.pow_le_pow_right (by omega) (show a + 1 ≤ 6 by omega)) (by decide))
      have HS0 : Hid ([] ++ (cur.drop 0).flatMap (ext1 A) = cur.flatMap (ext1 A)) := by show _ = _; simp
      generalize cur.flatMap (ext1 A) = nxt at HNF HNM HNL HNX HS0
      clear heq
      have HE0 := Lib.hid (OIntss.empty wo wo.heap.size (Nat.le_refl _))
      go_wp2_with fail
      go_loopw [8, 43] (fun v x wr => ∃ (k : Nat) (lg : List (List Int)), k ≤ cur.length ∧ x = .int .i64 k ∧ OIntss wr wo.heap.size v lg.length lg ∧ Hid (lg ++ (cur.drop k).flatMap (ext1 A) = nxt) ∧ Below wo.heap.size wo wr) (fun _ x _ => cur.length - (intOf x).toNat)
      case atStart => exact ⟨0, [], Nat.zero_le _, rfl, HE0.out, HS0, belowA _ _⟩
      case round =>
        obtain ⟨k, lg, hk, rfl, hown, heq, hbl⟩ := hrel
        clear HS0 HE0
        by_cases hkl : k < cur.length
        · obtain ⟨b1, o1, a1, c1, path, e1, q1, hrow, hget⟩ := HCI.out.at_ hkl
          subst e1
          have hpm := hmem.out path (List.mem_of_getElem? hget.out)
          have HPI := Lib.hid hpm.2
          have hpl := hpm.1
          have HST := Lib.hid (cur_step hget.out heq.out)
          have q2 := (hbl.cell (World.block_lt_of_cell? _ _ q1)).trans q1
          have Hown := Lib.hid hown
          have Hbl := Lib.hid hbl
          have Hrow := Lib.hid hrow
          clear hown hbl heq hget hpm q1 hrow
          by_cases hp0 : a = 0
          · subst hp0
            obtain rfl : path = [] := List.length_eq_zero_iff.1 hpl
            simp only [List.length_nil] at q2 Hrow
            clear hpl
            go_wp2_with fail
            clear q2
            go_loopw [8, 49] (fun v x wr => ∃ (b : Nat) (lg : List (List Int)), b ≤ N ∧ x = .int .i64 b ∧ OIntss wr wo.heap.size v lg.length lg ∧ Hid (lg ++ ((List.range' b (A.length - b)).flatMap (ext A []) ++ (cur.drop (k + 1)).flatMap (ext1 A)) = nxt) ∧ Below wo.heap.size wo wr) (fun _ x _ => N - (intOf x).toNat)
            case atStart => exact ⟨0, lg, Nat.zero_le _, rfl, Hown.out, HST, Hbl.out⟩
            case round =>
              obtain ⟨b, lg, hb, rfl, hown, heq, hbl⟩ := hrel
              obtain ⟨wi, rfl⟩ : ∃ wi : World, wi = wr := ⟨_, rfl⟩
              clear HST
              have Hown := Lib.hid hown
              have Hbl := Lib.hid hbl
              clear hown hbl
              by_cases hbN : b < N
              · have HbA : Hid (b < A.length) := by show b < A.length; rw [HAN.out]; exact hbN
                have HAi := Lib.hid (HAo.out.keep Hbl.out)
                have HPi := Lib.hid (Hrow.out.keep Hbl.out)
                obtain ⟨b2, o2, a3, c3, ak, e2, q3, hrow3, hget3⟩ := HAi.out.at_ hbN
                subst e2
                obtain ⟨x', y', rfl⟩ := HA2.out _ _ hget3.out
                obtain ⟨b3, o3, u3, rfl, q4, hgx⟩ := hrow3.at_ (k := 0) (by simp)
                simp at hgx
                obtain rfl := hgx.out
                have HG1 := Lib.hid hget3.out
                clear hget3 hgx hrow3
                simp only [List.length_cons, List.length_nil] at q3
                rw [Nat.add_zero] at q4
                have HOK : Hid (okN A [] b = true) := ok_zero rfl
                have HQ := Lib.hid (ext_yes HbA.out HOK.out heq.out)
                have hl := toCome_le HQ.out
                have hl2 : lg.length + 1 ≤ 1099511627776 := by have := HNX.out; simp at hl; omega
                clear heq hl
                go_wp2_with fail
                go_quiet (fail)
                skip
                go_wp2_with (first
                  | (at_builtin; refine wpList_push_fresh w6 _ wi rfl (.tmp 74) (.tmp 80) rfl wo.heap.size _ lg.length lg rfl Hown.out (by omega) Hbl.out.size Hb6.out _ _ Ho6.out _ rfl rfl ?_; intro v7 w7 ho7 hb7 _; have Ho7 := Lib.hid ho7; have Hb7 := Lib.hid (Hbl.out.trans hb7); clear ho7 hb7)
                  | (at_builtin; refine wpList_push_one w5 _ rfl (.tmp 76) (.tmp 78) rfl wi.heap.size v5 0 [] rfl Ho5.out (by omega) Hb5.out.size _ rfl rfl ?_; intro v6 w6 ho6 hb6; obtain ⟨a6, c6, rfl, _⟩ := ho6.form; have Ho6 := Lib.hid ho6; have Hb6 := Lib.hid (Hb5.out.trans hb6); clear ho6 hb6)
                  | (go_at_call 81; refine (clone_any _ _ _ [] _ (by exact HPi.out.keep (below_drewN (Below.refl _ _) _))).mono ?_; rintro e w5 ⟨v5, rfl, ho5, hb5⟩; have Ho5 : Hid (OInts w5 wi.heap.size v5 0 []) := ho5; have Hb5 : Hid (Below wi.heap.size wi w5) := (below_drewN (Below.refl _ _) _).trans hb5; clear ho5 hb5))
                go_roundw
                case rel =>
                  have h9 := Ho7.out
                  rw [show lg.length + 1 = (lg ++ [[] ++ [(b : Int)]]).length by simp] at h9
                  first | exact ⟨b + 1, _, hbN, by go_num, h9, HQ, Hb7.out⟩ | ((repeat apply Exists.intro); exact ⟨⟨b + 1, _, hbN, by go_num, h9, HQ, Hb7.out⟩, rfl⟩)
                case measure => simp [intOf]; omega
              · have HQ := Lib.hid (ext_end (by have := HAN.out; omega) heq.out)
                clear heq
                go_wp2_with fail
                go_roundw
                case rel => first | exact ⟨k + 1, lg, hkl, by go_num, Hown.out, HQ, Hbl.out⟩ | ((repeat apply Exists.intro); exact ⟨⟨k + 1, lg, hkl, by go_num, Hown.out, HQ, Hbl.out⟩, rfl⟩)
                case measure => simp [intOf]; omega
          · obtain ⟨q, rfl⟩ : ∃ q, a = q + 1 := ⟨a - 1, by omega⟩
            obtain ⟨pn, hpn⟩ : ∃ pn, path.length = pn := ⟨_, rfl⟩
            rw [hpn] at q2 Hrow hpl
            have HPN := Lib.hid hpn
            have hz : ((pn : Int) == 0) = false := by simp; omega
            have hw : IntKind.i64.wrap ((pn : Int) - 1) = (q : Int) := by rw [IntKind.wrap_i64]; omega
            have hqn : q < pn := by omega
            have hp6 : pn ≤ 6 := by omega
            have HHQ : Hid (path.length = q + 1) := by show _ = _; rw [hpn, hpl]
            clear hp0 hpl hpn
            go_wp2_with fail
            clear q2
            go_loopw [8, 49] (fun v x wr => ∃ (b : Nat) (lg : List (List Int)), b ≤ N ∧ x = .int .i64 b ∧ OIntss wr wo.heap.size v lg.length lg ∧ Hid (lg ++ ((List.range' b (A.length - b)).flatMap (ext A path) ++ (cur.drop (k + 1)).flatMap (ext1 A)) = nxt) ∧ Below wo.heap.size wo wr) (fun _ x _ => N - (intOf x).toNat)
            case atStart => exact ⟨0, lg, Nat.zero_le _, rfl, Hown.out, HST, Hbl.out⟩
            case round =>
              obtain ⟨b, lg, hb, rfl, hown, heq, hbl⟩ := hrel
              obtain ⟨wi, rfl⟩ : ∃ wi : World, wi = wr := ⟨_, rfl⟩
              clear HST
              have Hown := Lib.hid hown
              have Hbl := Lib.hid hbl
              clear hown hbl
              by_cases hbN : b < N
              · have HbA : Hid (b < A.length) := by show b < A.length; rw [HAN.out]; exact hbN
                have HAi := Lib.hid (HAo.out.keep Hbl.out)
                have HPi := Lib.hid (Hrow.out.keep Hbl.out)
                obtain ⟨b2, o2, a3, c3, ak, e2, q3, hrow3, hget3⟩ := HAi.out.at_ hbN
                subst e2
                obtain ⟨x', y', rfl⟩ := HA2.out _ _ hget3.out
                obtain ⟨b3, o3, u3, rfl, q4, hgx⟩ := hrow3.at_ (k := 0) (by simp)
                simp at hgx
                obtain rfl := hgx.out
                have HG1 := Lib.hid hget3.out
                clear hget3 hgx hrow3
                simp only [List.length_cons, List.length_nil] at q3
                rw [Nat.add_zero] at q4
                obtain ⟨b4, o4, xb, rfl, q5, hgb⟩ := HPi.out.at_ (k := q) hqn
                have hbr := HPI.out _ (List.mem_of_getElem? hgb.out)
                obtain ⟨bb, rfl⟩ : ∃ bb : Nat, xb = bb := ⟨xb.toNat, by omega⟩
                have hbb : bb < N := by have := HAN.out; omega
                obtain ⟨b5, o5, a5, c5, ab, e5, q6, hrow5, hget5⟩ := HAi.out.at_ hbb
                injection e5 with e5
                injection e5 with e6 e7
                subst e6
                subst e7
                obtain ⟨x4, y4, rfl⟩ := HA2.out _ _ hget5.out
                obtain ⟨b6, o6, u6, rfl, q7, hgy⟩ := hrow5.at_ (k := 1) (by simp)
                simp at hgy
                obtain rfl := hgy.out
                have HG5 := Lib.hid hget5.out
                have HGB := Lib.hid hgb.out
                clear hget5 hgy hrow5 hgb hbr
                simp only [List.length_cons, List.length_nil] at q6
                have HOF := Lib.hid (ok_of HHQ.out HGB.out HG5.out HG1.out)
                by_cases hxy : y4 = x'
                · have hd5 : (y4 == x') = true := by simp [hxy]
                  have HOK : Hid (okN A path b = true) := by show _ = _; rw [HOF.out]; simp [hxy]
                  clear hxy
                  have HQ := Lib.hid (ext_yes HbA.out HOK.out heq.out)
                  have hl := toCome_le HQ.out
                  have hl2 : lg.length + 1 ≤ 1099511627776 := by have := HNX.out; simp at hl; omega
                  clear heq hl
                  go_wp2_with fail
                  go_quiet (fail)
                  clear hd5
                  go_wp2_with (first
                    | (at_builtin; refine wpList_push_fresh w6 _ wi rfl (.tmp 74) (.tmp 80) rfl wo.heap.size _ lg.length lg rfl Hown.out (by omega) Hbl.out.size Hb6.out _ _ Ho6.out _ rfl rfl ?_; intro v7 w7 ho7 hb7 _; have Ho7 := Lib.hid ho7; have Hb7 := Lib.hid (Hbl.out.trans hb7); clear ho7 hb7)
                    | (at_builtin; refine wpList_push_one w5 _ rfl (.tmp 76) (.tmp 78) rfl wi.heap.size v5 pn path rfl Ho5.out (by omega) Hb5.out.size _ rfl rfl ?_; intro v6 w6 ho6 hb6; obtain ⟨a6, c6, rfl, _⟩ := ho6.form; have Ho6 := Lib.hid ho6; have Hb6 := Lib.hid (Hb5.out.trans hb6); clear ho6 hb6)
                    | (go_at_call 81; refine (clone_any _ _ _ path _ (by exact HPi.out.keep (below_drewN (Below.refl _ _) _))).mono ?_; rintro e w5 ⟨v5, rfl, ho5, hb5⟩; have Ho5 : Hid (OInts w5 wi.heap.size v5 pn path) := ho5; have Hb5 : Hid (Below wi.heap.size wi w5) := (below_drewN (Below.refl _ _) _).trans hb5; clear ho5 hb5))
                  go_roundw
                  case rel =>
                    have h9 := Ho7.out
                    rw [show lg.length + 1 = (lg ++ [path ++ [(b : Int)]]).length by simp] at h9
                    first | exact ⟨b + 1, _, hbN, by go_num, h9, HQ, Hb7.out⟩ | ((repeat apply Exists.intro); exact ⟨⟨b + 1, _, hbN, by go_num, h9, HQ, Hb7.out⟩, rfl⟩)
                  case measure => simp [intOf]; omega
                · have hd5 : (y4 == x') = false := by simp [hxy]
                  have HOK : Hid (okN A path b = false) := by show _ = _; rw [HOF.out]; simp [hxy]
                  clear hxy
                  have HQ := Lib.hid (ext_no HbA.out HOK.out heq.out)
                  clear heq
                  go_wp2_with fail
                  go_quiet (fail)
                  clear hd5
                  go_wp2_with fail
                  go_roundw
                  case rel => first | exact ⟨b + 1, lg, hbN, by go_num, Hown.out.drewN _, HQ, below_drewN Hbl.out _⟩ | ((repeat apply Exists.intro); exact ⟨⟨b + 1, lg, hbN, by go_num, Hown.out.drewN _, HQ, below_drewN Hbl.out _⟩, rfl⟩)
                  case measure => simp [intOf]; omega
              · have HQ := Lib.hid (ext_end (by have := HAN.out; omega) heq.out)
                clear heq
                go_wp2_with fail
                go_roundw
                case rel => first | exact ⟨k + 1, lg, hkl, by go_num, Hown.out, HQ, Hbl.out⟩ | ((repeat apply Exists.intro); exact ⟨⟨k + 1, lg, hkl, by go_num, Hown.out, HQ, Hbl.out⟩, rfl⟩)
                case measure => simp [intOf]; omega
        · have HQ := Lib.hid (cur_end (by omega) heq.out)
          have Hown2 := Lib.hid hown
          have Hbl2 := Lib.hid hbl
          clear hown hbl heq
          go_wp2_with fail
          go_roundw
          case rel =>
            have h9 := Hown2.out
            rw [HQ.out] at h9
            first | exact ⟨a + 1, nxt, hlt, by go_num, h9.mono Hbl.out.size, HNF, HNM, HNL, Hbl.out.trans (Hbl2.out.mono Hbl.out.size)⟩ | ((repeat apply Exists.intro); exact ⟨⟨a + 1, nxt, hlt, by go_num, h9.mono Hbl.out.size, HNF, HNM, HNL, Hbl.out.trans (Hbl2.out.mono Hbl.out.size)⟩, rfl⟩)
          case measure => simp [intOf]; omega
    · have HQ := Lib.hid (nxt_end (by omega) heq.out)
      clear heq
      go_wp2_with fail
      go_ret
      rw [hv.out]
      have h9 := Hown.out
      have e9 := HQ.out
      subst e9
      exact ⟨_, rfl, h9.mono Hb2.out.size, step2 Hb2.out Hbl.out⟩
end Go.Proofs.YtonfdiaefkghbaaGreatDoor
