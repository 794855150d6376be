/- IStates: a part of the proofs of this seat. -/
import Derived.BigQuiet
import Derived.Deep.RegionHeld3
import Derived.Test.YtdmpokanfnlbgaaGreatDoorProg
import Derived.Test.YtdmpokanfnlbgaaGreatDoorBG1b
import Derived.Test.YtdmpokanfnlbgaaGreatDoorBSGoes
namespace Go.Proofs.YtdmpokanfnlbgaaGreatDoor
open Go.RowKit
set_option linter.all false
theorem OBo.far {w w' : World} {lo n : Nat} {u v : Value} {f : Nat → Bool} (h : OBo w lo u n f) (hg : w.grownBy w' v.ownBlock) (ha : Apart u v) : OBo w' lo u n f := h.grown hg ha.ne
theorem obo_lt {w : World} {lo g n c : Nat} {f : Nat → Bool} (h : OBo w lo (.slice (some ⟨g, 0, none⟩) n c) n f) : ∀ b, (Value.slice (some ⟨g, 0, none⟩) n c).ownBlock = some b → b < w.heap.size := by
  intro b hb
  have h2 : g = b := by simpa [Value.ownBlock] using hb
  have := h.lt.2
  omega
set_option maxRecDepth 20000 in
set_option maxHeartbeats 6400000 in
theorem iStates_any (K : Nat) (aF : Option Addr) (nF cF : Nat) (F : List ByteArray) (w : World) (h : Strs w aF nF F) (hF : ∀ f ∈ F, 0 < f.size ∧ f.size ≤ 100) (hK1 : 1 ≤ K) (hK3 : K ≤ 3) (hm : MaxM w) :
    Calls Tryz.prog 73 #[.agg #[.int .i64 K, .slice aF nF cF]] w fun e w' => ∃ v, e = .returned v ∧ OStrs w' w.heap.size v (statesI K F).length (statesI K F) ∧ Below w.heap.size w w' := by
  have HB1 := Lib.hid (below1 w (.cells #[.int .i64 K, .slice aF nF cF] 30))
  have HA1 := Lib.hid (h.keep HB1.out)
  have HM1 := Lib.hid (hm.keep HB1.out)
  have HK1 := Lib.hid (Blk.new w 30 #[.int .i64 K, .slice aF nF cF])
  have k0 : (w.alloc (.cells #[.int .i64 K, .slice aF nF cF] 30)).cell? ⟨w.heap.size, 0, none⟩ = some (.int .i64 K) := HK1.out.cell 0
  have k1 : (w.alloc (.cells #[.int .i64 K, .slice aF nF cF] 30)).cell? ⟨w.heap.size, 1, none⟩ = some (.slice aF nF cF) := HK1.out.cell 1
  have HFs := Lib.hid hF
  clear h hF hm
  have HC := fun W (q1 : Strs W aF nF F) (q2 : MaxM W) => filtAv_any K aF nF cF F 2 W hK1 hK3 (by omega) (by omega) HFs.out q2 q1
  have hP9 : ((allW K 2).filter (avB F)).length ≤ 9 := words2_len hK3
  have HPS : Hid (∀ p ∈ (allW K 2).filter (avB F), p.size = 2) := fun p hp => by
    obtain ⟨i, _, rfl⟩ := allW_mem (List.mem_filter.1 hp).1
    exact wordN_size K 2 i
  have HR : Hid (statesI K F = pickB (livO F ((allW K 2).filter (avB F))) ((allW K 2).filter (avB F)) 0) := by show _ = _; rfl
  generalize (allW K 2).filter (avB F) = P at HC hP9 HPS HR
  have HC := Lib.hid HC
  rw [HR.out]
  clear HR
  go_enter Tryz.func73, Tryz.ntmps73
  go_wp2_with fail
  generalize w.alloc (.cells #[.int .i64 K, .slice aF nF cF] 30) = w1 at HB1 HA1 HM1 HK1 k0 k1 ⊢
  refine (HC.out _ HA1.out HM1.out).mono ?_
  rintro e w3 ⟨v3, rfl, ho3, hb3⟩
  obtain ⟨a3, c3, rfl, _⟩ := ho3.form
  have HP3 := Lib.hid ho3.read
  have HB3 := Lib.hid (step2 HB1.out hb3)
  have HA3 := Lib.hid (HA1.out.keep hb3)
  have HM3 := Lib.hid (HM1.out.keep hb3)
  have HK3 := Lib.hid (HK1.out.keep hb3)
  clear ho3 hb3 HA1 HM1 HK1 HB1 k0 k1
  have HE := Lib.hid (OIntss.empty w3 w3.heap.size (Nat.le_refl _))
  have HBE := Lib.hid (belowA w3 (.cells #[] 49))
  go_wp2_with fail
  go_loopw [4, 21] (fun v x wr => ∃ (i : Nat) (acc : List (List Int)), i ≤ P.length ∧ acc.length ≤ i ∧ x = .int .i64 i ∧ OIntss wr w3.heap.size v acc.length acc ∧ Hid (acc ++ (P.drop i).map (fun x => nxt F x P 0) = nextL F P) ∧ Below w3.heap.size w3 wr) (fun _ x _ => P.length - (intOf x).toNat)
  case atStart => exact ⟨0, [], Nat.zero_le _, Nat.le_refl _, rfl, HE.out, rfl, HBE.out⟩
  case round =>
    obtain ⟨i, acc, hi, hal, rfl, hown, hr, hbl⟩ := hrel
    obtain ⟨a4, c4, rfl, _⟩ := hown.form
    have HO := Lib.hid hown
    have HB := Lib.hid hbl
    clear hown hbl HE HBE
    obtain ⟨wo, rfl⟩ : ∃ wo : World, wo = wr := ⟨_, rfl⟩
    by_cases hlt : i < P.length
    · obtain ⟨b, o, x, rfl, hc, hs⟩ := (HP3.out.keep HB.out).at_ hlt
      have HNX := Lib.hid (map_step hs.out hr.out)
      have hx2 := HPS.out x (List.mem_of_getElem? hs.out)
      have hx1 : 1 < x.size := by omega
      have hx50 : x.size ≤ 50 := by omega
      obtain ⟨d, hd⟩ : ∃ d : Nat, x[1].toNat = d := ⟨_, rfl⟩
      have hbx : Hid (bl x 1 = d) := (bl_get hx1).trans hd
      have HE2 := Lib.hid (OInts.empty wo wo.heap.size (Nat.le_refl _))
      have HBE2 := Lib.hid (belowA wo (.cells #[] 3))
      clear hs hr hx2
      go_wp2_with fail
      go_loopw [7, 28] (fun v y wr => ∃ (k : Nat) (row : List Int), k ≤ P.length ∧ row.length ≤ k ∧ y = .int .i64 k ∧ OInts wr wo.heap.size v row.length row ∧ Hid (row ++ nxt F x (P.drop k) k = nxt F x P 0) ∧ Below wo.heap.size wo wr) (fun _ y _ => P.length - (intOf y).toNat)
      case atStart => exact ⟨0, [], Nat.zero_le _, Nat.le_refl _, rfl, HE2.out, rfl, HBE2.out⟩
      case round =>
        obtain ⟨k, row, hk, hrl, rfl, hown, hr, hbl⟩ := hrel
        obtain ⟨a7, c7, rfl, _⟩ := hown.form
        have HO2 := Lib.hid hown
        have HB2 := Lib.hid hbl
        have HW2 := Lib.hid (HB.out.trans (hbl.mono HB.out.size))
        clear hown hbl HE2 HBE2
        obtain ⟨wp, rfl⟩ : ∃ wp : World, wp = wr := ⟨_, rfl⟩
        by_cases hkn : k < P.length
        · obtain ⟨p, hp⟩ : ∃ p, P[k]? = some p := ⟨_, List.getElem?_eq_getElem hkn⟩
          have hcp := (HP3.out.keep HW2.out).cellAt hp
          have hp2 := HPS.out p (List.mem_of_getElem? hp)
          have hp0 : 0 < p.size := by omega
          have hp1 : (1 : Int) ≤ (p.size : Int) := by omega
          have hp50 : p.size ≤ 50 := by omega
          have hq : ¬ (9223372036854775807 < x.size + (p.size - 1)) := by omega
          obtain ⟨c, hcb⟩ : ∃ c : Nat, p[0].toNat = c := ⟨_, rfl⟩
          have hbp : bl p 0 = c := (bl_get hp0).trans hcb
          have HG : Hid (adj F x p = ((d == c) && avB F (x ++ p.extract 1 p.size))) := by show _ = _; simp [adj, hbp, hbx.out]
          have HST := Lib.hid (nxt_step hp hr.out)
          have hsz := cat_size hx50 hp50
          have HKp := Lib.hid (HK3.out.keep HW2.out)
          have HAp := Lib.hid (HA3.out.keep HW2.out)
          have HMp := Lib.hid (HM3.out.keep HW2.out)
          have k0 := HKp.out.cell 0
          have k1 := HKp.out.cell 1
          change _ = some _ at k0
          change _ = some _ at k1
          have HD := Lib.hid (below_drewN (Below.refl wp.heap.size wp) 1)
          have k0d : wp.drew.cell? ⟨w.heap.size, 0, none⟩ = some (.int .i64 K) := k0
          have k1d : wp.drew.cell? ⟨w.heap.size, 1, none⟩ = some (.slice aF nF cF) := k1
          clear hp hr hp2 hbp
          by_cases e : d = c
          · have de : ((d : Int) == (c : Int)) = true := beq_iff_eq.2 (by omega)
            have HCA := fun W (q : Strs W aF nF F) (q2 : MaxM W) => iAvoids_any K aF nF cF F (x ++ p.extract 1 p.size) W q hsz HFs.out q2
            cases hav : avB F (x ++ p.extract 1 p.size)
            · have HN := Lib.hid (HST.out.2 (by rw [HG.out, hav]; simp))
              rw [hav] at HCA
              have HCA := Lib.hid HCA
              clear HST HG e hav
              go_wp2_with fail
              go_region_held3 (fun w' => w'.cell? ⟨w.heap.size, 0, none⟩ = some (.int .i64 K) ∧ w'.cell? ⟨w.heap.size, 1, none⟩ = some (.slice aF nF cF)) (first | exact ⟨k0d, k1d⟩ | exact ⟨q0, q1⟩) ((go_at_call 93; refine (HCA.out wp.drew (HAp.out.keep HD.out) (HMp.out.keep HD.out)).mono ?_; rintro e w5 ⟨rfl, hb5⟩; have hb6 := HD.out.trans (hb5.mono (Nat.le_refl _)); have HB6 := Lib.hid hb6; have q0 := (HKp.out.keep hb6).cell 0; have q1 := (HKp.out.keep hb6).cell 1; change _ = some _ at q0; change _ = some _ at q1; clear hb5 hb6))
              all_goals
                go_wp2_with fail
                go_roundw
                case rel => exact ⟨k + 1, row, hkn, by omega, by go_num, HO2.out.keep HB6.out, HN.out, HB2.out.trans (HB6.out.mono HB2.out.size)⟩
                case measure => (simp [intOf] <;> omega)
            · have HN := Lib.hid (HST.out.1 (by rw [HG.out, hav]; simp [e]))
              rw [hav] at HCA
              have HCA := Lib.hid HCA
              clear HST HG e hav
              go_wp2_with fail
              go_region_held3 (fun w' => w'.cell? ⟨w.heap.size, 0, none⟩ = some (.int .i64 K) ∧ w'.cell? ⟨w.heap.size, 1, none⟩ = some (.slice aF nF cF)) (first | exact ⟨k0d, k1d⟩ | exact ⟨q0, q1⟩) ((go_at_call 93; refine (HCA.out wp.drew (HAp.out.keep HD.out) (HMp.out.keep HD.out)).mono ?_; rintro e w5 ⟨rfl, hb5⟩; have hb6 := HD.out.trans (hb5.mono (Nat.le_refl _)); have HB6 := Lib.hid (HB2.out.trans (hb6.mono HB2.out.size)); have HO6 := Lib.hid (HO2.out.keep hb6); have q0 := (HKp.out.keep hb6).cell 0; have q1 := (HKp.out.keep hb6).cell 1; change _ = some _ at q0; change _ = some _ at q1; clear hb5 hb6))
              all_goals
                go_wp2_with (at_builtin; refine wpList_push_one w5 _ rfl (.tmp 46) (.tmp 48) rfl wo.heap.size _ _ _ rfl HO6.out (by omega) HB6.out.size _ rfl rfl ?_; intro v7 w7 ho7 hb7; have HO7 := Lib.hid ho7; have HB7 := Lib.hid (HB6.out.trans hb7); clear ho7 hb7)
                go_roundw
                case rel => exact ⟨k + 1, _, hkn, by simp; omega, by go_num, by simpa using HO7.out, HN.out, HB7.out⟩
                case measure => (simp [intOf] <;> omega)
          · have de : ((d : Int) == (c : Int)) = false := beq_eq_false_iff_ne.2 (by omega)
            have HN := Lib.hid (HST.out.2 (by rw [HG.out]; simp [e]))
            clear HST HG e hq
            go_wp2_with fail
            go_quiet (fail)
            go_wp2_with fail
            go_roundw
            case rel => exact ⟨k + 1, row, hkn, by omega, by go_num, HO2.out, HN.out, (by first | exact HB2.out | exact below_drewN HB2.out _ | exact below_drewN (below_drewN HB2.out _) _)⟩
            case measure => (simp [intOf] <;> omega)
        · have HE3 := Lib.hid (nxt_end (by omega) hr.out)
          have HO3 : Hid (OInts wp wo.heap.size (.slice a7 row.length c7) row.length (nxt F x P 0)) := by show OInts _ _ _ _ _; rw [← HE3.out]; exact HO2.out
          clear hr
          go_wp2_with (at_builtin; refine wpList_push_fresh wp _ wo rfl (.tmp 51) (.tmp 53) rfl w3.heap.size _ _ _ rfl HO.out (by omega) HB.out.size HB2.out _ _ HO3.out _ rfl rfl ?_; intro v7 w7 ho7 hb7 _; have HO7 := Lib.hid ho7; have HB7 := Lib.hid (HB.out.trans hb7); clear ho7 hb7)
          go_roundw
          case rel => exact ⟨i + 1, _, hlt, by simp; omega, by go_num, by simpa using HO7.out, HNX.out, HB7.out⟩
          case measure => (simp [intOf] <;> omega)
    · have HN : Hid (acc = nextL F P) := map_end (by omega) hr.out
      have HNL : Hid (acc.length = P.length) := by show _ = _; rw [HN.out]; exact nextL_len F P
      have HES := Lib.hid (OStrs.empty wo wo.heap.size (Nat.le_refl _))
      have HBS := Lib.hid (belowA wo (.cells #[] 9))
      have HRI := Lib.hid (HO.out.readI)
      clear hr
      go_wp2_with fail
      refine (iLively_any a4 acc.length c4 acc _ (HRI.out.keep HBS.out) (by have := HNL.out; omega) (by rw [HNL.out, HN.out]; exact nextL_mem)).mono ?_
      rintro e w5 ⟨g, rfl, ho5, hb5⟩
      have hlv : livF acc acc.length acc.length (fun i => decide (i < acc.length)) = livO F P := by rw [HNL.out, HN.out]; rfl
      rw [hlv] at ho5
      have HGP : Hid (Apart (.slice (some ⟨g, 0, none⟩) acc.length acc.length) (.slice (some ⟨wo.heap.size, 0, none⟩) 0 0)) := by
        show Apart _ _
        intro b hb e
        have h1 := ho5.lt.1
        have hb2 : g = b := by simpa [Value.ownBlock] using hb
        have he2 : wo.heap.size = b := by simpa [Value.ownBlock] using e
        have h2 := HES.out.lt.2
        omega
      have HG5 := Lib.hid (ho5.mono HBS.out.size)
      have HS5 := Lib.hid (HES.out.keep hb5)
      have HB5 := Lib.hid (HBS.out.trans (hb5.mono HBS.out.size))
      have hac := HNL.out
      clear ho5 hb5 hlv
      go_wp2_with fail
      go_loopw [10, 60] (fun v x wr => ∃ (i : Nat) (out : List ByteArray), i ≤ P.length ∧ out.length ≤ i ∧ x = .int .i64 i ∧ OStrs wr wo.heap.size v out.length out ∧ OBo wr wo.heap.size (.slice (some ⟨g, 0, none⟩) acc.length acc.length) acc.length (livO F P) ∧ Apart (.slice (some ⟨g, 0, none⟩) acc.length acc.length) v ∧ Hid (out ++ pickB (livO F P) (P.drop i) i = pickB (livO F P) P 0) ∧ Below wo.heap.size wo wr) (fun _ x _ => P.length - (intOf x).toNat)
      case atStart => exact ⟨0, [], Nat.zero_le _, Nat.le_refl _, rfl, HS5.out, HG5.out, HGP.out, rfl, HB5.out⟩
      case round =>
        obtain ⟨i, out, hi, hol, rfl, hown, hg, hap, hr, hbl⟩ := hrel
        obtain ⟨a7, c7, rfl, _⟩ := hown.form
        have HO7 := Lib.hid hown
        have HGr := Lib.hid hg
        have HAP := Lib.hid hap
        have HBr := Lib.hid hbl
        have HW := Lib.hid (HB.out.trans (hbl.mono HB.out.size))
        clear hown hg hap hbl HS5 HG5 HGP HB5
        by_cases hin : i < P.length
        · obtain ⟨b, o, p, rfl, hcp, hp⟩ := (HP3.out.keep HW.out).at_ hin
          have HST := Lib.hid (pick_step hp.out hr.out)
          have cg := HGr.out.cell (k := i) (by omega)
          have hia : i < acc.length := by omega
          clear hp hr
          cases hO : livO F P i
          · have HN2 := Lib.hid (HST.out.2 hO)
            rw [hO] at cg
            clear HST hO
            go_wp2_with fail
            go_roundw
            case rel => exact ⟨i + 1, out, hin, by omega, by go_num, HO7.out, HGr.out, HAP.out, HN2.out, HBr.out⟩
            case measure => (simp [intOf] <;> omega)
          · have HN2 := Lib.hid (HST.out.1 hO)
            rw [hO] at cg
            clear HST hO
            go_wp2_with (at_builtin; refine wpList_push_strAt wr _ rfl (.tmp 66) (.tmp 71) rfl wo.heap.size _ _ _ rfl HO7.out (by omega) HBr.out.size _ rfl rfl ?_; intro v8 w8 ho8 hg8 hn8; have HO8 := Lib.hid ho8; have HB8 := Lib.hid (HBr.out.grown hg8 HBr.out.size (fun b hb => (HO7.out.ownlt b hb).1)); have HG8 := Lib.hid (HGr.out.far hg8 HAP.out); have HAP8 := Lib.hid (hn8.apart HAP.out (obo_lt HGr.out)); clear ho8 hg8 hn8)
            go_roundw
            case rel => exact ⟨i + 1, _, hin, by simp; omega, by go_num, by simpa using HO8.out, HG8.out, HAP8.out, HN2.out, HB8.out⟩
            case measure => (simp [intOf] <;> omega)
        · have HE4 := Lib.hid (pick_end (by omega) hr.out)
          clear hr
          go_wp2_with fail
          go_ret
          rw [← HE4.out]
          exact ⟨_, rfl, HO7.out.mono (Nat.le_trans HB3.out.size HB.out.size), HB3.out.trans ((HB.out.trans (HBr.out.mono HB.out.size)).mono HB3.out.size)⟩
end Go.Proofs.YtdmpokanfnlbgaaGreatDoor
