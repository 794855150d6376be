/- SSpOut: a part of the proofs of this seat. -/
import Derived.Deep.RegionLaw
import Derived.Deep.AppendLies
import Derived.Test.YtbjoblgklcilpaaGreatDoorProg
import Derived.Test.YtbjoblgklcilpaaGreatDoorJG1a
import Derived.Test.YtbjoblgklcilpaaGreatDoorJG0b
import Derived.Test.YtbjoblgklcilpaaGreatDoorJG0a
import Derived.Test.YtbjoblgklcilpaaGreatDoorJThA
namespace Go.Proofs.YtbjoblgklcilpaaGreatDoor
open Go.RowKit
set_option linter.all false
theorem spT_map (m : List (List Int)) (i : Nat) (p : List Int) : spT m i p = (m.set i p ++ [lessL (m.getD i []) p]).map (spRow i) := by simp [spT, spTop]
set_option maxRecDepth 20000 in
set_option maxHeartbeats 6400000 in
theorem sSplitOut_in (b1 o1 : Nat) (n c : Nat) (m : List (List Int)) (i0 : Nat) (q : Option Addr) (c2 : Nat) (pt : List Int) (w : World) (h : Intss w (some ⟨b1, o1, none⟩) n m) (hq : Ints w q n pt) (hm : isMat m = true) (hi : i0 < n) (h9 : n < 9) :
    Calls Tryz.prog 13 #[.slice (some ⟨b1, o1, none⟩) n c, .int .i64 i0, .slice q n c2] w fun e w' => ∃ v, e = .returned (.tuple #[v, .bool (splOk m i0 pt)]) ∧ OIntss w' w.heap.size v (splV m i0 pt).length (splV m i0 pt) ∧ Below w.heap.size w w' := by
  have HL : Hid (m.length = n) := h.1
  have HPL : Hid (pt.length = n) := hq.1
  have H := Lib.hid h
  have HQ := Lib.hid hq
  have hm2 := hq.2.1
  clear h hq
  have HN : Hid (∀ (_ : splOk m i0 pt = false), splV m i0 pt = []) := fun e => splV_no e
  have HFA : Hid (splOk m i0 pt = true → SplFacts m i0 pt) := splOk_facts
  have HM : Hid (isMat m = true) := hm
  have hd9 : ((n : Int) == 9) = false := by simp; omega
  have hne : ((n : Int) != (n : Int)) = false := by simp
  have hin : inR (i0 : Int) 0 ((n : Int) - 1) = true := inR_mk ⟨by omega, by omega⟩
  obtain ⟨b0, o0, a1, c1, r, e0, hca, hrow, hget⟩ := H.out.at_ hi
  injection e0 with e0
  injection e0 with e1 e2
  subst e1
  subst e2
  have hgr : m.getD i0 [] = r := getD_of hget.out
  have hrl : r.length = n := by rw [(isMat_row HM.out hget.out).1, HL.out]
  have HRA := Lib.hid (isMat_row HM.out hget.out).2
  have HLT : Hid (leL pt r = true → splOk m (i0 : Int) pt = true) := fun e => splOk_mk ⟨HM.out, by have := HL.out; omega, by omega, by rw [Int.toNat_natCast, HL.out]; exact hi, by rw [HPL.out, HL.out], by rw [Int.toNat_natCast, hgr]; exact e⟩
  have HLF : Hid (leL pt r = false → splOk m (i0 : Int) pt = false) := by
    intro e
    cases hs : splOk m (i0 : Int) pt with
    | false => rfl
    | true =>
      have := (HFA.out hs).le
      rw [Int.toNat_natCast, hgr, e] at this
      cases this
  have Hrow := Lib.hid hrow
  have HRL := Lib.hid hrl
  have HGR := Lib.hid hgr
  have HGET : Hid (m[i0]? = some r) := hget.out
  have HRB : Hid (∀ r ∈ m, r.length ≤ 1048576) := fun r hr => by obtain ⟨k, hk⟩ := List.getElem?_of_mem hr; rw [(isMat_row HM.out hk).1, HL.out]; omega
  clear hrow hget hgr hrl hm
  go_enter Tryz.func13, Tryz.ntmps13
  go_wp2_with (first | (go_at_call 42; refine (sIsMatrix_any _ _ _ m _ H.out).mono ?_; rw [HM.out]; rintro e w' ⟨rfl, rfl⟩) | (go_at_call 43; refine (l1In_any _ _ _ _).mono ?_; rintro e w' ⟨rfl, rfl⟩))
  go_loopw [8] (fun x wr => ∃ k : Nat, k ≤ n ∧ x = .int .i64 k ∧ Hid (leL (pt.drop k) (r.drop k) = leL pt r) ∧ Drew w wr) (fun x _ => n - (intOf x).toNat)
  case atStart => exact ⟨0, Nat.zero_le _, rfl, rfl, Drew.refl _⟩
  case round =>
    obtain ⟨k, hk, rfl, hr, ⟨dn, rfl⟩⟩ := hrel
    by_cases hlt : k < n
    · obtain ⟨b2, o2, x, rfl, hcx, hgx⟩ := HQ.out.at_ (k := k) hlt
      obtain ⟨b3, o3, y, rfl, hcy, hgy⟩ := Hrow.out.at_ (k := k) (by have := HRL.out; omega)
      have Hst := Lib.hid (leL_step hgx.out hgy.out hr.out)
      have hkr : k < r.length := by have := HRL.out; omega
      clear hgx hgy hr
      cases hxy : inR x 0 y
      · have hg : Hid (splOk m (i0 : Int) pt = false) := HLF.out (Hst.out.2 hxy)
        have hv := Lib.hid (HN.out hg.out)
        clear Hst
        go_wp2_with fail
        go_quiet ((go_at_call 43; first | exact quiet_L (l1In_any _ _ _ _) | exact quiet_La (l1In_any _ _ _ _)))
        go_wp2_with fail
        go_ret2
        rw [hg.out, hv.out]
        exact ⟨_, rfl, OIntss.empty _ _ (Nat.le_refl _), (below_drewN (Below.refl _ _) _).alloc (Nat.le_refl _) _⟩
      · have hr1 : Hid _ := Hst.out.1 hxy
        clear Hst
        go_wp2_with fail
        go_quiet ((go_at_call 43; first | exact quiet_L (l1In_any _ _ _ _) | exact quiet_La (l1In_any _ _ _ _)))
        go_wp2_with fail
        go_roundw
        case rel => exact ⟨k + 1, hlt, by go_num, hr1, (by first | exact Drew.refl _ | exact Drew.mk _ _ | exact (Drew.mk _ _).drewN _)⟩
        case measure => simp [intOf]; omega
    · have hle := leL_end (by have := HPL.out; omega) hr.out
      have HLE := Lib.hid hle
      have hg : Hid (splOk m (i0 : Int) pt = true) := HLT.out hle
      have hv : Hid (splV m (i0 : Int) pt = spT m i0 pt) := by show _ = _; rw [splV_yes hg.out, Int.toNat_natCast]
      have HE : Hid ((spT m i0 pt).length = n + 1) := by show _ = _; rw [spT_len, HL.out]
      have hb1 := below_drewN (Below.refl w.heap.size w) dn
      have hdk : decide ((k : Int) < (n : Int)) = false := decide_eq_false (by omega)
      have hdk2 : decide (k < n) = false := decide_eq_false (by omega)
      have HW1 : Hid (Intss (w.drewN dn) (some ⟨b1, o1, none⟩) n m) := H.out
      clear hr HLT HLF HN HFA hle
      go_wp2_with fail
      refine (sCopy_any _ _ _ m _ HW1.out (by omega) HRB.out).mono ?_
      rintro e w1 ⟨v1, rfl, ho1, hb1'⟩
      obtain ⟨g, cap, rfl⟩ := ho1.head (by omega)
      have hbw1 := hb1.trans (hb1'.mono (by exact hb1.size))
      have Ho1 : Hid (OIntss w1 w.heap.size (.slice (some ⟨g, 0, none⟩) n cap) n m) := ho1
      have Hb1 := Lib.hid hbw1
      have hca1 := (hbw1.cell (World.block_lt_of_cell? w _ hca)).trans hca
      have hca2 : (w1.alloc (.cells #[] 3)).cell? ⟨b1, o1 + i0, none⟩ = some (.slice a1 r.length c1) := (((Below.refl w1.heap.size w1).alloc (Nat.le_refl _) _).cell (World.block_lt_of_cell? w1 _ hca1)).trans hca1
      have HQ1 := Lib.hid (HQ.out.keep hbw1)
      have HR1 := Lib.hid (Hrow.out.keep hbw1)
      clear ho1 hb1 hb1' hbw1
      have HEM := Lib.hid (OInts.empty w1 w1.heap.size (Nat.le_refl _))
      have HBM := Lib.hid ((Below.refl w1.heap.size w1).alloc (Nat.le_refl _) (.cells #[] 3))
      go_wp2_with fail
      go_loopw [10, 11] (fun v x wr => ∃ k : Nat, k ≤ n ∧ x = .int .i64 k ∧ OInts wr w1.heap.size v k ((lessL r pt).take k) ∧ Below w1.heap.size w1 wr) (fun _ x _ => n - (intOf x).toNat)
      case atStart => exact ⟨0, Nat.zero_le _, rfl, HEM.out, HBM.out⟩
      case round =>
        clear HEM HBM
        obtain ⟨k, hk, rfl, hown, hbl⟩ := hrel
        obtain ⟨ao5, cap5, e5, _⟩ := hown.form
        subst e5
        by_cases hlt : k < n
        · obtain ⟨b2, o2, x, e2, hcx, hgx⟩ := HR1.out.at_ (k := k) (by have := HRL.out; omega)
          subst e2
          obtain ⟨b3, o3, y, e3, hcy, hgy⟩ := HQ1.out.at_ (k := k) hlt
          subst e3
          have q0 := (hbl.cell (World.block_lt_of_cell? w1 _ hca1)).trans hca1
          have q1 := (hbl.cell (World.block_lt_of_cell? w1 _ hcx)).trans hcx
          have q2 := (hbl.cell (World.block_lt_of_cell? w1 _ hcy)).trans hcy
          have hx1 := allIn_get HRA.out hgx.out
          have hy1 := leL_get HLE.out hgy.out hgx.out
          have hw1 : IntKind.i64.wrap (x - y) = x - y := by rw [wrap_i64_eq]; unfold wrap64; omega
          have hw2 : wrap64 (x - y) = x - y := by unfold wrap64; omega
          have hkr : k < r.length := by have := HRL.out; omega
          have HNL := Lib.hid (lessL_get hgx.out hgy.out)
          have Hown : Hid (OInts wr.drew w1.heap.size (.slice ao5 k cap5) k ((lessL r pt).take k)) := hown.drewN 1
          have Hbl : Hid (Below w1.heap.size w1 wr.drew) := hbl.drew
          clear hown hbl hcx hcy hgx hgy hx1 hy1
          go_wp2_with fail
          go_region_law (first
            | (refine step_of_wp rfl (wp_push_one wr.drew _ (.tmp 66) (.tmp 79) rfl w1.heap.size _ _ _ rfl Hown.out (by omega) (by exact Hbl.out.size) _ rfl rfl ?_); intro v6 w6 ho6 hb6; have Ho6 := Lib.hid ho6; have Hb6 := Lib.hid (Hbl.out.trans hb6); clear ho6 hb6))
          all_goals (go_wp2_with fail)
          all_goals refine ⟨?_, ?_⟩
          all_goals first
            | (have h5 := Ho6.out; (try rw [hw1] at h5); (try rw [hw2] at h5); rw [push_take HNL.out] at h5; exact ⟨k + 1, hlt, by go_num, h5, Hb6.out⟩)
            | (simp [intOf]; omega)
        · have hkn : k = n := by omega
          have hown2 := hown
          rw [List.take_of_length_le (by rw [lessL_len (by rw [HPL.out, HRL.out]), HRL.out]; omega), hkn] at hown2
          have HRE := Lib.hid hown2
          have HRB2 := Lib.hid hbl
          subst hkn
          obtain ⟨w3, rfl⟩ : ∃ w3 : World, w3 = wr := ⟨_, rfl⟩
          have hs1 := Hb1.out.size
          have hs3 := hbl.size
          have hgl := Ho1.out.lt
          have Ho3 := Lib.hid (Ho1.out.keep hbl)
          have HQ3 := Lib.hid (HQ1.out.keep hbl)
          have HE3 := Lib.hid (OInts.empty w3 w3.heap.size (Nat.le_refl _))
          have HB3 := Lib.hid ((Below.refl w3.heap.size w3).alloc (Nat.le_refl _) (.cells #[] 3))
          have HFR : Hid (FarAll w3 w.heap.size (.slice (some ⟨g, 0, none⟩) k cap) k (.slice ao5 k cap5)) := FarAll.new Ho1.out hbl (fun b hb => (hown2.ownlt b hb).1)
          have hrn0 : 0 < r.length := by have := HRL.out; omega
          obtain ⟨gk3, ck3, hc3, _, _, _⟩ := Ho3.out.rowAt HGET.out hrn0
          have HC3 := Lib.hid hc3
          have hdk : decide ((k : Int) < (k : Int)) = false := decide_eq_false (by omega)
          have hdk2 : decide (k < k) = false := decide_eq_false (by omega)
          have hk1 : k + 1 ≤ 1099511627776 := by omega
          clear hown hown2 hbl hca1 hca2 hca hc3 hlt
          go_wp2_with (first
            | (at_builtin; refine wpList_app_ints _ rfl (.tmp 83) (.tmp 84) rfl w3.heap.size _ 0 [] rfl HE3.out _ _ _ pt rfl (HQ3.out.keep HB3.out) (by omega) HB3.out.size ?_; intro v4 w4 ho4 hg4; rw [Nat.zero_add, List.nil_append] at ho4; obtain ⟨g4, cap4, rfl⟩ := ho4.head (by omega); have Ho4 := Lib.hid ho4; have Hb4 : Hid (Below w3.heap.size w3 w4) := HB3.out.grown hg4 HB3.out.size (fun k hk => (HE3.out.ownlt k hk).1); have hO4 := Ho3.out.keep Hb4.out; obtain ⟨gk4, ck4, h5, _, _, _⟩ := hO4.rowAt HGET.out hrn0; have h6 := hO4.frozen i0; have hO4' := Lib.hid hO4; have HP5 : Hid (OIntss (w4.setCell ⟨g, i0, none⟩ (.slice (some ⟨g4, 0, none⟩) k cap4)) w.heap.size (.slice (some ⟨g, 0, none⟩) k cap) k (m.set i0 pt)) := Ho3.out.pushIn HGET.out HC3.out (by rw [HPL.out]; exact Ho4.out.mono (by omega)) (grown_of_below Hb4.out) (.inr ⟨g4, rfl, Ho4.out.lt.1⟩); have HF5 : Hid (FarAll (w4.setCell ⟨g, i0, none⟩ (.slice (some ⟨g4, 0, none⟩) k cap4)) w.heap.size (.slice (some ⟨g, 0, none⟩) k cap) k (.slice ao5 k cap5)) := FarAll.put hO4'.out (FarAll.keep Ho3.out HFR.out Hb4.out) (fun b hb e => by have h1 := (HRE.out.ownlt b hb).2; have h2 := (Ho4.out.ownlt b e).1; omega); have HR5 : Hid (OInts (w4.setCell ⟨g, i0, none⟩ (.slice (some ⟨g4, 0, none⟩) k cap4)) w.heap.size (.slice ao5 k cap5) k (lessL r pt)) := ((HRE.out.keep Hb4.out).away (only_setCell (World.grownBy.refl w4 (some g)) rfl (p := ⟨g, i0, none⟩) _) hgl.2).mono hs1; have Hb5 : Hid (Below w.heap.size w (w4.setCell ⟨g, i0, none⟩ (.slice (some ⟨g4, 0, none⟩) k cap4))) := ((Hb1.out.trans (HRB2.out.mono hs1)).trans (Hb4.out.mono (by omega))).setCell (p := ⟨g, i0, none⟩) hgl.1 _; clear ho4 hg4 hO4)
            | (at_builtin; refine wpList_push_rowF (w4.setCell ⟨g, i0, none⟩ (.slice (some ⟨g4, 0, none⟩) k cap4)) _ rfl (.tmp 87) (.tmp 89) rfl w.heap.size _ k _ rfl HP5.out hk1 Hb5.out.size _ _ HR5.out HF5.out _ ?_ rfl ?_; (simp); intro v6 w6 ho6 hb6; obtain ⟨g6, cap6, rfl⟩ := ho6.head (by omega); have Ho6 := Lib.hid ho6; have Hb6 := Lib.hid (Hb5.out.trans hb6); clear ho6 hb6))
          have HSPM : Hid (spT m i0 pt = (m.set i0 pt ++ [lessL r pt]).map (spRow i0)) := by show _ = _; rw [spT_map, HGR.out]
          have HML : Hid ((m.set i0 pt ++ [lessL r pt]).length = k + 1) := by show _ = _; simp [HL.out]
          have HMR : Hid (∀ (j : Nat) (s : List Int), (m.set i0 pt ++ [lessL r pt])[j]? = some s → s.length = k) := by
            intro j s hs
            rcases List.mem_append.1 (List.mem_of_getElem? hs) with hs | hs
            · rcases List.mem_or_eq_of_mem_set hs with hs | rfl
              · obtain ⟨q, hq⟩ := List.getElem?_of_mem hs
                rw [(isMat_row HM.out hq).1, HL.out]
              · exact HPL.out
            · simp at hs
              subst hs
              rw [lessL_len (by rw [HPL.out, HRL.out]), HRL.out]
          generalize m.set i0 pt ++ [lessL r pt] = M1 at Ho6 HSPM HML HMR
          clear HP5 HF5 HR5 Hb5 HE3 HB3 HQ3 HC3 HRE Hb4 HFR Ho3 Ho4 hO4'
          go_loopw [12] (fun x wr => ∃ j : Nat, j ≤ k + 1 ∧ x = .int .i64 j ∧ OIntss wr w.heap.size (.slice (some ⟨g6, 0, none⟩) (k + 1) cap6) (k + 1) ((M1.map (spRow i0)).take j ++ M1.drop j) ∧ Below w.heap.size w wr) (fun x _ => k + 1 - (intOf x).toNat)
          case atStart => exact ⟨0, Nat.zero_le _, rfl, by simpa using Ho6.out, Hb6.out⟩
          case round =>
            clear Ho6 Hb6
            obtain ⟨j, hj, rfl, hown, hbl⟩ := hrel
            by_cases hlt : j < k + 1
            · obtain ⟨s, hs⟩ : ∃ s, M1[j]? = some s := ⟨_, List.getElem?_eq_getElem (by rw [HML.out]; exact hlt)⟩
              have hsl : s.length = k := HMR.out j s hs
              have his : i0 < s.length := by omega
              obtain ⟨x, hx⟩ : ∃ x, s[i0]? = some x := ⟨_, List.getElem?_eq_getElem his⟩
              have hxk : ((M1.map (spRow i0)).take j ++ M1.drop j)[j]? = some s := mix_get (by rw [List.length_map, HML.out]; exact hj) hs
              obtain ⟨gk, ck, hc, ho, hne, hlo⟩ := hown.rowAt hxk (by omega)
              have hcx := ho.cell i0 his
              rw [getD_of hx] at hcx
              have hmix := mix_set (M := M1.map (spRow i0)) (N := M1) hs (show (M1.map (spRow i0))[j]? = some (spRow i0 s) by simp [hs])
              have HS : Hid (s ++ [x] = spRow i0 s) := spRow_is hx
              have hf := hown.frozen j
              have hgl6 := hown.lt
              have hgkl := ho.lt
              have HNE : Hid (some g6 ≠ (Value.slice (some ⟨gk, 0, none⟩) s.length ck).ownBlock) := fun e => hne (Option.some.inj e).symm
              have Hxk := Lib.hid hxk
              have Hmix := Lib.hid hmix
              have HSL := Lib.hid hsl
              have hsm : s.length ≤ 9 := by omega
              have Hown := Lib.hid hown
              have Hbl := Lib.hid hbl
              have Ho := Lib.hid ho
              clear hown hbl hs hx hsl hxk hmix ho
              go_wp2_with fail
              go_region_law (first
                | (refine step_of_wp rfl (wp_push_at wr.drew _ (.tmp 102) (.tmp 110) rfl w.heap.size _ _ _ rfl (by exact Ho.out) (by omega) (by exact Hbl.out.size) _ rfl rfl ?_); intro v2 w2 ho2 hg2 hn2; obtain ⟨g2, c2', rfl⟩ := ho2.head (by omega); have q5 := (hg2.cell_far ⟨g6, j, none⟩ hgl6.2 HNE.out).trans hc; have q6 := (hg2.frozen_far ⟨g6, j, none⟩ hgl6.2 HNE.out).trans hf; have Ho2 := Lib.hid ho2; have Hg2 := Lib.hid hg2; have Hn2 := Lib.hid hn2; clear ho2 hg2 hn2))
              all_goals
                have HPU := Hown.out.pushIn (w := wr.drew) (w' := w2) (r' := s ++ [x]) Hxk.out hc (by simpa using Ho2.out) Hg2.out Hn2.out
                rw [HS.out, Hmix.out] at HPU
                have HQ2 := Lib.hid HPU
                have hb2 : Below w.heap.size w w2 := (Hbl.out.drew).grown Hg2.out Hbl.out.size (fun b hb => (Ho.out.ownlt b hb).1)
                have HB2 := Lib.hid (hb2.setCell (p := ⟨g6, j, none⟩) hgl6.1 (.slice (some ⟨g2, 0, none⟩) (s.length + 1) c2'))
                clear HPU hb2 q5 q6 hc hf hcx Ho2 Hg2 Hn2
                go_wp2_with fail
              all_goals refine ⟨?_, ?_⟩
              all_goals first
                | exact ⟨j + 1, hlt, by go_num, HQ2.out, HB2.out⟩
                | (simp [intOf]; omega)
            · have e : j = k + 1 := by omega
              have HE2 : Hid ((M1.map (spRow i0)).take j ++ M1.drop j = M1.map (spRow i0)) := by rw [e]; exact mix_end (by rw [List.length_map, HML.out]) HML.out
              rw [HE2.out] at hown
              have hdj : decide (j < k + 1) = false := decide_eq_false hlt
              go_wp2_with fail
              go_ret2
              rw [hg.out, hv.out, HE.out, HSPM.out]
              exact ⟨_, rfl, hown, hbl⟩
end Go.Proofs.YtbjoblgklcilpaaGreatDoor
