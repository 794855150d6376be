/- ISplit0: a part of the proofs of this seat. -/
import Derived.Deep.RegionLaw
import Derived.Test.YtblkgkgopneleaaProg
import Derived.Test.YtblkgkgopneleaaBG0b
import Derived.Test.YtblkgkgopneleaaBG0a
namespace Go.Proofs.Ytblkgkgopneleaa
open Go.RowKit
set_option linter.all false
set_option maxRecDepth 20000 in
set_option maxHeartbeats 3200000 in
theorem iSplit0_any (p : Option Addr) (n c : Nat) (m : List (List Int)) (i : Nat) (q : Option Addr) (c2 : Nat) (pt : List Int) (w : World) (h : Intss w p n m) (hq : Ints w q n pt) (hf : SplFacts m (i : Int) pt) :
    Calls Try.prog 67 #[.slice p n c, .int .i64 i, .slice q n c2] w fun e w' => ∃ v, e = .returned v ∧ OIntss w' w.heap.size v (n + 1) (spT m i pt) ∧ Below w.heap.size w w' := by
  have HL : Hid (m.length = n) := h.1
  have hin : i < n := by have := hf.il; rw [Int.toNat_natCast] at this; have := HL.out; omega
  have hn9 : n < 9 := by have := hf.n9; have := HL.out; omega
  have HPL : Hid (pt.length = n) := hq.1
  obtain ⟨b1, o1, a1, c1, r, rfl, hca, hrow, hget⟩ := h.at_ hin
  have hrl : r.length = n := by rw [(isMat_row hf.mat hget.out).1, HL.out]
  have hle := hf.le
  have hgr : m.getD i [] = r := by simp only [List.getD, hget.out, Option.getD_some]
  rw [Int.toNat_natCast, hgr] at hle
  have HLE := Lib.hid hle
  have HGR := Lib.hid hgr
  have HRA := Lib.hid (isMat_row hf.mat hget.out).2
  have HRR : Hid (∀ (k : Nat) (s : List Int), m[k]? = some s → s.length = n) := fun k s hs => by rw [(isMat_row hf.mat hs).1, HL.out]
  have H := Lib.hid h
  have HQ := Lib.hid hq
  have Hrow := Lib.hid hrow
  have HRL := Lib.hid hrl
  have hrn1 : r.length ≤ n := by omega
  have hrn2 : n ≤ r.length := by omega
  have q0 : (w.alloc (.cells #[] 3)).cell? ⟨b1, o1 + i, none⟩ = some (.slice a1 r.length c1) := (((Below.refl w.heap.size w).alloc (Nat.le_refl _) _).cell (World.block_lt_of_cell? w _ hca)).trans hca
  clear h hq hf hrow hget hle hgr hrl hca
  go_enter Try.func67, Try.ntmps67
  go_wp2_with fail
  clear q0
  go_loopw [7, 19] (fun v x wr => ∃ k : Nat, k ≤ n ∧ x = .int .i64 k ∧ OInts wr w.heap.size v k ((lessL r pt).take k) ∧ Below w.heap.size w wr) (fun _ x _ => n - (intOf x).toNat)
  case atStart => exact ⟨0, Nat.zero_le _, rfl, OInts.empty w _ (Nat.le_refl _), (Below.refl _ _).alloc (Nat.le_refl _) _⟩
  case round =>
    obtain ⟨k, hk, rfl, hown, hbl⟩ := hrel
    obtain ⟨ao5, cap5, e5, _⟩ := hown.form
    subst e5
    by_cases hlt : k < n
    · obtain ⟨b2, o2, x, e2, hcx, hgx⟩ := Hrow.out.at_ (k := k) (by omega)
      subst e2
      obtain ⟨b3, o3, y, e3, hcy, hgy⟩ := HQ.out.at_ (k := k) hlt
      subst e3
      have q1 := (hbl.cell (World.block_lt_of_cell? w _ hcx)).trans hcx
      have q2 := (hbl.cell (World.block_lt_of_cell? w _ hcy)).trans hcy
      have hx1 := allIn_get HRA.out hgx.out
      have hy1 := leL_get HLE.out hgy.out hgx.out
      have hw1 : IntKind.i64.wrap (x - y) = x - y := by rw [wrap_i64_eq]; unfold wrap64; omega
      have hw2 : wrap64 (x - y) = x - y := by unfold wrap64; omega
      have hkr : k < r.length := by omega
      have HN := Lib.hid (lessL_get hgx.out hgy.out)
      have Hown := Lib.hid hown
      have Hbl := Lib.hid hbl
      clear hown hbl hcx hcy hgx hgy hx1 hy1
      go_wp2_with (at_builtin; refine wpList_push_one wr _ rfl (.tmp 24) (.tmp 31) rfl w.heap.size _ k _ rfl Hown.out (by omega) (by exact Hbl.out.size) _ rfl rfl ?_; intro v5 w5 ho5 hb5; have HO5 := Lib.hid ho5; have HB5 := Lib.hid (Hbl.out.trans hb5); clear ho5 hb5)
      go_roundw
      case rel =>
        have h5 := HO5.out
        try rw [hw1] at h5
        try rw [hw2] at h5
        rw [push_take HN.out] at h5
        exact ⟨k + 1, hlt, by go_num, h5, HB5.out⟩
      case measure => (simp [intOf] <;> omega)
    · have hkn : k = n := by omega
      subst hkn
      rw [List.take_of_length_le (by rw [lessL_len (by rw [HPL.out, HRL.out]), HRL.out]; exact Nat.le_refl _)] at hown
      obtain ⟨g, cg, e6⟩ := hown.head (by omega)
      injection e6 with e7 e8 e9
      subst e7
      subst e9
      have HRE := Lib.hid hown
      have HRB := Lib.hid hbl
      obtain ⟨w1, hw1⟩ : ∃ w1 : World, w1 = wr := ⟨_, rfl⟩
      subst hw1
      have HM := Lib.hid (H.out.keep hbl)
      have HP := Lib.hid (HQ.out.keep hbl)
      have hgl := hown.lt
      have HOE := Lib.hid (OIntss.empty w1 w1.heap.size (Nat.le_refl _))
      have HBE := Lib.hid ((Below.refl w1.heap.size w1).alloc (Nat.le_refl _) (.cells #[] 42))
      have hdk0 : decide (k < r.length) = false := decide_eq_false (by omega)
      clear hown hbl e8
      go_wp2_with fail
      go_loopw [10, 37] (fun v x wr => ∃ j : Nat, j ≤ k ∧ x = .int .i64 j ∧ OIntss wr w1.heap.size v j ((spTop m i pt).take j) ∧ Below w1.heap.size w1 wr) (fun _ x _ => k - (intOf x).toNat)
      case atStart => exact ⟨0, Nat.zero_le _, rfl, HOE.out, HBE.out⟩
      case round =>
        obtain ⟨j, hj, rfl, hown, hbl⟩ := hrel
        obtain ⟨ao7, cap7, e7, _⟩ := hown.form
        subst e7
        have Hown := Lib.hid hown
        have Hbl := Lib.hid hbl
        clear HOE HBE
        by_cases hjk : j < k
        · obtain ⟨b4, o4, a4, c4, rj, e4, hcj, hrowj, hgetj⟩ := HM.out.at_ hjk
          injection e4 with e4
          injection e4 with e5 e6
          subst e5
          subst e6
          have hrjl : rj.length = k := HRR.out j rj hgetj.out
          have q1 := (Hbl.out.cell (World.block_lt_of_cell? _ _ hcj)).trans hcj
          have hrj9 : rj.length ≤ 9 := by omega
          have HRJL := Lib.hid hrjl
          have hij : i < rj.length := by omega
          clear hrjl
          by_cases hji : j = i
          · subst hji
            have hd : ((j : Int) == (j : Int)) = true := by simp
            obtain ⟨b5, o5, x, rfl, hcx, hgx⟩ := HP.out.at_ (k := j) hjk
            have q2 := (Hbl.out.cell (World.block_lt_of_cell? _ _ hcx)).trans hcx
            have hq2b := World.block_lt_of_cell? wr _ q2
            have HRow := Lib.hid (HP.out.keep Hbl.out)
            have HPT : Hid ((spTop m j pt).take j ++ [pt ++ [x]] = (spTop m j pt).take (j + 1)) := by
              show _ = _
              rw [spRow_is hgx.out]
              exact push_take (spTop_at (by rw [HL.out]; exact hjk))
            clear hcj hrowj hgetj hcx hgx HP
            go_wp2_with fail
            go_region_law (first
              | (go_simp; go_at_call 74; refine (clone_any _ _ _ pt _ (by exact HRow.out)).mono ?_; rintro e w2 ⟨v2, rfl, ho2, hb2⟩; have q3 := (hb2.cell hq2b).trans q2; obtain ⟨ao2, cap2, rfl, _⟩ := ho2.form; have Ho2 := Lib.hid ho2; have Hb2 : Hid (Below wr.heap.size wr w2) := ((Below.refl _ _).drew).trans hb2; clear ho2 hb2)
              | (go_simp; go_at_call 74; refine (clone_any _ _ _ pt _ (by exact HRow.out.keep ((Below.refl _ _).alloc (Nat.le_refl _) _).drew)).mono ?_; rintro e w2 ⟨v2, rfl, ho2, hb2⟩; have q4 : w2.cell? ⟨wr.heap.size, 0, none⟩ = some (.int .i64 x) := (hb2.cell (p := ⟨wr.heap.size, 0, none⟩) (by simp)).trans (World.cell?_alloc_new _ _ _ _); have ho2' := ho2.mono (lo' := wr.heap.size) (by simp); obtain ⟨ao2, cap2, rfl, _⟩ := ho2.form; have Ho2 := Lib.hid ho2'; have Hb2 : Hid (Below wr.heap.size wr w2) := (((Below.refl _ _).alloc (Nat.le_refl _) _).drew).trans (hb2.mono (by simp)); clear ho2 ho2' hb2)
              | (refine step_of_wp rfl (wp_push_one _ _ (.tmp 48) (.tmp 53) rfl wr.heap.size _ _ _ rfl (by exact Ho2.out) (by omega) (by exact Hb2.out.size) _ rfl rfl ?_); intro v3 w3 ho3 hb3; obtain ⟨ao3, cap3, rfl, _⟩ := ho3.form; have Ho3 := Lib.hid ho3; have Hb3 := Lib.hid (Hb2.out.trans hb3); clear ho3 hb3)
              | (refine step_of_wp rfl (wp_push_int _ (.tmp 48) (.tmp 53) rfl wr.heap.size _ _ _ rfl (by exact Ho2.out) (by omega) wr.heap.size x rfl (by exact q4) (by exact Hb2.out.size) ?_); intro v3 w3 ho3 hg3; obtain ⟨ao3, cap3, rfl, _⟩ := ho3.form; have Ho3 := Lib.hid ho3; have Hb3 : Hid (Below wr.heap.size wr w3) := Hb2.out.grown hg3 Hb2.out.size (fun k hk => (Ho2.out.ownlt k hk).1); clear ho3 hg3)
              | (refine step_of_wp rfl (wp_push_fresh w3 _ wr (.tmp 46) (.tmp 55) rfl w1.heap.size _ _ _ rfl (by exact Hown.out) (by omega) (by exact Hbl.out.size) (by exact Hb3.out) _ _ (by exact Ho3.out) _ rfl rfl ?_); intro v4 w4 ho4 hb4 _; have Ho4 := Lib.hid ho4; have Hb4 := Lib.hid (Hbl.out.trans hb4); clear ho4 hb4))
            all_goals (go_wp2_with fail)
            all_goals refine ⟨?_, ?_⟩
            all_goals first
              | (have h9 := Ho4.out; rw [HPT.out] at h9; first | exact ⟨j + 1, hjk, by go_num, h9, Hb4.out⟩ | ((repeat apply Exists.intro); exact ⟨⟨j + 1, hjk, by go_num, h9, Hb4.out⟩, rfl⟩))
              | (simp [intOf]; omega)
          · have hd : ((j : Int) == (i : Int)) = false := by simp; omega
            obtain ⟨b5, o5, x, rfl, hcx, hgx⟩ := hrowj.at_ hij
            have q2 := (Hbl.out.cell (World.block_lt_of_cell? _ _ hcx)).trans hcx
            have hq2b := World.block_lt_of_cell? wr _ q2
            have HRow := Lib.hid (hrowj.keep Hbl.out)
            have HPT : Hid ((spTop m i pt).take j ++ [rj ++ [x]] = (spTop m i pt).take (j + 1)) := by
              show _ = _
              rw [spRow_is hgx.out]
              exact push_take (spTop_get hgetj.out hji)
            clear hcj hrowj hgetj hcx hgx hji
            go_wp2_with fail
            go_region_law (first
              | (go_simp; go_at_call 74; refine (clone_any _ _ _ rj _ (by exact HRow.out)).mono ?_; rintro e w2 ⟨v2, rfl, ho2, hb2⟩; have q3 := (hb2.cell hq2b).trans q2; obtain ⟨ao2, cap2, rfl, _⟩ := ho2.form; have Ho2 := Lib.hid ho2; have Hb2 : Hid (Below wr.heap.size wr w2) := ((Below.refl _ _).drew).trans hb2; clear ho2 hb2)
              | (go_simp; go_at_call 74; refine (clone_any _ _ _ rj _ (by exact HRow.out.keep ((Below.refl _ _).alloc (Nat.le_refl _) _).drew)).mono ?_; rintro e w2 ⟨v2, rfl, ho2, hb2⟩; have q4 : w2.cell? ⟨wr.heap.size, 0, none⟩ = some (.int .i64 x) := (hb2.cell (p := ⟨wr.heap.size, 0, none⟩) (by simp)).trans (World.cell?_alloc_new _ _ _ _); have ho2' := ho2.mono (lo' := wr.heap.size) (by simp); obtain ⟨ao2, cap2, rfl, _⟩ := ho2.form; have Ho2 := Lib.hid ho2'; have Hb2 : Hid (Below wr.heap.size wr w2) := (((Below.refl _ _).alloc (Nat.le_refl _) _).drew).trans (hb2.mono (by simp)); clear ho2 ho2' hb2)
              | (refine step_of_wp rfl (wp_push_one _ _ (.tmp 48) (.tmp 53) rfl wr.heap.size _ _ _ rfl (by exact Ho2.out) (by omega) (by exact Hb2.out.size) _ rfl rfl ?_); intro v3 w3 ho3 hb3; obtain ⟨ao3, cap3, rfl, _⟩ := ho3.form; have Ho3 := Lib.hid ho3; have Hb3 := Lib.hid (Hb2.out.trans hb3); clear ho3 hb3)
              | (refine step_of_wp rfl (wp_push_int _ (.tmp 48) (.tmp 53) rfl wr.heap.size _ _ _ rfl (by exact Ho2.out) (by omega) wr.heap.size x rfl (by exact q4) (by exact Hb2.out.size) ?_); intro v3 w3 ho3 hg3; obtain ⟨ao3, cap3, rfl, _⟩ := ho3.form; have Ho3 := Lib.hid ho3; have Hb3 : Hid (Below wr.heap.size wr w3) := Hb2.out.grown hg3 Hb2.out.size (fun k hk => (Ho2.out.ownlt k hk).1); clear ho3 hg3)
              | (refine step_of_wp rfl (wp_push_fresh w3 _ wr (.tmp 46) (.tmp 55) rfl w1.heap.size _ _ _ rfl (by exact Hown.out) (by omega) (by exact Hbl.out.size) (by exact Hb3.out) _ _ (by exact Ho3.out) _ rfl rfl ?_); intro v4 w4 ho4 hb4 _; have Ho4 := Lib.hid ho4; have Hb4 := Lib.hid (Hbl.out.trans hb4); clear ho4 hb4))
            all_goals (go_wp2_with fail)
            all_goals refine ⟨?_, ?_⟩
            all_goals first
              | (have h9 := Ho4.out; rw [HPT.out] at h9; first | exact ⟨j + 1, hjk, by go_num, h9, Hb4.out⟩ | ((repeat apply Exists.intro); exact ⟨⟨j + 1, hjk, by go_num, h9, Hb4.out⟩, rfl⟩))
              | (simp [intOf]; omega)
        · have e : j = k := by omega
          have hown2 := Hown.out
          rw [List.take_of_length_le (by rw [spTop_len, HL.out]; omega), e] at hown2
          have hre := HRE.out.keep Hbl.out
          have hill : i < (lessL r pt).length := by rw [lessL_len (by rw [HPL.out, HRL.out]), HRL.out]; exact hin
          obtain ⟨z, hz⟩ : ∃ z, (lessL r pt)[i]? = some z := ⟨_, List.getElem?_eq_getElem hill⟩
          have hcz := hre.cell i hin
          rw [getD_of hz] at hcz
          have HSZ : Hid (lessL r pt ++ [z] = spRow i (lessL r pt)) := spRow_is hz
          have HSP : Hid (spT m i pt = spTop m i pt ++ [spRow i (lessL r pt)]) := by show _ = _; rw [spT, HGR.out]
          have HOT := Lib.hid hown2
          have HRE2 := Lib.hid hre
          have hs1 := HRB.out.size
          have hs2 := Hbl.out.size
          have hk1 : k + 1 ≤ 1099511627776 := by omega
          have hjd : decide (j < k) = false := decide_eq_false (by omega)
          clear hown2 hre hill hz Hown
          subst e
          go_wp2_with (first
            | (at_builtin; refine wpList_push_rowF w6 _ rfl (.tmp 58) (.tmp 66) rfl w.heap.size _ j _ rfl HOT6.out hk1 (by omega) _ _ Ho6.out HF6.out _ rfl rfl ?_; intro v7 w7 ho7 hb7; have Ho7 := Lib.hid ho7; have Hb7 := Lib.hid (Hb6.out.trans hb7); clear ho7 hb7)
            | (at_builtin; refine wpList_push_at wr _ rfl (.tmp 59) (.tmp 64) rfl w.heap.size _ j _ rfl HRE2.out hk1 (by omega) _ rfl rfl ?_; intro v6 w6 ho6 hg6 hn6; obtain ⟨ao6, cap6, rfl, _⟩ := ho6.form; have hg6' : wr.grownBy w6 (some g) := hg6; have hs6 := hg6'.size; have Hb6 : Hid (Below w.heap.size w w6) := Lib.hid ((HRB.out.trans (Hbl.out.mono hs1)).grown hg6' (by omega) (fun b hb => by injection hb with hb; omega)); have HF6 : Hid (FarAll w6 w.heap.size (.slice ao7 j cap7) j (.slice ao6 (j + 1) cap6)) := FarAll.mid HOT.out hg6' hgl.2 (fun b hb => by have h := hn6.two (g := g) rfl hb; omega); have HOT6 := Lib.hid ((HOT.out.away hg6' hgl.2).mono hs1); have Ho6 := Lib.hid ho6; clear ho6 hg6 hn6 hg6'))
          go_ret
          rw [HSP.out, ← HSZ.out]
          exact ⟨_, rfl, Ho7.out, Hb7.out⟩
end Go.Proofs.Ytblkgkgopneleaa
