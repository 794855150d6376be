/- IStretch: a part of the proofs of this seat. -/
import Derived.Test.YtbjoblgklcilpaaGreatDoorProg
import Derived.Test.YtbjoblgklcilpaaGreatDoorJG1a
import Derived.Test.YtbjoblgklcilpaaGreatDoorJG0b
namespace Go.Proofs.YtbjoblgklcilpaaGreatDoor
open Go.RowKit
set_option linter.all false
set_option maxRecDepth 20000 in
set_option maxHeartbeats 3200000 in
theorem iStretch_any (p : Option Addr) (n c : Nat) (m : List (List Int)) (i : Int) (w : World) (h : Intss w p n m) :
    Calls Tryz.prog 10 #[.slice p n c, .int .i64 i] w fun e w' => ∃ v, e = .returned (.tuple #[v, .bool (strOk m i)]) ∧ OIntss w' w.heap.size v (strV m i).length (strV m i) ∧ Below w.heap.size w w' := by
  have HL : Hid (m.length = n) := h.1
  have H := Lib.hid h
  clear h
  have HN : Hid (∀ (_ : strOk m i = false), strV m i = []) := fun e => by simp [strV, e]
  cases hmat : isMat m
  · have hg : Hid (strOk m i = false) := by show _ = _; simp [strOk, hmat]
    have hv := Lib.hid (HN.out hg.out)
    go_enter Tryz.func10, Tryz.ntmps10
    go_wp2_with (go_at_call 40; refine (iIsMatrix_any _ _ _ m _ H.out).mono ?_; rintro e w' ⟨rfl, rfl⟩)
    go_ret2
    rw [hg.out, hv.out]
    exact ⟨_, rfl, OIntss.none_ _ _, Below.refl _ _⟩
  have hml := isMat_len hmat
  have hn1 : 1 ≤ n := by have := HL.out; omega
  have hn9 : n ≤ 9 := by have := HL.out; omega
  have HM : Hid (isMat m = true) := hmat
  clear hml
  by_cases h9 : n = 9
  · have hg : Hid (strOk m i = false) := by show _ = _; simp [strOk, HL.out, h9]
    have hv := Lib.hid (HN.out hg.out)
    have hd9 : ((n : Int) == 9) = true := by simp [h9]
    clear h9
    go_enter Tryz.func10, Tryz.ntmps10
    go_wp2_with (go_at_call 40; refine (iIsMatrix_any _ _ _ m _ H.out).mono ?_; rintro e w' ⟨rfl, rfl⟩)
    go_ret2
    rw [hg.out, hv.out]
    exact ⟨_, rfl, OIntss.none_ _ _, Below.refl _ _⟩
  have hd9 : ((n : Int) == 9) = false := by simp; omega
  by_cases hi0 : i < 0
  · have hg : Hid (strOk m i = false) := by show _ = _; simp [strOk, inR_no (x := i) (lo := 0) (hi := (m.length : Int) - 1) (.inl hi0)]
    have hv := Lib.hid (HN.out hg.out)
    have hd0 : decide (i < 0) = true := by simpa using hi0
    go_enter Tryz.func10, Tryz.ntmps10
    go_wp2_with (go_at_call 40; refine (iIsMatrix_any _ _ _ m _ H.out).mono ?_; rintro e w' ⟨rfl, rfl⟩)
    go_ret2
    rw [hg.out, hv.out]
    exact ⟨_, rfl, OIntss.none_ _ _, Below.refl _ _⟩
  have hd0 : decide (i < 0) = false := by simpa using hi0
  by_cases hin : (n : Int) ≤ i
  · have hg : Hid (strOk m i = false) := by show _ = _; simp [strOk, inR_no (x := i) (lo := 0) (hi := (m.length : Int) - 1) (.inr (by rw [HL.out]; omega))]
    have hv := Lib.hid (HN.out hg.out)
    have hdn : decide ((n : Int) ≤ i) = true := by simpa using hin
    go_enter Tryz.func10, Tryz.ntmps10
    go_wp2_with (go_at_call 40; refine (iIsMatrix_any _ _ _ m _ H.out).mono ?_; rintro e w' ⟨rfl, rfl⟩)
    go_ret2
    rw [hg.out, hv.out]
    exact ⟨_, rfl, OIntss.none_ _ _, Below.refl _ _⟩
  have hdn : decide ((n : Int) ≤ i) = false := by simpa using hin
  obtain ⟨i0, rfl⟩ := Int.eq_ofNat_of_zero_le (show 0 ≤ i by omega)
  have hi : i0 < n := by omega
  have hdn2 : decide (n ≤ i0) = false := by simp; omega
  have hg : Hid (strOk m (i0 : Int) = true) := by show _ = _; simp only [strOk, hmat, HL.out, inR_mk (x := (i0 : Int)) (lo := 0) (hi := (n : Int) - 1) ⟨by omega, by omega⟩]; simp; omega
  have hv : Hid (strV m (i0 : Int) = strT i0 m ++ [lastRow n i0]) := by show _ = _; simp [strV, hg.out, HL.out]
  have hmk := fun (wx : World) => make_ints (n + 1) (by omega) wx
  have hmc : ((n + 1 : Nat) : Int) = (n : Int) + 1 := by omega
  rw [hmc] at hmk
  clear hmc hi0 hin h9
  go_enter Tryz.func10, Tryz.ntmps10
  go_wp2_with (go_at_call 40; refine (iIsMatrix_any _ _ _ m _ H.out).mono ?_; rintro e w' ⟨rfl, rfl⟩)
  clear hmat hd9 hd0 hdn hdn2 HN
  go_loopw [6, 32] (fun v x wr => ∃ k : Nat, k ≤ n ∧ x = .int .i64 k ∧ OIntss wr w.heap.size v k ((strT i0 m).take k) ∧ Below w.heap.size w wr) (fun _ x _ => n - (intOf x).toNat)
  case atStart => exact ⟨0, Nat.zero_le _, rfl, OIntss.empty w _ (Nat.le_refl _), (Below.refl _ _).alloc (Nat.le_refl _) _⟩
  case round =>
    obtain ⟨k, hk, rfl, hown, hbl⟩ := hrel
    obtain ⟨ao5, cap5, e5, _⟩ := hown.form
    subst e5
    by_cases hlt : k < n
    · obtain ⟨b1, o1, a1, c1, r, rfl, hca, hrow, hget⟩ := H.out.at_ hlt
      have hrl : r.length = n := by rw [(isMat_row HM.out hget.out).1, HL.out]
      have q1 := (hbl.cell (World.block_lt_of_cell? w _ hca)).trans hca
      have hir : i0 < r.length := by omega
      obtain ⟨b2, o2, x, rfl, hcx, hgx⟩ := hrow.at_ hir
      have q2 := (hbl.cell (World.block_lt_of_cell? w _ hcx)).trans hcx
      have hq2b := World.block_lt_of_cell? wr _ q2
      have HRow := Lib.hid (hrow.keep hbl)
      have HP : Hid ((strT i0 m).take k ++ [strRow i0 r] = (strT i0 m).take (k + 1)) := push_take (strT_get hget.out)
      have HS : Hid ((r ++ [x]).set i0 0 = strRow i0 r) := by show _ = _; simp [strRow, List.getD, hgx.out]
      have HRL := Lib.hid hrl
      have hrm : r.length ≤ 9 := by omega
      have Hown := Lib.hid hown
      have Hbl := Lib.hid hbl
      clear hown hbl hca hcx hrow hget hgx hrl
      go_wp2_with fail
      go_region_law (first
        | (go_simp; go_at_call 41; refine (clone_any _ _ _ r _ (by exact HRow.out)).mono ?_; rintro e w1 ⟨v1, rfl, ho1, hb1⟩; have q3 := (hb1.cell hq2b).trans q2; obtain ⟨ao1, cap1, rfl, _⟩ := ho1.form; have Ho1 := Lib.hid ho1; have Hb1 : Hid (Below wr.heap.size wr w1) := ((Below.refl _ _).drew).trans hb1; clear ho1 hb1)
        | (go_simp; go_at_call 41; refine (clone_any _ _ _ r _ (by exact HRow.out.keep ((Below.refl _ _).alloc (Nat.le_refl _) _).drew)).mono ?_; rintro e w1 ⟨v1, rfl, ho1, hb1⟩; have q4 : w1.cell? ⟨wr.heap.size, 0, none⟩ = some (.int .i64 x) := (hb1.cell (p := ⟨wr.heap.size, 0, none⟩) (by simp)).trans (World.cell?_alloc_new _ _ _ _); have ho1' := ho1.mono (lo' := wr.heap.size) (by simp); obtain ⟨ao1, cap1, rfl, _⟩ := ho1.form; have Ho1 := Lib.hid ho1'; have Hb1 : Hid (Below wr.heap.size wr w1) := (((Below.refl _ _).alloc (Nat.le_refl _) _).drew).trans (hb1.mono (by simp)); clear ho1 ho1' hb1)
        | (refine step_of_wp rfl (wp_push_one _ _ (.tmp 37) (.tmp 42) rfl wr.heap.size _ _ _ rfl (by exact Ho1.out) (by omega) (by exact Hb1.out.size) _ rfl rfl ?_); intro v2 w2 ho2 hb2; have Ho2 := Lib.hid ho2; have Hb2 := Lib.hid (Hb1.out.trans hb2); clear ho2 hb2)
        | (refine step_of_wp rfl (wp_push_int _ (.tmp 37) (.tmp 42) rfl wr.heap.size _ _ _ rfl (by exact Ho1.out) (by omega) wr.heap.size x rfl (by exact q4) (by exact Hb1.out.size) ?_); intro v2 w2 ho2 hg2; have Ho2 := Lib.hid ho2; have Hb2 : Hid (Below wr.heap.size wr w2) := Hb1.out.grown hg2 Hb1.out.size (fun k hk => (Ho1.out.ownlt k hk).1); clear ho2 hg2))
      all_goals
        obtain ⟨g2, cap2, rfl⟩ := Ho2.out.head (by omega)
        have hc2 := Ho2.out.cell i0 (by omega)
        have hf2 := Ho2.out.frozen i0
        have Ho3 : Hid (OInts (w2.setCell ⟨g2, i0, none⟩ (.int .i64 0)) wr.heap.size (.slice (some ⟨g2, 0, none⟩) (r.length + 1) cap2) (r.length + 1) (strRow i0 r)) := by have := Ho2.out.set i0 0; rw [HS.out] at this; exact this
        have Hb3 := Lib.hid (Hb2.out.setCell (p := ⟨g2, i0, none⟩) Ho2.out.lt.1 (.int .i64 0))
        have hi1 : i0 < r.length + 1 := by omega
        go_wp2_with (first
          | (at_builtin; refine wpList_push_fresh _ _ wr rfl _ _ rfl w.heap.size _ k _ rfl Hown.out (by omega) Hbl.out.size Hb3.out _ _ Ho3.out _ ?_ rfl ?_; (simp); intro v4 w4 ho4 hb4 _; have Ho4 := Lib.hid ho4; have Hb4 := Lib.hid hb4; clear ho4 hb4))
        go_roundw
        case rel =>
          have h9 := Ho4.out
          rw [HP.out] at h9
          first | exact ⟨k + 1, hlt, by go_num, h9, Hbl.out.trans Hb4.out⟩ | ((repeat apply Exists.intro); exact ⟨⟨k + 1, hlt, by go_num, h9, Hbl.out.trans Hb4.out⟩, rfl⟩)
        case measure => simp [intOf]; omega
    · have e : k = n := by omega
      have HE : Hid ((strT i0 m).take k = strT i0 m) := by show _ = _; rw [List.take_of_length_le (by rw [strT_len, HL.out]; omega)]
      rw [HE.out, e] at hown
      have hk1 : i0 < n + 1 := by omega
      have HO : Hid (OInts (wr.alloc (.cells (madeCells #[.int .i64 0] (n + 1)) 3)) wr.heap.size (.slice (some ⟨wr.heap.size, 0, none⟩) (n + 1) (n + 1)) (n + 1) (List.replicate (n + 1) 0)) := OInts.made wr (n + 1) (by omega)
      have hc2 := HO.out.cell i0 hk1
      have hf2 := HO.out.frozen i0
      have hww : (wr.alloc (.cells (madeCells #[.int .i64 0] (n + 1)) 3)).setCell ⟨wr.heap.size, i0, none⟩ (.int .i64 1) = wr.alloc (.cells ((madeCells #[.int .i64 0] (n + 1)).setIfInBounds i0 (.int .i64 1)) 3) := World.setCell_alloc_at _ _ _ _ _ rfl
      have ho2 := HO.out.set i0 1
      rw [hww] at ho2
      have HO2 : Hid (OInts (wr.alloc (.cells ((madeCells #[.int .i64 0] (n + 1)).setIfInBounds i0 (.int .i64 1)) 3)) wr.heap.size (.slice (some ⟨wr.heap.size, 0, none⟩) (n + 1) (n + 1)) (n + 1) (lastRow n i0)) := ho2
      have HB2 : Hid (Below wr.heap.size wr (wr.alloc (.cells ((madeCells #[.int .i64 0] (n + 1)).setIfInBounds i0 (.int .i64 1)) 3))) := (Below.refl wr.heap.size wr).alloc (Nat.le_refl _) _
      clear hww ho2
      have Hown := Lib.hid hown
      have Hbl := Lib.hid hbl
      subst e
      clear hown hbl hk
      go_wp2_with (first
        | (at_builtin; refine wpList_push_fresh _ _ wr rfl _ _ rfl w.heap.size _ k _ rfl Hown.out (by omega) Hbl.out.size HB2.out _ _ HO2.out _ ?_ rfl ?_; (simp); intro v4 w4 ho4 hb4 _; have Ho4 := Lib.hid ho4; have Hb4 := Lib.hid hb4; clear ho4 hb4))
      go_ret2
      rw [hg.out, hv.out]
      refine ⟨_, rfl, ?_, Hbl.out.trans Hb4.out⟩
      have h9 := Ho4.out
      have h8 := h9.len
      rw [← h8] at h9
      exact h9
end Go.Proofs.YtbjoblgklcilpaaGreatDoor
