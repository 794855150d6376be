/- SStretch: a part of the proofs of this seat. -/
import Derived.Deep.AppendLies
import Derived.Test.YtbjoblgklcilpaaGreatDoorProg
import Derived.Test.YtbjoblgklcilpaaGreatDoorJG1a
import Derived.Test.YtbjoblgklcilpaaGreatDoorJG0b
import Derived.Test.YtbjoblgklcilpaaGreatDoorJG0a
namespace Go.Proofs.YtbjoblgklcilpaaGreatDoor
open Go.RowKit
set_option linter.all false
set_option maxRecDepth 20000 in
set_option maxHeartbeats 3200000 in
theorem sStretch_any (p : Option Addr) (n c : Nat) (m : List (List Int)) (i : Int) (w : World) (h : Intss w p n m) :
    Calls Tryz.prog 11 #[.slice p n c, .int .i64 i] w fun e w' => ∃ v, e = .returned (.tuple #[v, .bool (strOk m i)]) ∧ OIntss w' w.heap.size v (strV m i).length (strV m i) ∧ Below w.heap.size w w' := by
  have HL : Hid (m.length = n) := h.1
  have H := Lib.hid h
  clear h
  have HN : Hid (∀ (_ : strOk m i = false), strV m i = []) := fun e => by simp [strV, e]
  cases hmat : isMat m
  · have hg : Hid (strOk m i = false) := by show _ = _; simp [strOk, hmat]
    have hv := Lib.hid (HN.out hg.out)
    go_enter Tryz.func11, Tryz.ntmps11
    go_wp2_with (first | (go_at_call 42; refine (sIsMatrix_any _ _ _ m _ H.out).mono ?_; rintro e w' ⟨rfl, rfl⟩) | (go_at_call 43; refine (l1In_any _ _ _ _).mono ?_; rintro e w' ⟨rfl, rfl⟩))
    go_ret2
    rw [hg.out, hv.out]
    exact ⟨_, rfl, OIntss.empty _ _ (Nat.le_refl _), (Below.refl _ _).alloc (Nat.le_refl _) _⟩
  have hml := isMat_len hmat
  have hn1 : 1 ≤ n := by have := HL.out; omega
  have hn9 : n ≤ 9 := by have := HL.out; omega
  have HM : Hid (isMat m = true) := hmat
  clear hml
  by_cases h9 : n = 9
  · have hg : Hid (strOk m i = false) := by show _ = _; simp [strOk, HL.out, h9]
    have hv := Lib.hid (HN.out hg.out)
    have hd9 : ((n : Int) == 9) = true := by simp [h9]
    clear h9
    go_enter Tryz.func11, Tryz.ntmps11
    go_wp2_with (first | (go_at_call 42; refine (sIsMatrix_any _ _ _ m _ H.out).mono ?_; rintro e w' ⟨rfl, rfl⟩) | (go_at_call 43; refine (l1In_any _ _ _ _).mono ?_; rintro e w' ⟨rfl, rfl⟩))
    go_ret2
    rw [hg.out, hv.out]
    exact ⟨_, rfl, OIntss.empty _ _ (Nat.le_refl _), (Below.refl _ _).alloc (Nat.le_refl _) _⟩
  have hd9 : ((n : Int) == 9) = false := by simp; omega
  cases hin : inR i 0 ((n : Int) - 1)
  · have hg : Hid (strOk m i = false) := by show _ = _; simp [strOk, HL.out, hin]
    have hv := Lib.hid (HN.out hg.out)
    go_enter Tryz.func11, Tryz.ntmps11
    go_wp2_with (first | (go_at_call 42; refine (sIsMatrix_any _ _ _ m _ H.out).mono ?_; rintro e w' ⟨rfl, rfl⟩) | (go_at_call 43; refine (l1In_any _ _ _ _).mono ?_; rintro e w' ⟨rfl, rfl⟩))
    go_ret2
    rw [hg.out, hv.out]
    exact ⟨_, rfl, OIntss.empty _ _ (Nat.le_refl _), (Below.refl _ _).alloc (Nat.le_refl _) _⟩
  have hir := inR_true hin
  obtain ⟨i0, rfl⟩ := Int.eq_ofNat_of_zero_le (show 0 ≤ i by omega)
  have hi : i0 < n := by omega
  have hg : Hid (strOk m (i0 : Int) = true) := by show _ = _; simp only [strOk, hmat, HL.out, hin]; simp; omega
  have hv : Hid (strV m (i0 : Int) = strT i0 m ++ [lastRow n i0]) := by show _ = _; simp [strV, hg.out, HL.out]
  have hmk := fun (wx : World) => make_ints (n + 1) (by omega) wx
  have hmc : ((n + 1 : Nat) : Int) = (n : Int) + 1 := by omega
  rw [hmc] at hmk
  have HRB : Hid (∀ r ∈ m, r.length ≤ 1048576) := fun r hr => by obtain ⟨k, hk⟩ := List.getElem?_of_mem hr; rw [(isMat_row HM.out hk).1, HL.out]; omega
  clear hmc hir h9
  go_enter Tryz.func11, Tryz.ntmps11
  go_wp2_with (first
    | (first | (go_at_call 42; refine (sIsMatrix_any _ _ _ m _ H.out).mono ?_; rintro e w' ⟨rfl, rfl⟩) | (go_at_call 43; refine (l1In_any _ _ _ _).mono ?_; rintro e w' ⟨rfl, rfl⟩))
    | (go_at_call 44; refine (sCopy_any _ _ _ m _ H.out (by omega) HRB.out).mono ?_; rintro e w1 ⟨v1, rfl, ho1, hb1⟩; obtain ⟨g, cap, rfl⟩ := ho1.head (by omega); have Ho1 := Lib.hid ho1; have Hb1 := Lib.hid hb1; clear ho1 hb1))
  clear hmat hd9 hin HN
  go_loopw [7] (fun x wr => ∃ k : Nat, k ≤ n ∧ x = .int .i64 k ∧ OIntss wr w.heap.size (.slice (some ⟨g, 0, none⟩) n cap) n ((strT i0 m).take k ++ m.drop k) ∧ Below w.heap.size w wr) (fun x _ => n - (intOf x).toNat)
  case atStart => exact ⟨0, Nat.zero_le _, rfl, by simpa using Ho1.out, Hb1.out⟩
  case round =>
    obtain ⟨k, hk, rfl, hown, hbl⟩ := hrel
    by_cases hlt : k < n
    · obtain ⟨b1, o1, a1, c1, r, rfl, hca, hrow, hget⟩ := H.out.at_ hlt
      have hrl : r.length = n := by rw [(isMat_row HM.out hget.out).1, HL.out]
      have q1 := (hbl.cell (World.block_lt_of_cell? w _ hca)).trans hca
      have hir : i0 < r.length := by omega
      obtain ⟨b2, o2, x, rfl, hcx, hgx⟩ := hrow.at_ hir
      have q2 := (hbl.cell (World.block_lt_of_cell? w _ hcx)).trans hcx
      have hxk : ((strT i0 m).take k ++ m.drop k)[k]? = some r := mix_get (by rw [strT_len, HL.out]; omega) hget.out
      obtain ⟨gk, ck, hc, ho, hne, hlo⟩ := hown.rowAt hxk (by omega)
      have hmix := mix_set (M := strT i0 m) (N := m) hget.out (strT_get (i := i0) hget.out)
      have HS : Hid ((r ++ [x]).set i0 0 = strRow i0 r) := by show _ = _; simp [strRow, List.getD, hgx.out]
      have hf := hown.frozen k
      have hgl := hown.lt
      have HNE : Hid (some g ≠ (Value.slice (some ⟨gk, 0, none⟩) r.length ck).ownBlock) := fun e => hne (Option.some.inj e).symm
      have Hxk := Lib.hid hxk
      have Hmix := Lib.hid hmix
      have HRL := Lib.hid hrl
      have hrm : r.length ≤ 9 := by omega
      have Hown := Lib.hid hown
      have Hbl := Lib.hid hbl
      have Ho := Lib.hid ho
      have hc1 := hc
      clear hown hbl hca hcx hrow hget hgx hrl hxk hmix ho hc1
      go_wp2_with fail
      go_region_law (first
        | (refine step_of_wp rfl (wp_push_at wr.drew _ (.tmp 39) (.tmp 47) rfl w.heap.size _ _ _ rfl (by exact Ho.out) (by omega) (by exact Hbl.out.size) _ rfl rfl ?_); intro v2 w2 ho2 hg2 hn2; obtain ⟨g2, c2, rfl⟩ := ho2.head (by omega); have q5 := (hg2.cell_far ⟨g, k, none⟩ hgl.2 HNE.out).trans hc; have q6 := (hg2.frozen_far ⟨g, k, none⟩ hgl.2 HNE.out).trans hf; have Ho2 := Lib.hid ho2; have Hg2 := Lib.hid hg2; have Hn2 := Lib.hid hn2; clear ho2 hg2 hn2))
      all_goals
        have HP := Hown.out.pushIn (w := wr.drew) (w' := w2) (r' := r ++ [x]) Hxk.out hc (by simpa using Ho2.out) Hg2.out Hn2.out
        have hk2 : (((strT i0 m).take k ++ m.drop k).set k (r ++ [x]))[k]? = some (r ++ [x]) := by
          rw [List.getElem?_set, if_pos rfl, if_pos (List.getElem?_eq_some_iff.1 Hxk.out).1]
        obtain ⟨g3, c3, hc5, ho5, hne5, hlo5⟩ := HP.rowAt hk2 (by simp)
        have hc6 : (w2.setCell ⟨g, k, none⟩ (.slice (some ⟨g2, 0, none⟩) (r.length + 1) c2)).cell? ⟨g, k, none⟩ = some (.slice (some ⟨g2, 0, none⟩) (r.length + 1) c2) := World.cell?_setCell_same' _ _ _ (by rw [q5]; rfl)
        rw [hc6] at hc5
        injection hc5 with hc5
        injection hc5 with hc7 hc8 hc9
        injection hc7 with hc7
        injection hc7 with hc7
        subst hc7
        subst hc9
        have hl9 : (r ++ [x]).length = r.length + 1 := by simp
        rw [hl9] at ho5
        have hc10 := ho5.cell i0 (by omega)
        have hf10 := ho5.frozen i0
        have HQ := HP.setIn hk2 (by rw [hl9]; exact hc6) (by rw [hl9]; exact ho5) i0 0
        rw [HS.out, List.set_set, Hmix.out] at HQ
        have HQ2 := Lib.hid HQ
        have hb2 : Below w.heap.size w w2 := (Hbl.out.drew).grown Hg2.out Hbl.out.size (fun b hb => (Ho.out.ownlt b hb).1)
        have HB2 := Lib.hid ((hb2.setCell (p := ⟨g, k, none⟩) hgl.1 (.slice (some ⟨g2, 0, none⟩) (r.length + 1) c2)).setCell (p := ⟨g2, i0, none⟩) hlo5 (.int .i64 0))
        have hi1 : i0 < r.length + 1 := by omega
        clear HQ hb2 HP hk2 ho5 q5 q6 hc hf q1 q2 hl9 hne5 hne
        clear Ho2 Hg2 Hn2 hc8
        generalize w2.setCell ⟨g, k, none⟩ (.slice (some ⟨g2, 0, none⟩) (r.length + 1) c2) = W5 at *
        go_wp2_with fail
        go_roundw
        case rel =>
          first | exact ⟨k + 1, hlt, by go_num, HQ2.out, HB2.out⟩ | ((repeat apply Exists.intro); exact ⟨⟨k + 1, hlt, by go_num, HQ2.out, HB2.out⟩, rfl⟩)
        case measure => simp [intOf]; omega
    · have e : k = n := by omega
      have HE : Hid ((strT i0 m).take k ++ m.drop k = strT i0 m) := by rw [e]; exact mix_end (by rw [strT_len, HL.out]) HL.out
      rw [HE.out] at hown
      have hk1 : i0 < n + 1 := by omega
      have HO : Hid (OInts (wr.alloc (.cells (madeCells #[.int .i64 0] (n + 1)) 3)) wr.heap.size (.slice (some ⟨wr.heap.size, 0, none⟩) (n + 1) (n + 1)) (n + 1) (List.replicate (n + 1) 0)) := OInts.made wr (n + 1) (by omega)
      have hc2 := HO.out.cell i0 hk1
      have hf2 := HO.out.frozen i0
      have hww : (wr.alloc (.cells (madeCells #[.int .i64 0] (n + 1)) 3)).setCell ⟨wr.heap.size, i0, none⟩ (.int .i64 1) = wr.alloc (.cells ((madeCells #[.int .i64 0] (n + 1)).setIfInBounds i0 (.int .i64 1)) 3) := World.setCell_alloc_at _ _ _ _ _ rfl
      have ho2 := HO.out.set i0 1
      rw [hww] at ho2
      have HO2 : Hid (OInts (wr.alloc (.cells ((madeCells #[.int .i64 0] (n + 1)).setIfInBounds i0 (.int .i64 1)) 3)) wr.heap.size (.slice (some ⟨wr.heap.size, 0, none⟩) (n + 1) (n + 1)) (n + 1) (lastRow n i0)) := ho2
      have HB2 : Hid (Below wr.heap.size wr (wr.alloc (.cells ((madeCells #[.int .i64 0] (n + 1)).setIfInBounds i0 (.int .i64 1)) 3))) := (Below.refl wr.heap.size wr).alloc (Nat.le_refl _) _
      clear hww ho2
      have Hown := Lib.hid hown
      have Hbl := Lib.hid hbl
      subst e
      clear hown hbl hk
      go_wp2_with (first
        | (at_builtin; refine wpList_push_fresh _ _ wr rfl _ _ rfl w.heap.size _ k _ rfl Hown.out (by omega) Hbl.out.size HB2.out _ _ HO2.out _ ?_ rfl ?_; (simp); intro v4 w4 ho4 hb4 _; have Ho4 := Lib.hid ho4; have Hb4 := Lib.hid hb4; clear ho4 hb4))
      go_ret2
      rw [hg.out, hv.out]
      refine ⟨_, rfl, ?_, Hbl.out.trans Hb4.out⟩
      have h9 := Ho4.out
      have h8 := h9.len
      rw [← h8] at h9
      exact h9
end Go.Proofs.YtbjoblgklcilpaaGreatDoor
