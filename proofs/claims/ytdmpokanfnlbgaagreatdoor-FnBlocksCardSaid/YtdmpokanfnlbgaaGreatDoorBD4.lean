/- D4: a part of the proofs of this seat. -/
import Derived.Deep.RegionLaw
import Derived.StillTailTactics
import Derived.Test.YtdmpokanfnlbgaaGreatDoorProg
import Derived.Test.YtdmpokanfnlbgaaGreatDoorBG1a
import Derived.Test.YtdmpokanfnlbgaaGreatDoorBG0a
import Derived.Test.YtdmpokanfnlbgaaGreatDoorBG0b
namespace Go.Proofs.YtdmpokanfnlbgaaGreatDoor
open Go.RowKit
set_option linter.all false
/- The draws of matrices. -/
def Bent (T : List (List Int)) : Prop := 1 ≤ T.length ∧ T.length ≤ 5 ∧ ∀ r ∈ T, 1 ≤ r.length ∧ r.length ≤ 4
theorem bent_sq {T : List (List Int)} {n : Nat} (hl : T.length = n) (h1 : 1 ≤ n) (h4 : n ≤ 4) (hr : RowsLen T n) : Bent T ∧ T.length ≤ 4 := by
  refine ⟨⟨by omega, by omega, fun r h => ?_⟩, by omega⟩
  obtain ⟨k, hk⟩ := List.getElem?_of_mem h
  have := hr k r hk
  omega
def strs12 : List ByteArray := [⟨#[49, 44, 49, 47, 49, 44, 48]⟩, ⟨#[50]⟩, ⟨#[49, 44, 49, 47, 49, 44, 49]⟩, ⟨#[48, 44, 49, 47, 49, 44, 48]⟩, ⟨#[48, 44, 49, 44, 48, 47, 48, 44, 48, 44, 49, 47, 49, 44, 49, 44, 48]⟩, ⟨#[49, 44, 49, 44, 48, 47, 48, 44, 49, 44, 49, 47, 49, 44, 48, 44, 49]⟩, ⟨#[49, 44, 48, 47, 49, 44, 49]⟩, ⟨#[48, 44, 49, 47, 48, 44, 48]⟩, ⟨#[51]⟩, ⟨#[49, 44, 50, 47, 49, 44, 48]⟩, ⟨#[48]⟩, ⟨#[48, 44, 50, 47, 49, 44, 48]⟩]
def mats12 : List (List (List Nat)) := [[[1, 1], [1, 0]], [[2]], [[1, 1], [1, 1]], [[0, 1], [1, 0]], [[0, 1, 0], [0, 0, 1], [1, 1, 0]], [[1, 1, 0], [0, 1, 1], [1, 0, 1]], [[1, 0], [1, 1]], [[0, 1], [0, 0]], [[3]], [[1, 2], [1, 0]], [[0]], [[0, 2], [1, 0]]]
theorem strs12_all : ∀ p ∈ strs12.zip mats12, readsAs p.1 p.2 := by unfold readsAs; decide +kernel
theorem mats12_all : ∀ M ∈ mats12, 1 ≤ M.length ∧ M.length ≤ 4 ∧ ∀ q ∈ M, q.length = M.length := by decide
theorem strs12_get {s : ByteArray} (h : s ∈ strs12) : ∃ M, readsAs s M ∧ Bent (intM M) ∧ (intM M).length ≤ 4 := by
  obtain ⟨i, hi⟩ := List.getElem?_of_mem h
  have hl : i < 12 := (List.getElem?_eq_some_iff.1 hi).1
  have hl2 : mats12.length = 12 := by decide
  have hm : mats12[i]? = some (mats12[i]'(by omega)) := List.getElem?_eq_getElem _
  have hz : (strs12.zip mats12)[i]? = some (s, mats12[i]'(by omega)) := by rw [List.getElem?_zip_eq_some]; exact ⟨hi, hm⟩
  have h1 := strs12_all _ (List.mem_of_getElem? hz)
  have h2 := mats12_all _ (List.mem_of_getElem? hm)
  refine ⟨_, h1, bent_sq (by simp [intM]) h2.1 h2.2.1 ?_⟩
  intro k r hk
  simp only [intM, List.getElem?_map, Option.map_eq_some_iff] at hk
  obtain ⟨q, hq, rfl⟩ := hk
  rw [List.length_map]
  exact h2.2.2 q (List.mem_of_getElem? hq)
set_option maxRecDepth 20000 in
set_option maxHeartbeats 6400000 in
theorem l4Draw_any (b lo k : Nat) (w : World) (h : Cur w b lo) (hk1 : 1 ≤ k) (hk4 : k ≤ 4) :
    Calls Tryz.prog 42 #[.pointer (some ⟨b, 0, none⟩), .int .i64 k] w fun e w' => ∃ v T, e = .returned v ∧ OIntss w' w.heap.size v T.length T ∧ (Bent T ∧ T.length ≤ 4) ∧ Cur w' b lo ∧ w.grownBy w' (some b) := by
  have hbl := h.lt.2
  have H := Lib.hid h
  clear h
  go_enter Tryz.func42, Tryz.ntmps42
  go_wp2_with (go_at_call 38; refine (l1Once_any b lo 3 _ H.out (by omega) (by omega)).mono ?_; rintro e w1 ⟨t, rfl, hc1, hg1⟩; have hbl1 := hc1.lt.2; have Hc1 := Lib.hid hc1; have Hg1 := Lib.hid hg1; clear hc1 hg1)
  · have HLC : Hid (∀ (i : Nat) (s : ByteArray), strs12[i]? = some s → (w1.alloc (.cells (strs12.map Value.string).toArray 9)).cell? ⟨w1.heap.size, i, none⟩ = some (.string s)) := by
      show ∀ (i : Nat) (s : ByteArray), _
      intro i s hs
      exact (OStrs.lit w1 w1.heap.size strs12 (Nat.le_refl _) (by decide)).cell hs
    go_wp2_with (first
      | (go_at_call 64; refine (l1Pick_any b lo w1.heap.size 12 12 strs12 _ (Hc1.out.keep ((Below.refl _ _).alloc (Nat.le_refl _) _)) rfl HLC.out (by omega) (by omega) (by omega)).mono ?_; rintro e w2 ⟨s, hs, rfl, hc2, hg2⟩; obtain ⟨M, hM, hb, h4⟩ := strs12_get hs; have Hc2 := Lib.hid hc2; have Hg2 := Lib.hid ((gr_alloc Hg1.out _).trans hg2); have HM := Lib.hid hM; have HBM := Lib.hid hb; clear hs hM hb hc2 hg2)
      | (go_at_call 66; refine (sParse_any s M _ HM.out).mono ?_; rintro e w3 ⟨v3, rfl, ho3, hb3⟩; have Ho3 := Lib.hid (ho3.mono Hg2.out.size); have Hc3 := Lib.hid (Hc2.out.keep hb3); have Hg3 := Lib.hid (Hg2.out.trans (grown_of_below hb3)); clear ho3 hb3))
    go_ret
    exact ⟨_, _, rfl, Ho3.out, ⟨HBM.out, h4⟩, Hc3.out, Hg3.out⟩
  · refine (l1Below_any b lo k _ Hc1.out hk1 (by omega)).mono ?_
    rintro e w2 ⟨m, hm, rfl, hc2, hg2⟩
    obtain ⟨n, hn⟩ : ∃ n : Nat, 1 + (m : Int) = n := ⟨m + 1, by omega⟩
    have hn1 : 1 ≤ n := by omega
    have hn4 : n ≤ 4 := by omega
    have hbl2 := hc2.lt.2
    have Hc2 := Lib.hid hc2
    have Hg2 := Lib.hid (Hg1.out.trans hg2)
    have hs2 := Hg2.out.size
    clear hc2 hg2 hm
    go_wp2_with (go_at_call 34; refine (sL4Zero_any n n _ (by omega) (by omega)).mono ?_; rintro e w3 ⟨v3, rfl, ho3, hb3⟩; obtain ⟨g3, cap3, rfl⟩ := ho3.head hn1; have Ho3 := Lib.hid ho3; have Hc3 := Lib.hid (Hc2.out.keep hb3); have Hg3 := Lib.hid (Hg2.out.trans (grown_of_below hb3)); clear ho3 hb3)
    clear hn
    go_loopw [9] (fun x wr => ∃ (i : Nat) (T : List (List Int)), i ≤ n ∧ x = .int .i64 i ∧ OIntss wr w2.heap.size (.slice (some ⟨g3, 0, none⟩) n cap3) n T ∧ Hid (RowsLen T n) ∧ Cur wr b lo ∧ w.grownBy wr (some b)) (fun x _ => n - (intOf x).toNat)
    case atStart => exact ⟨0, _, Nat.zero_le _, rfl, Ho3.out, rows_rep n n, Hc3.out, Hg3.out⟩
    case round =>
      obtain ⟨i, T, hi, rfl, hown, hrl, hcu, hgr⟩ := hrel
      have Hown := Lib.hid hown
      have Hcu := Lib.hid hcu
      have Hgr := Lib.hid hgr
      clear hown hcu hgr Ho3 Hc3 Hg3 Hc1 Hg1 Hc2 Hg2
      by_cases hlt : i < n
      · obtain ⟨wo, rfl⟩ : ∃ wo : World, wo = wr := ⟨_, rfl⟩
        go_wp2_with fail
        go_loopw [10] (fun x wr => ∃ (j : Nat) (T : List (List Int)), j ≤ n ∧ x = .int .i64 j ∧ OIntss wr w2.heap.size (.slice (some ⟨g3, 0, none⟩) n cap3) n T ∧ Hid (RowsLen T n) ∧ Cur wr b lo ∧ w.grownBy wr (some b)) (fun x _ => n - (intOf x).toNat)
        case atStart => exact ⟨0, T, Nat.zero_le _, rfl, Hown.out, hrl, Hcu.out, Hgr.out⟩
        case round =>
          clear Hown Hcu Hgr hrl T
          obtain ⟨j, T, hj, rfl, hown, hrl, hcu, hgr⟩ := hrel
          have Hown := Lib.hid hown
          have Hcu := Lib.hid hcu
          have Hgr := Lib.hid hgr
          clear hown hcu hgr
          by_cases hjn : j < n
          · have hti : i < T.length := by rw [Hown.out.len]; exact hlt
            have hri := hrl.out i _ (List.getElem?_eq_getElem hti)
            obtain ⟨gk, ck, h5, ho, hne, hlo⟩ := Hown.out.rowAt (List.getElem?_eq_getElem hti) (by omega)
            rw [hri] at h5
            have h6 := ho.cell j (by omega)
            have h7 := ho.frozen j
            have hgn : g3 < wr.heap.size := Hown.out.lt.2
            have hgne : some g3 ≠ some b := by have := Hown.out.lt.1; intro e; injection e; omega
            have hgk : gk < wr.heap.size := ho.lt.2
            have HO := Lib.hid ho
            have hset := fun (W : World) (hw : OIntss W w2.heap.size (.slice (some ⟨g3, 0, none⟩) n cap3) n T) (hc : W.cell? ⟨g3, i, none⟩ = some (.slice (some ⟨gk, 0, none⟩) T[i].length ck)) (ho : OInts W w2.heap.size (.slice (some ⟨gk, 0, none⟩) T[i].length ck) T[i].length T[i]) (x : Int) => hw.setIn (List.getElem?_eq_getElem hti) hc ho j x
            rw [hri] at hset
            have HSet := Lib.hid hset
            have HB4 := Lib.hid (((Below.refl wr.heap.size wr).alloc (Nat.le_refl _) (.cells #[.int .i64 0, .int .i64 1, .int .i64 0, .int .i64 1, .int .i64 2] 3)).drew)
            have Hri := Lib.hid hri
            have HLit : Hid (OInts (wr.alloc (.cells #[.int .i64 0, .int .i64 1, .int .i64 0, .int .i64 1, .int .i64 2] 3)).drew wr.heap.size (.slice (some ⟨wr.heap.size, 0, none⟩) 5 5) 5 [0, 1, 0, 1, 2]) := (OInts.lit_ (w := wr) (arr := #[.int .i64 0, .int .i64 1, .int .i64 0, .int .i64 1, .int .i64 2]) (n := 5) (xs := [0, 1, 0, 1, 2]) (Nat.le_refl _) rfl rfl (by omega)).drewN 1
            have hrs := fun x => rows_set (i := i) (r := T[i].set j x) hrl.out (by rw [List.length_set]; exact hri)
            have HRS := Lib.hid hrs
            clear hset ho h7 hri hrl hrs
            go_wp2_with fail
            go_region_law (first
              | (go_simp; go_at_call 58; refine (l1PickInt_any b lo wr.heap.size 5 5 _ [0, 1, 0, 1, 2] _ (Hcu.out.keep HB4.out) HLit.out Hcu.out.lt.2 (by omega) (by omega)).mono ?_; rintro e w5 ⟨d0, hd0, rfl, hc5, hg5⟩; have Hc5 := Lib.hid hc5; have Hg5 := Lib.hid (Hgr.out.trans ((grown_of_below HB4.out).trans hg5)); have Ho5 := Lib.hid ((Hown.out.keep HB4.out).away hg5 hbl2); have HOk := Lib.hid ((HO.out.keep HB4.out).away hg5 hbl2); have q5 := hg5.cell ((HB4.out.cell (p := ⟨g3, i, none⟩) hgn).trans h5) hgne; have q6 := HOk.out.cell j (by rw [Hri.out]; exact hjn); have q7 := HOk.out.frozen j; clear hc5 hg5 hd0))
            all_goals
              have Ht := Lib.hid (HSet.out _ Ho5.out q5 (by have h9 := HOk.out; rw [Hri.out] at h9; exact h9) d0)
              have HRT := Lib.hid (HRS.out d0)
              have Hc6 := Lib.hid (Hc5.out.grown (only_setCell (World.grownBy.refl w5 (some gk)) rfl (p := ⟨gk, j, none⟩) (.int .i64 d0)) (fun g e => by injection e; omega))
              have Hg6 := Lib.hid (grown_new Hg5.out (p := ⟨gk, j, none⟩) (by show _ ≤ gk; omega) (.int .i64 d0))
              generalize w5.setCell ⟨gk, j, none⟩ (.int .i64 d0) = w6 at Ht Hc6 Hg6 ⊢
              generalize T.set i (T[i].set j d0) = U at Ht HRT
              clear q5 q6 q7 Ho5 HOk Hc5 Hg5 HSet h5 h6 HRS
              go_wp2_with fail
            all_goals refine ⟨?_, ?_⟩
            all_goals first
              | exact ⟨j + 1, U, hjn, by go_num, Ht.out, HRT.out, Hc6.out, Hg6.out⟩
              | (simp [intOf]; omega)
          · go_wp2_with fail
            go_roundw
            case rel => exact ⟨i + 1, T, hlt, by go_num, Hown.out, hrl, Hcu.out, Hgr.out⟩
            case measure => simp [intOf]; omega
      · have HTL : Hid (T.length = n) := Hown.out.len
        have HF := Lib.hid (bent_sq HTL.out hn1 hn4 hrl.out)
        have HOO : Hid (OIntss wr w.heap.size (.slice (some ⟨g3, 0, none⟩) n cap3) T.length T) := by
          have h := Hown.out.mono hs2
          show OIntss _ _ _ T.length T
          rw [HTL.out]
          exact h
        clear hrl Hown
        go_wp2_with fail
        go_ret
        exact ⟨_, T, rfl, HOO.out, HF.out, Hcu.out, Hgr.out⟩
end Go.Proofs.YtdmpokanfnlbgaaGreatDoor
