/- D22: a part of the proofs of this seat. -/
import Derived.Deep.RegionLaw
import Derived.StillTailTactics
import Derived.Test.YtgcemkpinmjaeaaDoorProg
import Derived.Test.YtgcemkpinmjaeaaDoorDraw2
import Derived.Test.YtgcemkpinmjaeaaDoorSL4Zero
import Derived.Test.YtgcemkpinmjaeaaDoorRowAt
import Derived.Test.YtgcemkpinmjaeaaDoorSDiagonalOf
namespace Go.Proofs.YtgcemkpinmjaeaaDoor
open Go.RowKit
set_option linter.all false
/- The draws of tables. -/
theorem grown_far {w W w' : World} {b g : Nat} (h : w.grownBy W (some b)) (k : W.grownBy w' (some g)) (hg : w.heap.size ≤ g) : w.grownBy w' (some b) := by
  refine ⟨k.os.trans h.os, ?_, k.output.trans h.output, Nat.le_trans h.size k.size, fun i hi hne => (k.block i (Nat.lt_of_lt_of_le hi h.size) (by intro e; injection e; omega)).trans (h.block i hi hne)⟩
  first | exact k.tape.trans h.tape | exact Nat.le_trans h.tape k.tape | exact h.tape.trans k.tape
set_option maxRecDepth 20000 in
set_option maxHeartbeats 6400000 in
theorem l22Draw_any (b lo : Nat) (w : World) (h : Cur w b lo) :
    Calls Tryd.prog 21 #[.pointer (some ⟨b, 0, none⟩)] w fun e w' => ∃ v T, e = .returned v ∧ OIntss w' w.heap.size v T.length T ∧ Cur w' b lo ∧ w.grownBy w' (some b) := by
  have hbl := h.lt.2
  have H := Lib.hid h
  clear h
  go_enter Tryd.func21, Tryd.ntmps21
  go_wp2_with fail
  refine (l1Below_any b lo 4 _ H.out (by omega) (by omega)).mono ?_
  rintro e w2 ⟨m, hm, rfl, hc2, hg2⟩
  obtain ⟨n, hn⟩ : ∃ n : Nat, 1 + (m : Int) = n := ⟨m + 1, by omega⟩
  have hn1 : 1 ≤ n := by omega
  have hn4 : n ≤ 4 := by omega
  have hbl2 := hc2.lt.2
  have Hc2 := Lib.hid hc2
  have Hg2 := Lib.hid hg2
  have hs2 := Hg2.out.size
  clear hc2 hg2 hm
  go_wp2_with (go_at_call 40; refine (sL4Zero_any n n _ (by omega) (by omega)).mono ?_; rintro e w3 ⟨v3, rfl, ho3, hb3⟩; obtain ⟨g3, cap3, rfl⟩ := ho3.head hn1; have Ho3 := Lib.hid ho3; have Hc3 := Lib.hid (Hc2.out.keep hb3); have Hg3 := Lib.hid (Hg2.out.trans (grown_of_below hb3)); clear ho3 hb3)
  clear hn
  go_loopw [5] (fun x wr => ∃ (i : Nat) (T : List (List Int)), i ≤ n ∧ x = .int .i64 i ∧ OIntss wr w2.heap.size (.slice (some ⟨g3, 0, none⟩) n cap3) n T ∧ Hid (RowsLen T n) ∧ Cur wr b lo ∧ w.grownBy wr (some b)) (fun x _ => n - (intOf x).toNat)
  case atStart => exact ⟨0, _, Nat.zero_le _, rfl, Ho3.out, rows_rep n n, Hc3.out, Hg3.out⟩
  case round =>
    obtain ⟨i, T, hi, rfl, hown, hrl, hcu, hgr⟩ := hrel
    have Hown := Lib.hid hown
    have Hcu := Lib.hid hcu
    have Hgr := Lib.hid hgr
    clear hown hcu hgr Ho3 Hc3 Hg3 Hc2 Hg2
    by_cases hlt : i < n
    · obtain ⟨wo, rfl⟩ : ∃ wo : World, wo = wr := ⟨_, rfl⟩
      go_wp2_with fail
      go_loopw [6] (fun x wr => ∃ (j : Nat) (T : List (List Int)), j ≤ n ∧ x = .int .i64 j ∧ OIntss wr w2.heap.size (.slice (some ⟨g3, 0, none⟩) n cap3) n T ∧ Hid (RowsLen T n) ∧ Cur wr b lo ∧ w.grownBy wr (some b)) (fun x _ => n - (intOf x).toNat)
      case atStart => exact ⟨0, T, Nat.zero_le _, rfl, Hown.out, hrl, Hcu.out, Hgr.out⟩
      case round =>
        clear Hown Hcu Hgr hrl T
        obtain ⟨j, T, hj, rfl, hown, hrl, hcu, hgr⟩ := hrel
        have Hown := Lib.hid hown
        have Hcu := Lib.hid hcu
        have Hgr := Lib.hid hgr
        clear hown hcu hgr
        by_cases hjn : j < n
        · have hti : i < T.length := by rw [Hown.out.len]; exact hlt
          have hri := hrl.out i _ (List.getElem?_eq_getElem hti)
          obtain ⟨gk, ck, h5, ho, hne, hlo⟩ := Hown.out.rowAt (List.getElem?_eq_getElem hti) (by omega)
          rw [hri] at h5
          have h6 := ho.cell j (by omega)
          have h7 := ho.frozen j
          have hgn : g3 < wr.heap.size := Hown.out.lt.2
          have hgne : some g3 ≠ some b := by have := Hown.out.lt.1; intro e; injection e; omega
          have hgk : gk < wr.heap.size := ho.lt.2
          have HO := Lib.hid ho
          have hset := fun (W : World) (hw : OIntss W w2.heap.size (.slice (some ⟨g3, 0, none⟩) n cap3) n T) (hc : W.cell? ⟨g3, i, none⟩ = some (.slice (some ⟨gk, 0, none⟩) T[i].length ck)) (ho : OInts W w2.heap.size (.slice (some ⟨gk, 0, none⟩) T[i].length ck) T[i].length T[i]) (x : Int) => hw.setIn (List.getElem?_eq_getElem hti) hc ho j x
          rw [hri] at hset
          have HSet := Lib.hid hset
          have HB4 := Lib.hid ((Below.refl wr.heap.size wr).drew)
          have Hri := Lib.hid hri
          have hrs := fun x => rows_set (i := i) (r := T[i].set j x) hrl.out (by rw [List.length_set]; exact hri)
          have HRS := Lib.hid hrs
          clear hset ho h7 hri hrl hrs
          go_wp2_with fail
          go_region_law (first
            | (go_simp; go_at_call 26; refine (l1Below_any b lo 9 _ (Hcu.out.keep HB4.out) (by omega) (by omega)).mono ?_; rintro e w5 ⟨d1, hd0, rfl, hc5, hg5⟩; have Hc5 := Lib.hid hc5; have Hg5 := Lib.hid (Hgr.out.trans ((grown_of_below HB4.out).trans hg5)); have Ho5 := Lib.hid ((Hown.out.keep HB4.out).away hg5 hbl2); have HOk := Lib.hid ((HO.out.keep HB4.out).away hg5 hbl2); have q5 := hg5.cell ((HB4.out.cell (p := ⟨g3, i, none⟩) hgn).trans h5) hgne; have q6 := HOk.out.cell j (by rw [Hri.out]; exact hjn); have q7 := HOk.out.frozen j; clear hc5 hg5))
          all_goals
            have Ht := Lib.hid (HSet.out _ Ho5.out q5 (by have h9 := HOk.out; rw [Hri.out] at h9; exact h9) ((d1 : Int) - 4))
            have HRT := Lib.hid (HRS.out ((d1 : Int) - 4))
            have Hc6 := Lib.hid (Hc5.out.grown (only_setCell (World.grownBy.refl w5 (some gk)) rfl (p := ⟨gk, j, none⟩) (.int .i64 ((d1 : Int) - 4))) (fun g e => by injection e; omega))
            have Hg6 := Lib.hid (grown_new Hg5.out (p := ⟨gk, j, none⟩) (by show _ ≤ gk; omega) (.int .i64 ((d1 : Int) - 4)))
            generalize T.set i (T[i].set j ((d1 : Int) - 4)) = U at Ht HRT
            clear q5 q6 q7 Ho5 HOk Hc5 Hg5 HSet h5 h6 HRS
            go_wp2_with fail
          all_goals refine ⟨?_, ?_⟩
          all_goals first
            | exact ⟨j + 1, U, hjn, by go_num, Ht.out, HRT.out, Hc6.out, Hg6.out⟩
            | (simp [intOf]; omega)
        · go_wp2_with fail
          go_roundw
          case rel => exact ⟨i + 1, T, hlt, by go_num, Hown.out, hrl, Hcu.out, Hgr.out⟩
          case measure => simp [intOf]; omega
    · have HTL : Hid (T.length = n) := Hown.out.len
      go_wp2_with fail
      refine (l1Below_any b lo 12 _ Hcu.out (by omega) (by omega)).mono ?_
      rintro e wx ⟨x, hx, rfl, hcx, hgx⟩
      have Hox := Lib.hid ((Hown.out.away hgx hbl2).mono hs2)
      have Hox2 := Lib.hid (Hown.out.away hgx hbl2)
      have Hcx := Lib.hid hcx
      have Hgx := Lib.hid (Hgr.out.trans hgx)
      have HRL := Lib.hid hrl.out
      clear hcx hgx Hown Hcu Hgr hrl
      have hln : T.length = n := HTL.out
      by_cases hx0 : x = 0
      · subst hx0
        have hti : 0 < T.length := by omega
        have hri := HRL.out 0 _ (List.getElem?_eq_getElem hti)
        obtain ⟨gk, ck, h5, ho, hne, hlo⟩ := Hox2.out.rowAt (List.getElem?_eq_getElem hti) (by omega)
        rw [hri] at h5
        have hn0 : 0 < n := hn1
        have h6 := ho.cell 0 (by omega)
        have h7 := ho.frozen 0
        have hgn : g3 < wx.heap.size := Hox2.out.lt.2
        have hgne : some g3 ≠ some b := by have := Hox2.out.lt.1; intro e; injection e; omega
        have hgk : gk < wx.heap.size := ho.lt.2
        have HO := Lib.hid ho
        have hset := fun (W : World) (hw : OIntss W w2.heap.size (.slice (some ⟨g3, 0, none⟩) n cap3) n T) (hc : W.cell? ⟨g3, 0, none⟩ = some (.slice (some ⟨gk, 0, none⟩) T[0].length ck)) (ho : OInts W w2.heap.size (.slice (some ⟨gk, 0, none⟩) T[0].length ck) T[0].length T[0]) (x : Int) => hw.setIn (List.getElem?_eq_getElem hti) hc ho 0 x
        rw [hri] at hset
        have HSet := Lib.hid hset
        have HB4 := Lib.hid (((Below.refl wx.heap.size wx).alloc (Nat.le_refl _) (.cells #[.int .i64 100, .int .i64 101, .int .i64 (-100)] 3)).drew)
        have Hri := Lib.hid hri
        have HLit : Hid (OInts (wx.alloc (.cells #[.int .i64 100, .int .i64 101, .int .i64 (-100)] 3)).drew wx.heap.size (.slice (some ⟨wx.heap.size, 0, none⟩) 3 3) 3 [100, 101, -100]) := (OInts.lit_ (w := wx) (arr := #[.int .i64 100, .int .i64 101, .int .i64 (-100)]) (n := 3) (xs := [100, 101, -100]) (Nat.le_refl _) rfl rfl (by omega)).drewN 1
        clear hset ho h7 hri hln
        go_wp2_with fail
        go_region_law (first
          | (go_simp; go_at_call 41; refine (l1PickInt_any b lo wx.heap.size 3 3 _ [100, 101, -100] _ (Hcx.out.keep HB4.out) HLit.out Hcx.out.lt.2 (by omega) (by omega)).mono ?_; rintro e w5 ⟨d0, hd0, rfl, hc5, hg5⟩; have Hc5 := Lib.hid hc5; have Hg5 := Lib.hid (Hgx.out.trans ((grown_of_below HB4.out).trans hg5)); have Ho5 := Lib.hid ((Hox2.out.keep HB4.out).away hg5 hbl2); have HOk := Lib.hid ((HO.out.keep HB4.out).away hg5 hbl2); have q5 := hg5.cell ((HB4.out.cell (p := ⟨g3, 0, none⟩) hgn).trans h5) hgne; have q6 := HOk.out.cell 0 (by rw [Hri.out]; exact hn0); have q7 := HOk.out.frozen 0; clear hc5 hg5 hd0))
        all_goals
          have Ht := Lib.hid ((HSet.out _ Ho5.out q5 (by have h9 := HOk.out; rw [Hri.out] at h9; exact h9) d0).mono hs2)
          have Hc6 := Lib.hid (Hc5.out.grown (only_setCell (World.grownBy.refl w5 (some gk)) rfl (p := ⟨gk, 0, none⟩) (.int .i64 d0)) (fun g e => by injection e; omega))
          have Hg6 := Lib.hid (grown_new Hg5.out (p := ⟨gk, 0, none⟩) (by show _ ≤ gk; omega) (.int .i64 d0))
          generalize w5.setCell ⟨gk, 0, none⟩ (.int .i64 d0) = w6 at Ht Hc6 Hg6 ⊢
          generalize T.set 0 (T[0].set 0 d0) = U at Ht
          clear q5 q6 q7 Ho5 HOk Hc5 Hg5 HSet h5 h6
          go_wp2_with fail
          go_ret
          exact ⟨_, U, rfl, Ht.out.self, Hc6.out, Hg6.out⟩
      have d0 : ((x : Int) == 0) = false := beq_eq_false_iff_ne.2 (by omega)
      by_cases hx1 : x = 1
      · subst hx1
        have HR := Lib.hid (OInts.lit_ (w := wx) (lo := wx.heap.size) (arr := #[.int .i64 1]) (n := 1) (xs := [1]) (Nat.le_refl _) rfl rfl (by omega))
        have HB3 := Lib.hid ((Below.refl wx.heap.size wx).alloc (Nat.le_refl _) (.cells #[.int .i64 1] 3))
        have hsx := Hgx.out.size
        clear hln
        go_wp2_with (at_builtin; refine wpList_push_rowC _ _ wx rfl (.tmp 46) (.tmp 48) rfl w.heap.size _ n T rfl Hox.out (by omega) hsx HB3.out 1 [1] HR.out _ ?_ rfl ?_; (first | rfl | simp); intro v6 w6 ho6 hg6 hn6; have hg7 : (wx.alloc (.cells #[.int .i64 1] 3)).grownBy w6 (some g3) := hg6; have HO6 := Lib.hid ho6; have HG6 := Lib.hid (grown_far (Hgx.out.trans (grown_of_below HB3.out)) hg7 Hox.out.lt.1); have HC6 := Lib.hid ((Hcx.out.keep HB3.out).grown hg7 (fun q e => (by have h1 := Hox.out.lt.1; injection e; omega))); clear hg7; clear ho6 hg6 hn6)
        go_ret
        exact ⟨_, T ++ [[1]], rfl, HO6.out.self, HC6.out, HG6.out⟩
      have d1 : ((x : Int) == 1) = false := beq_eq_false_iff_ne.2 (by omega)
      by_cases hx2 : x = 2
      · subst hx2
        clear hln
        go_wp2_with fail
        go_loopw [7] (fun x wr => ∃ (j : Nat) (T : List (List Int)), j ≤ n ∧ x = .int .i64 j ∧ OIntss wr w2.heap.size (.slice (some ⟨g3, 0, none⟩) n cap3) n T ∧ Hid (RowsLen T n) ∧ Cur wr b lo ∧ w.grownBy wr (some b)) (fun x _ => n - (intOf x).toNat)
        case atStart => exact ⟨0, T, Nat.zero_le _, rfl, Hox2.out, HRL.out, Hcx.out, Hgx.out⟩
        case round =>
          clear Hox Hox2 Hcx Hgx HRL HTL T
          obtain ⟨j, T, hj, rfl, hown, hrl, hcu, hgr⟩ := hrel
          have Hown := Lib.hid hown
          have Hcu := Lib.hid hcu
          have Hgr := Lib.hid hgr
          clear hown hcu hgr
          by_cases hjn : j < n
          · have hti : 0 < T.length := by rw [Hown.out.len]; omega
            have htl : n - 1 < T.length := by rw [Hown.out.len]; omega
            have hri := hrl.out 0 _ (List.getElem?_eq_getElem hti)
            have hrj := hrl.out (n - 1) _ (List.getElem?_eq_getElem htl)
            obtain ⟨gk, ck, h5, ho, hne, hlo⟩ := Hown.out.rowAt (List.getElem?_eq_getElem hti) (by omega)
            obtain ⟨gl, cl, h8, ho8, _, _⟩ := Hown.out.rowAt (List.getElem?_eq_getElem htl) (by omega)
            have q8 := ho8.cell j (by omega)
            generalize T[n - 1].getD j 0 = y at q8
            have hset := Hown.out.setIn (List.getElem?_eq_getElem hti) h5 ho j (wrap64 (2 * y))
            have Hrl := Lib.hid (rows_set (i := 0) (r := T[0].set j (wrap64 (2 * y))) hrl.out (by rw [List.length_set]; exact hri))
            rw [hri] at h5 ho
            rw [hrj] at h8
            have h6 := ho.cell j hjn
            have h7 := ho.frozen j
            have hn0 : 0 < n := hn1
            have hnm : ((n : Int) - 1) = ((n - 1 : Nat) : Int) := by omega
            have hnl : n - 1 < n := by omega
            have Hset := Lib.hid hset
            have Hc5 := Lib.hid (Hcu.out.grown (only_setCell (World.grownBy.refl wr (some gk)) rfl (p := ⟨gk, j, none⟩) (.int .i64 (wrap64 (2 * y)))) (fun g e => by injection e; omega))
            have Hg5 := Lib.hid (grown_new Hgr.out (p := ⟨gk, j, none⟩) (by show _ ≤ gk; omega) (.int .i64 (wrap64 (2 * y))))
            generalize hnn : n - 1 = n1 at *
            clear hnm
            have hwr : IntKind.i64.wrap ((n : Int) - 1) = (n1 : Int) := by rw [wrap_i64_eq]; unfold wrap64; omega
            have hwr2 : wrap64 ((n : Int) - 1) = (n1 : Int) := by unfold wrap64; omega
            clear hset ho hri hrl ho8 hrj htl
            go_wp2_with fail
            go_still_tail 14, (by kernel_rfl)
            change wpList _ _ _ _ _ wr.drew
            go_wp2_with fail
            go_roundw
            case rel => exact ⟨j + 1, _, hjn, by go_num, Hset.out.drewN 1, Hrl.out, Hc5.out.drewN 1, grown_setdrew Hg5.out 1⟩
            case measure => simp [intOf]; omega
          · have HF := Lib.hid (Hown.out.mono hs2)
            go_wp2_with fail
            go_ret
            exact ⟨_, T, rfl, HF.out.self, Hcu.out, Hgr.out⟩
      · have d2 : ((x : Int) == 2) = false := beq_eq_false_iff_ne.2 (by omega)
        clear hln
        go_wp2_with fail
        go_ret
        exact ⟨_, T, rfl, Hox.out.self, Hcx.out, Hgx.out⟩
end Go.Proofs.YtgcemkpinmjaeaaDoor
