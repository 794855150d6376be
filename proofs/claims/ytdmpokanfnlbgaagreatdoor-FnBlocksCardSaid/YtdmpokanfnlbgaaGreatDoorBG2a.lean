/- Parts of the proof of a law, joined: D4b D10 BlkW ILang. -/
import Derived.Deep.RegionLaw
import Derived.Test.YtdmpokanfnlbgaaGreatDoorProg
import Derived.BigQuiet
import Derived.Test.YtdmpokanfnlbgaaGreatDoorBD4
import Derived.Test.YtdmpokanfnlbgaaGreatDoorBG0a
import Derived.Test.YtdmpokanfnlbgaaGreatDoorBD3c
import Derived.Test.YtdmpokanfnlbgaaGreatDoorBThA
import Derived.Test.YtdmpokanfnlbgaaGreatDoorBSBlockG
import Derived.Test.YtdmpokanfnlbgaaGreatDoorBG1b
import Derived.Test.YtdmpokanfnlbgaaGreatDoorBIStates
namespace Go.Proofs.YtdmpokanfnlbgaaGreatDoor
open Go.RowKit
set_option linter.all false
theorem bent_set {T : List (List Int)} {i j : Nat} {x : Int} (h : Bent T) (hi : i < T.length) : Bent (T.set i (T[i].set j x)) := by
  refine ⟨by rw [List.length_set]; exact h.1, by rw [List.length_set]; exact h.2.1, fun r hr => ?_⟩
  rcases List.mem_or_eq_of_mem_set hr with hr | rfl
  · exact h.2.2 r hr
  · rw [List.length_set]; exact h.2.2 _ (List.getElem_mem _)
theorem grown_far {w W w' : World} {b g : Nat} (h : w.grownBy W (some b)) (k : W.grownBy w' (some g)) (hg : w.heap.size ≤ g) : w.grownBy w' (some b) := by
  refine ⟨k.os.trans h.os, ?_, k.output.trans h.output, Nat.le_trans h.size k.size, fun i hi hne => (k.block i (Nat.lt_of_lt_of_le hi h.size) (by intro e; injection e; omega)).trans (h.block i hi hne)⟩
  first | exact k.tape.trans h.tape | exact Nat.le_trans h.tape k.tape | exact h.tape.trans k.tape
theorem bent_push {T : List (List Int)} (h : Bent T) (h4 : T.length ≤ 4) : Bent (T ++ [[1]]) := by
  refine ⟨by simp, by simp; omega, fun r hr => ?_⟩
  rcases List.mem_append.1 hr with hr | hr
  · exact h.2.2 r hr
  · simp at hr; subst hr; simp
set_option maxRecDepth 20000 in
set_option maxHeartbeats 6400000 in
theorem l4Bent_any (b lo : Nat) (w : World) (h : Cur w b lo) :
    Calls Tryz.prog 28 #[.pointer (some ⟨b, 0, none⟩)] w fun e w' => ∃ v T, e = .returned v ∧ OIntss w' w.heap.size v T.length T ∧ Bent T ∧ Cur w' b lo ∧ w.grownBy w' (some b) := by
  have hbl := h.lt.2
  have H := Lib.hid h
  clear h
  go_enter Tryz.func28, Tryz.ntmps28
  go_wp2_with (go_at_call 42; refine (l4Draw_any b lo 4 _ H.out (by omega) (by omega)).mono ?_; rintro e w1 ⟨v1, T, rfl, ho1, hT, hc1, hg1⟩; obtain ⟨g, cap, rfl⟩ := ho1.head (by have := hT.1.1; omega); have Ho1 := Lib.hid ho1; have HT := Lib.hid hT.1; have hT4 := hT.2; have Hc1 := Lib.hid hc1; have Hg1 := Lib.hid hg1; clear ho1 hc1 hg1 hT)
  refine (l1Below_any b lo 16 _ Hc1.out (by omega) (by omega)).mono ?_
  rintro e w2 ⟨x, hx, rfl, hc2, hg2⟩
  have Hc2 := Lib.hid hc2
  have Hg2 := Lib.hid (Hg1.out.trans hg2)
  have Ho2 := Lib.hid (Ho1.out.away hg2 hbl)
  have hs2 := Hg2.out.size
  clear hc2 hg2
  have hT1 := HT.out.1
  by_cases hx0 : x = 0
  · subst hx0
    have hti : 0 < T.length := by omega
    obtain ⟨nr, hnr⟩ : ∃ nr, T[0].length = nr := ⟨_, rfl⟩
    have hri := hnr
    have hnr1 : 0 < nr := by have := (HT.out.2.2 T[0] (List.getElem_mem _)).1; omega
    obtain ⟨gk, ck, h5, ho, hne, hlo⟩ := Ho2.out.rowAt (List.getElem?_eq_getElem hti) (by omega)
    rw [hri] at h5
    have h6 := ho.cell 0 (by omega)
    have h7 := ho.frozen 0
    have hgn : g < w2.heap.size := Ho2.out.lt.2
    have hgne : some g ≠ some b := by have := Ho2.out.lt.1; intro e; injection e; omega
    have hgk : gk < w2.heap.size := ho.lt.2
    have HO := Lib.hid ho
    have hset := fun (W : World) (hw : OIntss W w.heap.size (.slice (some ⟨g, 0, none⟩) T.length cap) T.length T) (hc : W.cell? ⟨g, 0, none⟩ = some (.slice (some ⟨gk, 0, none⟩) T[0].length ck)) (ho : OInts W w.heap.size (.slice (some ⟨gk, 0, none⟩) T[0].length ck) T[0].length T[0]) (x : Int) => hw.setIn (List.getElem?_eq_getElem hti) hc ho 0 x
    rw [hri] at hset
    have HSet := Lib.hid hset
    have HB4 := Lib.hid (((Below.refl w2.heap.size w2).alloc (Nat.le_refl _) (.cells #[.int .i64 (-1), .int .i64 1000000, .int .i64 1000001, .int .i64 9] 3)).drew)
    have Hri := Lib.hid hri
    have HLit : Hid (OInts (w2.alloc (.cells #[.int .i64 (-1), .int .i64 1000000, .int .i64 1000001, .int .i64 9] 3)).drew w2.heap.size (.slice (some ⟨w2.heap.size, 0, none⟩) 4 4) 4 [-1, 1000000, 1000001, 9]) := (OInts.lit_ (w := w2) (arr := #[.int .i64 (-1), .int .i64 1000000, .int .i64 1000001, .int .i64 9]) (n := 4) (xs := [-1, 1000000, 1000001, 9]) (Nat.le_refl _) rfl rfl (by omega)).drewN 1
    have HRS := Lib.hid (fun x => bent_set (j := 0) (x := x) HT.out hti)
    clear hset ho h7 hri hnr
    go_wp2_with fail
    go_region_law (first
      | (go_simp; go_at_call 58; refine (l1PickInt_any b lo w2.heap.size 4 4 _ [-1, 1000000, 1000001, 9] _ (Hc2.out.keep HB4.out) HLit.out Hc2.out.lt.2 (by omega) (by omega)).mono ?_; rintro e w5 ⟨d0, hd0, rfl, hc5, hg5⟩; have Hc5 := Lib.hid hc5; have Hg5 := Lib.hid (Hg2.out.trans ((grown_of_below HB4.out).trans hg5)); have Ho5 := Lib.hid ((Ho2.out.keep HB4.out).away hg5 hbl); have HOk := Lib.hid ((HO.out.keep HB4.out).away hg5 hbl); have q5 := hg5.cell ((HB4.out.cell (p := ⟨g, 0, none⟩) hgn).trans h5) hgne; have q6 := HOk.out.cell 0 (by rw [Hri.out]; exact hnr1); have q7 := HOk.out.frozen 0; clear hc5 hg5 hd0))
    all_goals
      have Ht := Lib.hid (HSet.out _ Ho5.out q5 (by have h9 := HOk.out; rw [Hri.out] at h9; exact h9) d0)
      have HRT := Lib.hid (HRS.out d0)
      have HUL : Hid ((T.set 0 (T[0].set 0 d0)).length = T.length) := by show _ = _; rw [List.length_set]
      have Hc6 := Lib.hid (Hc5.out.grown (only_setCell (World.grownBy.refl w5 (some gk)) rfl (p := ⟨gk, 0, none⟩) (.int .i64 d0)) (fun g e => by injection e; omega))
      have Hg6 := Lib.hid (grown_new Hg5.out (p := ⟨gk, 0, none⟩) (by show _ ≤ gk; omega) (.int .i64 d0))
      generalize w5.setCell ⟨gk, 0, none⟩ (.int .i64 d0) = w6 at Ht Hc6 Hg6 ⊢
      generalize T.set 0 (T[0].set 0 d0) = U at Ht HRT HUL
      clear q5 q6 q7 Ho5 HOk Hc5 Hg5 HSet h5 h6 HRS
      go_wp2_with fail
      go_ret
      exact ⟨_, U, rfl, by rw [HUL.out]; exact Ht.out, HRT.out, Hc6.out, Hg6.out⟩
  have d0 : ((x : Int) == 0) = false := beq_eq_false_iff_ne.2 (by omega)
  by_cases hx1 : x = 1
  · subst hx1
    have HR := Lib.hid (OInts.lit_ (w := w2) (lo := w2.heap.size) (arr := #[.int .i64 1]) (n := 1) (xs := [1]) (Nat.le_refl _) rfl rfl (by omega))
    have HB3 := Lib.hid ((Below.refl w2.heap.size w2).alloc (Nat.le_refl _) (.cells #[.int .i64 1] 3))
    have HRT := Lib.hid (bent_push HT.out hT4)
    go_wp2_with (at_builtin; refine wpList_push_rowC _ _ w2 rfl (.tmp 19) (.tmp 21) rfl w.heap.size _ T.length T rfl Ho2.out (by omega) hs2 HB3.out 1 [1] HR.out _ ?_ rfl ?_; (first | rfl | simp); intro v6 w6 ho6 hg6 hn6; have hg7 : (w2.alloc (.cells #[.int .i64 1] 3)).grownBy w6 (some g) := hg6; have HO6 := Lib.hid ho6; have HG6 := Lib.hid (grown_far (Hg2.out.trans (grown_of_below HB3.out)) hg7 Ho2.out.lt.1); have HC6 := Lib.hid ((Hc2.out.keep HB3.out).grown hg7 (fun q e => (by have h1 := Ho2.out.lt.1; injection e; omega))); clear hg7; clear ho6 hg6 hn6)
    go_ret
    exact ⟨_, T ++ [[1]], rfl, by simpa using HO6.out, HRT.out, HC6.out, HG6.out⟩
  · have d1 : ((x : Int) == 1) = false := beq_eq_false_iff_ne.2 (by omega)
    go_wp2_with fail
    go_ret
    exact ⟨_, T, rfl, Ho2.out, HT.out, Hc2.out, Hg2.out⟩
end Go.Proofs.YtdmpokanfnlbgaaGreatDoor

namespace Go.Proofs.YtdmpokanfnlbgaaGreatDoor
open Go.RowKit
set_option linter.all false
/- What the law of blocks draws. -/
def twoB (w : World) (e : Ending) (w' : World) : Prop := ∃ (v u : Value) (A B : List (List Int)), e = .returned (.tuple #[v, u]) ∧ OIntss w' w.heap.size v A.length A ∧ OIntss w' w.heap.size u B.length B ∧ Below w.heap.size w w'
set_option maxRecDepth 20000 in
set_option maxHeartbeats 3200000 in
theorem drawBlk_any (ao : Option Addr) (n c : Nat) (w : World) (h : Bytes w ao n) :
    Calls Tryz.prog 5 #[.slice ao n c] w fun e w' => ∃ (v : Value) (T : List (List Int)), e = .returned v ∧ OIntss w' w.heap.size v T.length T ∧ Below w.heap.size w w' := by
  have H := Lib.hid h
  clear h
  go_enter Tryz.func5, Tryz.ntmps5
  go_wp2_with (first
    | (go_at_call 28; refine (l4Bent_any _ _ _ Hc1.out).mono ?_; rintro e w2 ⟨vX, TX, rfl, hoX, hBX, hc2, hg2⟩; obtain ⟨gX, capX, rfl⟩ := hoX.head (by have := hBX.1; omega); have HBX := Lib.hid hBX; have hbl2 := hc2.lt.2; have Hc2 := Lib.hid hc2; have Hg2 := Lib.hid (Hg1.out.trans hg2); have HoX_2 := Lib.hid hoX; clear hoX hBX hc2 hg2)
    | (go_at_call 29; refine (l1New_any _ _ _ _ H.out).mono ?_; rintro e w1 ⟨rfl, hc1, hb1⟩; have hbl1 := hc1.lt.2; have Hc1 := Lib.hid hc1; have Hb1 := Lib.hid hb1; have Hg1 : Hid (w1.grownBy w1 (some w.heap.size)) := World.grownBy.refl _ _; clear hc1 hb1))
  have HBL := Lib.hid (Hb1.out.trans (below_of_grown Hg2.out (Nat.le_refl _) Hb1.out.size))
  have HS1 := Hb1.out.size
  go_ret
  exact ⟨_, _, rfl, HoX_2.out.mono HS1, HBL.out⟩
set_option maxRecDepth 20000 in
set_option maxHeartbeats 3200000 in
theorem drawJoin_any (ao : Option Addr) (n c : Nat) (w : World) (h : Bytes w ao n) :
    Calls Tryz.prog 9 #[.slice ao n c] w fun e w' => twoB w e w' := by
  have H := Lib.hid h
  clear h
  go_enter Tryz.func9, Tryz.ntmps9
  go_wp2_with (first
    | (go_at_call 28; refine (l4Bent_any _ _ _ Hc2.out).mono ?_; rintro e w3 ⟨vY, TY, rfl, hoY, hBY, hc3, hg3⟩; obtain ⟨gY, capY, rfl⟩ := hoY.head (by have := hBY.1; omega); have HBY := Lib.hid hBY; have hbl3 := hc3.lt.2; have Hc3 := Lib.hid hc3; have Hg3 := Lib.hid (Hg2.out.trans hg3); have HoX_3 := Lib.hid (HoX_2.out.away hg3 hbl1); have HoY_3 := Lib.hid hoY; clear hoY hBY hc3 hg3)
    | (go_at_call 28; refine (l4Bent_any _ _ _ Hc1.out).mono ?_; rintro e w2 ⟨vX, TX, rfl, hoX, hBX, hc2, hg2⟩; obtain ⟨gX, capX, rfl⟩ := hoX.head (by have := hBX.1; omega); have HBX := Lib.hid hBX; have hbl2 := hc2.lt.2; have Hc2 := Lib.hid hc2; have Hg2 := Lib.hid (Hg1.out.trans hg2); have HoX_2 := Lib.hid hoX; clear hoX hBX hc2 hg2)
    | (go_at_call 29; refine (l1New_any _ _ _ _ H.out).mono ?_; rintro e w1 ⟨rfl, hc1, hb1⟩; have hbl1 := hc1.lt.2; have Hc1 := Lib.hid hc1; have Hb1 := Lib.hid hb1; have Hg1 : Hid (w1.grownBy w1 (some w.heap.size)) := World.grownBy.refl _ _; clear hc1 hb1))
  have HBL := Lib.hid (Hb1.out.trans (below_of_grown Hg3.out (Nat.le_refl _) Hb1.out.size))
  have HS1 := Hb1.out.size
  have HS2 := Hg2.out.size
  go_ret2
  exact ⟨_, _, _, _, rfl, HoX_3.out.mono HS1, HoY_3.out.mono (by omega), HBL.out⟩
set_option maxRecDepth 20000 in
set_option maxHeartbeats 3200000 in
theorem drawPair_any (ao : Option Addr) (n c : Nat) (w : World) (h : Bytes w ao n) :
    Calls Tryz.prog 12 #[.slice ao n c] w fun e w' => twoB w e w' := by
  have H := Lib.hid h
  clear h
  go_enter Tryz.func12, Tryz.ntmps12
  go_wp2_with (first
    | (go_at_call 28; refine (l4Bent_any _ _ _ Hc2.out).mono ?_; rintro e w3 ⟨vY, TY, rfl, hoY, hBY, hc3, hg3⟩; obtain ⟨gY, capY, rfl⟩ := hoY.head (by have := hBY.1; omega); have HBY := Lib.hid hBY; have hbl3 := hc3.lt.2; have Hc3 := Lib.hid hc3; have Hg3 := Lib.hid (Hg2.out.trans hg3); have HoX_3 := Lib.hid (HoX_2.out.away hg3 hbl1); have HoY_3 := Lib.hid hoY; clear hoY hBY hc3 hg3)
    | (go_at_call 42; refine (l4Draw_any _ _ 3 _ Hc1.out (by omega) (by omega)).mono ?_; rintro e w2 ⟨vX, TX, rfl, hoX, hBX, hc2, hg2⟩; obtain ⟨gX, capX, rfl⟩ := hoX.head (by have := hBX.1.1; omega); have HBX := Lib.hid hBX; have hbl2 := hc2.lt.2; have Hc2 := Lib.hid hc2; have Hg2 := Lib.hid (Hg1.out.trans hg2); have HoX_2 := Lib.hid hoX; clear hoX hBX hc2 hg2)
    | (go_at_call 29; refine (l1New_any _ _ _ _ H.out).mono ?_; rintro e w1 ⟨rfl, hc1, hb1⟩; have hbl1 := hc1.lt.2; have Hc1 := Lib.hid hc1; have Hb1 := Lib.hid hb1; have Hg1 : Hid (w1.grownBy w1 (some w.heap.size)) := World.grownBy.refl _ _; clear hc1 hb1))
  have HBL := Lib.hid (Hb1.out.trans (below_of_grown Hg3.out (Nat.le_refl _) Hb1.out.size))
  have HS1 := Hb1.out.size
  have HS2 := Hg2.out.size
  go_ret2
  exact ⟨_, _, _, _, rfl, HoX_3.out.mono HS1, HoY_3.out.mono (by omega), HBL.out⟩
set_option maxRecDepth 20000 in
set_option maxHeartbeats 3200000 in
theorem drawPowM_any (ao : Option Addr) (n c : Nat) (w : World) (h : Bytes w ao n) :
    Calls Tryz.prog 43 #[.slice ao n c] w fun e w' => ∃ (v : Value) (T : List (List Int)) (a : Int), e = .returned (.tuple #[v, .int .i64 a]) ∧ OIntss w' w.heap.size v T.length T ∧ Below w.heap.size w w' := by
  have H := Lib.hid h
  clear h
  go_enter Tryz.func43, Tryz.ntmps43
  go_wp2_with (first
    | (go_at_call 58; refine (l1PickInt_any _ _ w3.heap.size 6 6 _ [0, 0, 0, 0, 26, -6] _ (Hc3.out.keep ((Below.refl _ _).alloc (Nat.le_refl _) _)) (OInts.lit_ (Nat.le_refl _) rfl rfl (by omega)) hbl3 (by omega) (by omega)).mono ?_; rintro e w4 ⟨p, hp, rfl, hc4, hg4'⟩; have hg4 := (gr_alloc (World.grownBy.refl w3 (some w.heap.size)) _).trans hg4'; clear hg4'; have hbl4 := hc4.lt.2; have Hc4 := Lib.hid hc4; have Hg4 := Lib.hid (Hg3.out.trans hg4); have HoX_4 := Lib.hid (HoX_3.out.away hg4 hbl1); clear hc4 hg4)
    | (go_at_call 37; refine (l1Below_any _ _ 6 _ Hc2.out (by omega) (by omega)).mono ?_; rintro e w3 ⟨x, hx, rfl, hc3, hg3⟩; have hbl3 := hc3.lt.2; have Hc3 := Lib.hid hc3; have Hg3 := Lib.hid (Hg2.out.trans hg3); have HoX_3 := Lib.hid (HoX_2.out.away hg3 hbl1); clear hc3 hg3)
    | (go_at_call 28; refine (l4Bent_any _ _ _ Hc1.out).mono ?_; rintro e w2 ⟨vX, TX, rfl, hoX, hBX, hc2, hg2⟩; obtain ⟨gX, capX, rfl⟩ := hoX.head (by have := hBX.1; omega); have HBX := Lib.hid hBX; have hbl2 := hc2.lt.2; have Hc2 := Lib.hid hc2; have Hg2 := Lib.hid (Hg1.out.trans hg2); have HoX_2 := Lib.hid hoX; clear hoX hBX hc2 hg2)
    | (go_at_call 29; refine (l1New_any _ _ _ _ H.out).mono ?_; rintro e w1 ⟨rfl, hc1, hb1⟩; have hbl1 := hc1.lt.2; have Hc1 := Lib.hid hc1; have Hb1 := Lib.hid hb1; have Hg1 : Hid (w1.grownBy w1 (some w.heap.size)) := World.grownBy.refl _ _; clear hc1 hb1))
  have HBL := Lib.hid (Hb1.out.trans (below_of_grown Hg4.out (Nat.le_refl _) Hb1.out.size))
  have HS1 := Hb1.out.size
  go_ret2
  exact ⟨_, _, _, rfl, HoX_4.out.mono HS1, HBL.out⟩
set_option maxHeartbeats 800000 in
theorem drawPowG_any (ao : Option Addr) (n c : Nat) (w : World) (h : Bytes w ao n) :
    Calls Tryz.prog 15 #[.slice ao n c] w fun e w' => ∃ (v : Value) (T : List (List Int)) (a : Int), e = .returned (.tuple #[v, .int .i64 a]) ∧ OIntss w' w.heap.size v T.length T ∧ Below w.heap.size w w' := by
  have H := Lib.hid h
  clear h
  go_enter Tryz.func15, Tryz.ntmps15
  go_wp2_with fail
  refine (drawPowM_any _ _ _ _ H.out).mono ?_
  rintro e w1 ⟨v, T, a, rfl, ho, hb⟩
  have HO := Lib.hid ho
  have HB := Lib.hid hb
  clear ho hb
  go_wp2_with fail
  go_ret2
  exact ⟨_, _, _, rfl, HO.out, HB.out⟩
set_option maxRecDepth 20000 in
set_option maxHeartbeats 3200000 in
theorem drawIsBlk_any (ao : Option Addr) (n c : Nat) (w : World) (h : Bytes w ao n) :
    Calls Tryz.prog 18 #[.slice ao n c] w (twoB w) := by
  have H := Lib.hid h
  clear h
  go_enter Tryz.func18, Tryz.ntmps18
  go_wp2_with fail
  refine (l1New_any _ _ _ _ H.out).mono ?_
  rintro e w1 ⟨rfl, hc1, hb1⟩
  have hbl := hc1.lt.2
  have Hc1 := Lib.hid hc1
  have Hb1 := Lib.hid hb1
  have hs1 := hb1.size
  clear hc1 hb1
  go_wp2_with fail
  refine (l4Bent_any _ _ _ Hc1.out).mono ?_
  rintro e w2 ⟨v, T, rfl, ho, hT, hc2, hg2⟩
  obtain ⟨av, cv, rfl, _⟩ := ho.form
  have Ho2 := Lib.hid ho
  have Hc2 := Lib.hid hc2
  have Hg2 := Lib.hid hg2
  have hs2 := hg2.size
  clear ho hT hc2 hg2
  go_wp2_with fail
  refine (sBlockG_any _ _ _ T _ Ho2.out.readI).mono ?_
  rintro e w3 ⟨u, rfl, ho3, hb3⟩
  obtain ⟨au, cu, rfl, _⟩ := ho3.form
  have Ho3 := Lib.hid (Ho2.out.keep hb3)
  have Hu3 := Lib.hid ho3
  have Hc3 := Lib.hid (Hc2.out.keep hb3)
  have Hg3 := Lib.hid (Hg2.out.trans (grown_of_below hb3))
  clear ho3 hb3
  cases hk : blkOk T
  · clear hk
    go_wp2_with fail
    refine (l4Bent_any _ _ _ Hc3.out).mono ?_
    rintro e w4 ⟨v4, T4, rfl, ho4, hT4, hc4, hg4⟩
    have HB4 := Lib.hid (Hb1.out.trans (below_of_grown (Hg3.out.trans hg4) (Nat.le_refl _) hs1))
    have Ho4 := Lib.hid (Ho3.out.away hg4 hbl)
    have hs3 := Hg3.out.size
    go_wp2_with fail
    go_ret2
    exact ⟨_, _, T, T4, rfl, Ho4.out.mono hs1, ho4.mono (by omega), HB4.out⟩
  · clear hk
    go_wp2_with fail
    refine (l1Once_any _ _ 3 _ Hc3.out (by omega) (by omega)).mono ?_
    rintro e w4 ⟨t, rfl, hc4, hg4⟩
    have Ho4 := Lib.hid (Ho3.out.away hg4 hbl)
    have Hu4 := Lib.hid (Hu3.out.away hg4 (by omega))
    have Hc4 := Lib.hid hc4
    have Hg4 := Lib.hid (Hg3.out.trans hg4)
    clear hc4 hg4
    cases t
    · have HB4 := Lib.hid (Hb1.out.trans (below_of_grown Hg4.out (Nat.le_refl _) hs1))
      go_wp2_with fail
      go_ret2
      exact ⟨_, _, T, _, rfl, Ho4.out.mono hs1, Hu4.out.mono (by omega), HB4.out⟩
    · go_wp2_with fail
      refine (l4Bent_any _ _ _ Hc4.out).mono ?_
      rintro e w5 ⟨v5, T5, rfl, ho5, hT5, hc5, hg5⟩
      have HB5 := Lib.hid (Hb1.out.trans (below_of_grown (Hg4.out.trans hg5) (Nat.le_refl _) hs1))
      have Ho5 := Lib.hid (Ho4.out.away hg5 hbl)
      have hs4 := Hg4.out.size
      go_wp2_with fail
      go_ret2
      exact ⟨_, _, T, T5, rfl, Ho5.out.mono hs1, ho5.mono (by omega), HB5.out⟩
set_option maxRecDepth 20000 in
set_option maxHeartbeats 3200000 in
theorem drawBlkW_any (ao : Option Addr) (n c : Nat) (w : World) (h : Bytes w ao n) :
    Calls Tryz.prog 8 #[.slice ao n c] w fun e w' => ∃ (K : Int) (v : Value) (F : List ByteArray) (a : Nat), e = .returned (.tuple #[.agg #[.int .i64 K, v], .int .i64 a]) ∧ OStrs w' w.heap.size v F.length F ∧ (∀ f ∈ F, f.size ≤ 4) ∧ a ≤ 3 ∧ Below w.heap.size w w' := by
  have hne : ∀ W : World, w.heap.size < W.heap.size → some w.heap.size ≠ some W.heap.size := fun W h e => by injection e; omega
  have HZ0 := Lib.hid (Blk.new w 30 #[.int .i64 0, .slice none 0 0])
  have HB0 := Lib.hid (belowA w (.cells #[.int .i64 0, .slice none 0 0] 30))
  have H := Lib.hid (h.keep HB0.out)
  have HNE := Lib.hid hne
  clear h hne
  go_enter Tryz.func8, Tryz.ntmps8
  go_wp2_with fail
  generalize w.alloc (.cells #[.int .i64 0, .slice none 0 0] 30) = w0 at HZ0 HB0 H ⊢
  refine (l1New_any _ _ _ _ H.out).mono ?_
  rintro e w1 ⟨rfl, hc1, hb1⟩
  have hz0 : w.heap.size < w0.heap.size := HZ0.out.lt
  have HNE0 := Lib.hid (HNE.out w0 hz0)
  have Hc1 := Lib.hid hc1
  have HB1 := Lib.hid (HB0.out.trans (hb1.mono (Nat.le_of_lt hz0)))
  have HZ1 := Lib.hid (HZ0.out.keep hb1)
  have hbl1 := hc1.lt.2
  clear hc1 hb1
  go_wp2_with fail
  refine (l3Bent_any _ _ _ Hc1.out).mono ?_
  rintro e w2 ⟨K, v, F, rfl, ho, hF, hc2, hg2⟩
  obtain ⟨av, cv, rfl, _⟩ := ho.form
  have Hc2 := Lib.hid hc2
  have HG2 := Lib.hid hg2
  have HZ2 := Lib.hid (HZ1.out.grown hg2 HNE0.out)
  have HO2 := Lib.hid ho
  have HF := Lib.hid hF
  clear ho hF hc2 hg2
  go_wp2_with fail
  refine (l1Below_any _ _ 3 _ Hc2.out (by omega) (by omega)).mono ?_
  rintro e w3 ⟨x, hx, rfl, hc3, hg3⟩
  have Hc3 := Lib.hid hc3
  have HG3 := Lib.hid (HG2.out.trans hg3)
  have HZ3 := Lib.hid (HZ2.out.grown hg3 HNE0.out)
  have HO3 := Lib.hid (HO2.out.away hg3 hbl1)
  clear hc3 hg3
  go_wp2_with fail
  refine (l1Once_any _ _ 12 _ Hc3.out (by omega) (by omega)).mono ?_
  rintro e w4 ⟨t, rfl, hc4, hg4⟩
  have HG4 := Lib.hid (HG3.out.trans hg4)
  have HZ4 := Lib.hid (HZ3.out.grown hg4 HNE0.out)
  have HO4 := Lib.hid (HO3.out.away hg4 hbl1)
  clear hc4 hg4
  go_wp2_with fail
  refine (l1Bit_any t _).mono ?_
  rintro e w' ⟨rfl, rfl⟩
  obtain ⟨a, ha, ha3⟩ : ∃ a : Nat, 1 + (x : Int) - bit t = a ∧ a ≤ 3 := ⟨(1 + (x : Int) - bit t).toNat, by cases t <;> simp [bit] <;> omega, by cases t <;> simp [bit] <;> omega⟩
  have hw1 : w.heap.size < w1.heap.size := HZ1.out.lt
  have HNR := Lib.hid (strs_ne HO4.out hw1)
  have HB4 := Lib.hid (HB1.out.trans (below_of_grown HG4.out (Nat.le_of_lt hz0) HB1.out.size))
  have z0 := HZ4.out.cell 0
  have z1 := HZ4.out.cell 1
  change _ = some _ at z0
  change _ = some _ at z1
  have f0 := HZ4.out.frozen 0
  have f1 := HZ4.out.frozen 1
  have hwr : wrap64 (1 + (x : Int) - bit t) = a := by rw [ha]; exact wrap_id (by omega)
  go_wp2_with fail
  refine bodyPost_ret (v := .tuple #[.agg #[.int .i64 K, .slice av F.length cv], .int .i64 a]) (by simp [results, Tryz.results8, go_sem, *]) rfl ?_
  exact ⟨K, _, F, a, rfl, ((HO4.out.mono (Nat.le_of_lt hw1)).setFar' HNR.out _).setFar' HNR.out _, HF.out, ha3, below_sh2 HB4.out (Nat.le_refl _) _ _⟩
end Go.Proofs.YtdmpokanfnlbgaaGreatDoor

namespace Go.Proofs.YtdmpokanfnlbgaaGreatDoor
open Go.RowKit
set_option linter.all false
set_option maxHeartbeats 800000 in
theorem sPowG_any (p : Option Addr) (n c : Nat) (m : List (List Int)) (t : Int) (w : World) (h : Intss w p n m) :
    Calls Tryz.prog 17 #[.slice p n c, .int .i64 t] w fun e w' => ∃ v, e = .returned (.tuple #[v, .bool (pwgOk m t)]) ∧ OIntss w' w.heap.size v (pwgV m t).length (pwgV m t) ∧ Below w.heap.size w w' := by
  have H := Lib.hid h
  clear h
  cases ht : inR t 1 30
  · have hk : Hid (pwgOk m t = false) := by show _ = _; simp [pwgOk, ht]
    have hv : Hid (pwgV m t = []) := by show _ = _; simp [pwgV, ht]
    go_enter Tryz.func17, Tryz.ntmps17
    go_wp2_with (go_at_call 33; refine (l1In_any _ _ _ _).mono ?_; rintro e w' ⟨rfl, rfl⟩)
    go_ret2
    rw [hk.out, hv.out]
    exact ⟨_, rfl, OIntss.empty _ _ (Nat.le_refl _), (Below.refl _ _).alloc (Nat.le_refl _) _⟩
  · have hk : Hid (pwgOk m t = (powM m t).isSome) := by show _ = _; simp [pwgOk, ht]
    have hv : Hid (pwgV m t = (powM m t).getD []) := by show _ = _; simp [pwgV, ht]
    go_enter Tryz.func17, Tryz.ntmps17
    go_wp2_with (go_at_call 33; refine (l1In_any _ _ _ _).mono ?_; rintro e w' ⟨rfl, rfl⟩)
    refine (sPowM_any _ _ _ m t _ H.out).mono ?_
    rintro e w1 ⟨v, rfl, ho, hb⟩
    rw [← hv.out] at ho
    rw [← hk.out]
    have HO := Lib.hid ho
    have HB := Lib.hid hb
    clear ho hb ht
    go_wp2_with fail
    go_ret2
    exact ⟨_, rfl, HO.out, HB.out⟩
set_option maxHeartbeats 800000 in
theorem iPowG_any (p : Option Addr) (n c : Nat) (m : List (List Int)) (t : Int) (w : World) (h : Intss w p n m) :
    Calls Tryz.prog 16 #[.slice p n c, .int .i64 t] w fun e w' => ∃ v, e = .returned (.tuple #[v, .bool (pwgOk m t)]) ∧ OIntss w' w.heap.size v (pwgV m t).length (pwgV m t) ∧ Below w.heap.size w w' := by
  have H := Lib.hid h
  clear h
  by_cases h1 : t < 1
  · have ht : inR t 1 30 = false := inR_no (.inl h1)
    have hk : Hid (pwgOk m t = false) := by show _ = _; simp [pwgOk, ht]
    have hv : Hid (pwgV m t = []) := by show _ = _; simp [pwgV, ht]
    have hd : decide (t < 1) = true := decide_eq_true h1
    clear ht
    go_enter Tryz.func16, Tryz.ntmps16
    go_wp2_with fail
    go_ret2
    rw [hk.out, hv.out]
    exact ⟨_, rfl, OIntss.none_ _ _, Below.refl _ _⟩
  · have hd : decide (t < 1) = false := decide_eq_false h1
    have hq : Hid (pwgOk m t = (powM m t).isSome ∧ pwgV m t = (powM m t).getD []) := by
      show _ ∧ _
      by_cases h30 : t ≤ 30
      · have ht : inR t 1 30 = true := inR_mk ⟨by omega, h30⟩
        simp [pwgOk, pwgV, ht]
      · have ht : inR t 1 30 = false := inR_no (.inr (by omega))
        have hn : powM m t = none := powM_none2 (inR_no (.inr (by omega)))
        simp [pwgOk, pwgV, ht, hn]
    go_enter Tryz.func16, Tryz.ntmps16
    go_wp2_with fail
    refine (iPowM_any _ _ _ m t _ H.out).mono ?_
    rintro e w1 ⟨v, rfl, ho, hb⟩
    rw [← hq.out.2] at ho
    rw [← hq.out.1]
    have HO := Lib.hid ho
    have HB := Lib.hid hb
    clear ho hb
    go_wp2_with fail
    go_ret2
    exact ⟨_, rfl, HO.out, HB.out⟩
set_option maxHeartbeats 800000 in
theorem sIsBlk_any (p : Option Addr) (n c : Nat) (a : List (List Int)) (p' : Option Addr) (n' c' : Nat) (b : List (List Int)) (w : World) (h : Intss w p n a) (h' : Intss w p' n' b) :
    Calls Tryz.prog 24 #[.slice p n c, .slice p' n' c'] w fun e w' => e = .returned (.bool (isBlk a b)) ∧ Below w.heap.size w w' := by
  have HA := Lib.hid h
  have HB := Lib.hid h'
  clear h h'
  obtain ⟨ok, hok⟩ : ∃ t, blkOk a = t := ⟨_, rfl⟩
  have HC := sBlockG_any p n c a w HA.out
  rw [hok] at HC
  have HCK := Lib.hid HC
  have HOK := Lib.hid hok
  clear HC hok
  go_enter Tryz.func24, Tryz.ntmps24
  go_wp2_with fail
  refine HCK.out.mono ?_
  rintro e w1 ⟨v, rfl, ho, hb⟩
  obtain ⟨av, cv, rfl, hr⟩ := ho.form
  have HR := Lib.hid hr
  have HB1 := Lib.hid hb
  have HB2 := Lib.hid (HB.out.keep hb)
  clear ho hr hb
  cases ok
  · have hk : Hid (isBlk a b = false) := by show _ = _; unfold isBlk; rw [HOK.out]; rfl
    go_wp2_with fail
    go_ret
    exact ⟨ret_bool hk.out.symm, HB1.out⟩
  · have hk : Hid (isBlk a b = eqL (blkV a) b) := by show _ = _; unfold isBlk; rw [HOK.out]; rfl
    go_wp2_with fail
    refine (ofD (sEqMat_any _ _ _ (blkV a) _ _ _ b _ HR.out HB2.out)).mono ?_
    rintro e w2 ⟨rfl, hb2⟩
    have HB3 := Lib.hid (step2 HB1.out hb2)
    clear hb2
    go_wp2_with fail
    go_ret
    exact ⟨ret_bool hk.out.symm, HB3.out⟩
set_option maxHeartbeats 800000 in
theorem iIsBlk_any (p : Option Addr) (n c : Nat) (a : List (List Int)) (p' : Option Addr) (n' c' : Nat) (b : List (List Int)) (w : World) (h : Intss w p n a) (h' : Intss w p' n' b) :
    Calls Tryz.prog 23 #[.slice p n c, .slice p' n' c'] w fun e w' => e = .returned (.bool (isBlk a b)) ∧ Below w.heap.size w w' := by
  have HA := Lib.hid h
  have HB := Lib.hid h'
  clear h h'
  obtain ⟨ok, hok⟩ : ∃ t, blkOk a = t := ⟨_, rfl⟩
  have HC := iBlockG_any p n c a w HA.out
  rw [hok] at HC
  have HCK := Lib.hid HC
  have HOK := Lib.hid hok
  clear HC hok
  go_enter Tryz.func23, Tryz.ntmps23
  go_wp2_with fail
  refine HCK.out.mono ?_
  rintro e w1 ⟨v, rfl, ho, hb⟩
  obtain ⟨av, cv, rfl, hr⟩ := ho.form
  have HR := Lib.hid hr
  have HB1 := Lib.hid hb
  have HB2 := Lib.hid (HB.out.keep hb)
  clear ho hr hb
  cases ok
  · have hk : Hid (isBlk a b = false) := by show _ = _; unfold isBlk; rw [HOK.out]; rfl
    go_wp2_with fail
    go_ret
    exact ⟨ret_bool hk.out.symm, HB1.out⟩
  · have hk : Hid (isBlk a b = eqL (blkV a) b) := by show _ = _; unfold isBlk; rw [HOK.out]; rfl
    go_wp2_with fail
    refine (ofD (iEqMat_any _ _ _ (blkV a) _ _ _ b _ HR.out HB2.out)).mono ?_
    rintro e w2 ⟨rfl, hb2⟩
    have HB3 := Lib.hid (step2 HB1.out hb2)
    clear hb2
    go_wp2_with fail
    go_ret
    exact ⟨ret_bool hk.out.symm, HB3.out⟩
end Go.Proofs.YtdmpokanfnlbgaaGreatDoor

namespace Go.Proofs.YtdmpokanfnlbgaaGreatDoor
open Go.RowKit
set_option linter.all false
def langI (K m : Nat) (F : List ByteArray) : List ByteArray := (allW K m).filter (hasI F (statesI K F))
theorem pickB_mem {O : Nat → Bool} {x : ByteArray} : ∀ {P : List ByteArray} {k : Nat}, x ∈ pickB O P k → x ∈ P
  | [], _, h => by simp [pickB] at h
  | y :: t, k, h => by
    rw [pickB] at h
    split at h
    · rcases List.mem_cons.1 h with rfl | h
      · exact List.mem_cons_self
      · exact List.mem_cons_of_mem _ (pickB_mem h)
    · exact List.mem_cons_of_mem _ (pickB_mem h)
theorem statesI_size {K : Nat} {F : List ByteArray} : ∀ p ∈ statesI K F, p.size ≤ 100 := by
  intro p hp
  obtain ⟨i, _, rfl⟩ := allW_mem (List.mem_filter.1 (pickB_mem hp)).1
  rw [wordN_size]
  omega
set_option maxRecDepth 20000 in
set_option maxHeartbeats 3200000 in
theorem iLang_any (K m : Nat) (aF : Option Addr) (nF cF : Nat) (F : List ByteArray) (w : World) (h : Strs w aF nF F) (hF : ∀ f ∈ F, 0 < f.size ∧ f.size ≤ 3) (hK1 : 1 ≤ K) (hK3 : K ≤ 3) (hm1 : 1 ≤ m) (hm6 : m ≤ 6) (hm : MaxM w) :
    Calls Tryz.prog 48 #[.agg #[.int .i64 K, .slice aF nF cF], .int .i64 m] w fun e w' => ∃ v, e = .returned v ∧ OStrs w' w.heap.size v (langI K m F).length (langI K m F) ∧ Below w.heap.size w w' := by
  have HB1 := Lib.hid (below1 w (.cells #[.int .i64 K, .slice aF nF cF] 30))
  have HA1 := Lib.hid (h.keep HB1.out)
  have HM1 := Lib.hid (hm.keep HB1.out)
  have HK1 := Lib.hid (Blk.new w 30 #[.int .i64 K, .slice aF nF cF])
  have k0 : (w.alloc (.cells #[.int .i64 K, .slice aF nF cF] 30)).cell? ⟨w.heap.size, 0, none⟩ = some (.int .i64 K) := HK1.out.cell 0
  have k1 : (w.alloc (.cells #[.int .i64 K, .slice aF nF cF] 30)).cell? ⟨w.heap.size, 1, none⟩ = some (.slice aF nF cF) := HK1.out.cell 1
  have HF1 : Hid (∀ f ∈ F, 0 < f.size ∧ f.size ≤ 100) := fun f hf => ⟨(hF f hf).1, by have := (hF f hf).2; omega⟩
  have hQ := statesI_size (K := K) (F := F)
  have HRL : Hid (langI K m F = (allW K m).filter (hasI F (statesI K F))) := by show _ = _; rfl
  have HCS := Lib.hid (fun W (q1 : Strs W aF nF F) (q2 : MaxM W) => iStates_any K aF nF cF F W q1 HF1.out hK1 hK3 q2)
  rw [HRL.out]
  generalize statesI K F = Q at hQ HCS
  have HQ := Lib.hid hQ
  have HF3 := Lib.hid hF
  clear h hm hF hQ HRL
  go_enter Tryz.func48, Tryz.ntmps48
  go_wp2_with fail
  generalize w.alloc (.cells #[.int .i64 K, .slice aF nF cF] 30) = w1 at HB1 HA1 HM1 HK1 k0 k1 ⊢
  refine (HCS.out _ HA1.out HM1.out).mono ?_
  rintro e w3 ⟨v3, rfl, ho3, hb3⟩
  obtain ⟨a3, c3, rfl, _⟩ := ho3.form
  have HQ3 := Lib.hid ho3.read
  have HB3 := Lib.hid (step2 HB1.out hb3)
  have HA3 := Lib.hid (HA1.out.keep hb3)
  have HM3 := Lib.hid (HM1.out.keep hb3)
  have HK3 := Lib.hid (HK1.out.keep hb3)
  have k0 : w3.cell? ⟨w.heap.size, 0, none⟩ = some (.int .i64 K) := HK3.out.cell 0
  have k1 : w3.cell? ⟨w.heap.size, 1, none⟩ = some (.slice aF nF cF) := HK3.out.cell 1
  have HBQ := Lib.hid (belowA w3 (.cells #[.slice a3 Q.length c3] 28))
  have HK4 := Lib.hid (HK3.out.keep HBQ.out)
  have HCE : Hid ((w3.alloc (.cells #[.slice a3 Q.length c3] 28)).cell? ⟨w3.heap.size, 0, none⟩ = some (.slice a3 Q.length c3)) := World.cell?_alloc_new _ _ _ _
  have k0a : (w3.alloc (.cells #[.slice a3 Q.length c3] 28)).cell? ⟨w.heap.size, 0, none⟩ = some (.int .i64 K) := HK4.out.cell 0
  clear ho3 hb3
  go_wp2_with fail
  refine (filtHas_any K aF nF cF F w.heap.size w3.heap.size a3 Q.length c3 Q m _ hK1 hK3 hm1 hm6 HF1.out (HM3.out.keep HBQ.out) HK4.out (HA3.out.keep HBQ.out) HCE.out (HQ3.out.keep HBQ.out) HQ.out).mono ?_
  rintro e w5 ⟨v5, rfl, ho5, hb5⟩
  have HB4 := Lib.hid (step2 HB3.out HBQ.out)
  have HO5 := Lib.hid (ho5.mono HB4.out.size)
  have HB5 := Lib.hid (step2 HB4.out hb5)
  clear ho5 hb5 k0 k1 k0a
  go_wp2_with fail
  go_ret
  exact ⟨_, rfl, HO5.out, HB5.out⟩
end Go.Proofs.YtdmpokanfnlbgaaGreatDoor
