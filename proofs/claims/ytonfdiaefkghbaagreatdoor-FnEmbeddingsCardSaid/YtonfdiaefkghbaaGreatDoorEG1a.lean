/- Parts of the proof of a law, joined: D4b D24 SMulM SPowM SCntP SPaths IPathP PWT EmbF SClosed SLeastP SOrb SFits2 SIsBelow SFloor SCannot SCountRooted SFirst INumbers. -/
import Derived.Deep.RegionLaw
import Derived.Test.YtonfdiaefkghbaaGreatDoorProg
import Derived.Lib.Bytes
import Derived.Test.YtonfdiaefkghbaaGreatDoorED4
import Derived.Test.YtonfdiaefkghbaaGreatDoorEG0b
import Derived.Test.YtonfdiaefkghbaaGreatDoorEG0c
import Derived.Test.YtonfdiaefkghbaaGreatDoorESTimes
import Derived.Test.YtonfdiaefkghbaaGreatDoorEG0d
import Derived.Test.YtonfdiaefkghbaaGreatDoorESBelow
import Derived.Test.YtonfdiaefkghbaaGreatDoorEG0a
namespace Go.Proofs.YtonfdiaefkghbaaGreatDoor
open Go.RowKit
set_option linter.all false
theorem bent_set {T : List (List Int)} {i j : Nat} {x : Int} (h : Bent T) (hi : i < T.length) : Bent (T.set i (T[i].set j x)) := by
  refine ⟨by rw [List.length_set]; exact h.1, by rw [List.length_set]; exact h.2.1, fun r hr => ?_⟩
  rcases List.mem_or_eq_of_mem_set hr with hr | rfl
  · exact h.2.2 r hr
  · rw [List.length_set]; exact h.2.2 _ (List.getElem_mem _)
theorem grown_far {w W w' : World} {b g : Nat} (h : w.grownBy W (some b)) (k : W.grownBy w' (some g)) (hg : w.heap.size ≤ g) : w.grownBy w' (some b) := by
  refine ⟨k.os.trans h.os, ?_, k.output.trans h.output, Nat.le_trans h.size k.size, fun i hi hne => (k.block i (Nat.lt_of_lt_of_le hi h.size) (by intro e; injection e; omega)).trans (h.block i hi hne)⟩
  first | exact k.tape.trans h.tape | exact Nat.le_trans h.tape k.tape | exact h.tape.trans k.tape
theorem bent_push {T : List (List Int)} (h : Bent T) (h4 : T.length ≤ 4) : Bent (T ++ [[1]]) := by
  refine ⟨by simp, by simp; omega, fun r hr => ?_⟩
  rcases List.mem_append.1 hr with hr | hr
  · exact h.2.2 r hr
  · simp at hr; subst hr; simp
set_option maxRecDepth 20000 in
set_option maxHeartbeats 6400000 in
theorem l4Bent_any (b lo : Nat) (w : World) (h : Cur w b lo) :
    Calls Tryz.prog 71 #[.pointer (some ⟨b, 0, none⟩)] w fun e w' => ∃ v T, e = .returned v ∧ OIntss w' w.heap.size v T.length T ∧ Bent T ∧ Cur w' b lo ∧ w.grownBy w' (some b) := by
  have hbl := h.lt.2
  have H := Lib.hid h
  clear h
  go_enter Tryz.func71, Tryz.ntmps71
  go_wp2_with (go_at_call 117; refine (l4Draw_any b lo 4 _ H.out (by omega) (by omega)).mono ?_; rintro e w1 ⟨v1, T, rfl, ho1, hT, hc1, hg1⟩; obtain ⟨g, cap, rfl⟩ := ho1.head (by have := hT.1.1; omega); have Ho1 := Lib.hid ho1; have HT := Lib.hid hT.1; have hT4 := hT.2; have Hc1 := Lib.hid hc1; have Hg1 := Lib.hid hg1; clear ho1 hc1 hg1 hT)
  refine (l1Below_any b lo 16 _ Hc1.out (by omega) (by omega)).mono ?_
  rintro e w2 ⟨x, hx, rfl, hc2, hg2⟩
  have Hc2 := Lib.hid hc2
  have Hg2 := Lib.hid (Hg1.out.trans hg2)
  have Ho2 := Lib.hid (Ho1.out.away hg2 hbl)
  have hs2 := Hg2.out.size
  clear hc2 hg2
  have hT1 := HT.out.1
  by_cases hx0 : x = 0
  · subst hx0
    have hti : 0 < T.length := by omega
    obtain ⟨nr, hnr⟩ : ∃ nr, T[0].length = nr := ⟨_, rfl⟩
    have hri := hnr
    have hnr1 : 0 < nr := by have := (HT.out.2.2 T[0] (List.getElem_mem _)).1; omega
    obtain ⟨gk, ck, h5, ho, hne, hlo⟩ := Ho2.out.rowAt (List.getElem?_eq_getElem hti) (by omega)
    rw [hri] at h5
    have h6 := ho.cell 0 (by omega)
    have h7 := ho.frozen 0
    have hgn : g < w2.heap.size := Ho2.out.lt.2
    have hgne : some g ≠ some b := by have := Ho2.out.lt.1; intro e; injection e; omega
    have hgk : gk < w2.heap.size := ho.lt.2
    have HO := Lib.hid ho
    have hset := fun (W : World) (hw : OIntss W w.heap.size (.slice (some ⟨g, 0, none⟩) T.length cap) T.length T) (hc : W.cell? ⟨g, 0, none⟩ = some (.slice (some ⟨gk, 0, none⟩) T[0].length ck)) (ho : OInts W w.heap.size (.slice (some ⟨gk, 0, none⟩) T[0].length ck) T[0].length T[0]) (x : Int) => hw.setIn (List.getElem?_eq_getElem hti) hc ho 0 x
    rw [hri] at hset
    have HSet := Lib.hid hset
    have HB4 := Lib.hid (((Below.refl w2.heap.size w2).alloc (Nat.le_refl _) (.cells #[.int .i64 (-1), .int .i64 1000000, .int .i64 1000001, .int .i64 9] 3)).drew)
    have Hri := Lib.hid hri
    have HLit : Hid (OInts (w2.alloc (.cells #[.int .i64 (-1), .int .i64 1000000, .int .i64 1000001, .int .i64 9] 3)).drew w2.heap.size (.slice (some ⟨w2.heap.size, 0, none⟩) 4 4) 4 [-1, 1000000, 1000001, 9]) := (OInts.lit_ (w := w2) (arr := #[.int .i64 (-1), .int .i64 1000000, .int .i64 1000001, .int .i64 9]) (n := 4) (xs := [-1, 1000000, 1000001, 9]) (Nat.le_refl _) rfl rfl (by omega)).drewN 1
    have HRS := Lib.hid (fun x => bent_set (j := 0) (x := x) HT.out hti)
    clear hset ho h7 hri hnr
    go_wp2_with fail
    go_region_law (first
      | (go_simp; go_at_call 95; refine (l1PickInt_any b lo w2.heap.size 4 4 _ [-1, 1000000, 1000001, 9] _ (Hc2.out.keep HB4.out) HLit.out Hc2.out.lt.2 (by omega) (by omega)).mono ?_; rintro e w5 ⟨d0, hd0, rfl, hc5, hg5⟩; have Hc5 := Lib.hid hc5; have Hg5 := Lib.hid (Hg2.out.trans ((grown_of_below HB4.out).trans hg5)); have Ho5 := Lib.hid ((Ho2.out.keep HB4.out).away hg5 hbl); have HOk := Lib.hid ((HO.out.keep HB4.out).away hg5 hbl); have q5 := hg5.cell ((HB4.out.cell (p := ⟨g, 0, none⟩) hgn).trans h5) hgne; have q6 := HOk.out.cell 0 (by rw [Hri.out]; exact hnr1); have q7 := HOk.out.frozen 0; clear hc5 hg5 hd0))
    all_goals
      have Ht := Lib.hid (HSet.out _ Ho5.out q5 (by have h9 := HOk.out; rw [Hri.out] at h9; exact h9) d0)
      have HRT := Lib.hid (HRS.out d0)
      have HUL : Hid ((T.set 0 (T[0].set 0 d0)).length = T.length) := by show _ = _; rw [List.length_set]
      have Hc6 := Lib.hid (Hc5.out.grown (only_setCell (World.grownBy.refl w5 (some gk)) rfl (p := ⟨gk, 0, none⟩) (.int .i64 d0)) (fun g e => by injection e; omega))
      have Hg6 := Lib.hid (grown_new Hg5.out (p := ⟨gk, 0, none⟩) (by show _ ≤ gk; omega) (.int .i64 d0))
      generalize w5.setCell ⟨gk, 0, none⟩ (.int .i64 d0) = w6 at Ht Hc6 Hg6 ⊢
      generalize T.set 0 (T[0].set 0 d0) = U at Ht HRT HUL
      clear q5 q6 q7 Ho5 HOk Hc5 Hg5 HSet h5 h6 HRS
      go_wp2_with fail
      go_ret
      exact ⟨_, U, rfl, by rw [HUL.out]; exact Ht.out, HRT.out, Hc6.out, Hg6.out⟩
  have d0 : ((x : Int) == 0) = false := beq_eq_false_iff_ne.2 (by omega)
  by_cases hx1 : x = 1
  · subst hx1
    have HR := Lib.hid (OInts.lit_ (w := w2) (lo := w2.heap.size) (arr := #[.int .i64 1]) (n := 1) (xs := [1]) (Nat.le_refl _) rfl rfl (by omega))
    have HB3 := Lib.hid ((Below.refl w2.heap.size w2).alloc (Nat.le_refl _) (.cells #[.int .i64 1] 3))
    have HRT := Lib.hid (bent_push HT.out hT4)
    go_wp2_with (at_builtin; refine wpList_push_rowC _ _ w2 rfl (.tmp 19) (.tmp 21) rfl w.heap.size _ T.length T rfl Ho2.out (by omega) hs2 HB3.out 1 [1] HR.out _ ?_ rfl ?_; (first | rfl | simp); intro v6 w6 ho6 hg6 hn6; have hg7 : (w2.alloc (.cells #[.int .i64 1] 3)).grownBy w6 (some g) := hg6; have HO6 := Lib.hid ho6; have HG6 := Lib.hid (grown_far (Hg2.out.trans (grown_of_below HB3.out)) hg7 Ho2.out.lt.1); have HC6 := Lib.hid ((Hc2.out.keep HB3.out).grown hg7 (fun q e => (by have h1 := Ho2.out.lt.1; injection e; omega))); clear hg7; clear ho6 hg6 hn6)
    go_ret
    exact ⟨_, T ++ [[1]], rfl, by simpa using HO6.out, HRT.out, HC6.out, HG6.out⟩
  · have d1 : ((x : Int) == 1) = false := beq_eq_false_iff_ne.2 (by omega)
    go_wp2_with fail
    go_ret
    exact ⟨_, T, rfl, Ho2.out, HT.out, Hc2.out, Hg2.out⟩
end Go.Proofs.YtonfdiaefkghbaaGreatDoor

namespace Go.Proofs.YtonfdiaefkghbaaGreatDoor
open Go.RowKit
set_option linter.all false
/- What the law of embeddings draws. -/
set_option maxRecDepth 20000 in
set_option maxHeartbeats 3200000 in
theorem l24Case_any (ao : Option Addr) (n c : Nat) (w : World) (h : Bytes w ao n) :
    Calls Tryz.prog 46 #[.slice ao n c] w fun e w' => ∃ (v u : Value) (A B : List (List Int)) (a : Int), e = .returned (.tuple #[v, u, .int .i64 a]) ∧ OIntss w' w.heap.size v A.length A ∧ OIntss w' w.heap.size u B.length B ∧ Below w.heap.size w w' := by
  have H := Lib.hid h
  clear h
  go_enter Tryz.func46, Tryz.ntmps46
  go_wp2_with (first
    | (go_at_call 95; refine (l1PickInt_any _ _ w4.heap.size 6 6 _ [0, 0, 0, 0, 9, -7] _ (Hc4.out.keep ((Below.refl _ _).alloc (Nat.le_refl _) _)) (OInts.lit_ (Nat.le_refl _) rfl rfl (by omega)) hbl4 (by omega) (by omega)).mono ?_; rintro e w5 ⟨p, hp, rfl, hc5, hg5'⟩; have hg5 := (gr_alloc (World.grownBy.refl w4 (some w.heap.size)) _).trans hg5'; clear hg5'; have hbl5 := hc5.lt.2; have Hc5 := Lib.hid hc5; have Hg5 := Lib.hid (Hg4.out.trans hg5); have HoX_5 := Lib.hid (HoX_4.out.away hg5 hbl1); have HoY_5 := Lib.hid (HoY_4.out.away hg5 hbl2); clear hc5 hg5)
    | (go_at_call 79; refine (l1Below_any _ _ 6 _ Hc3.out (by omega) (by omega)).mono ?_; rintro e w4 ⟨x, hx, rfl, hc4, hg4⟩; have hbl4 := hc4.lt.2; have Hc4 := Lib.hid hc4; have Hg4 := Lib.hid (Hg3.out.trans hg4); have HoX_4 := Lib.hid (HoX_3.out.away hg4 hbl1); have HoY_4 := Lib.hid (HoY_3.out.away hg4 hbl2); clear hc4 hg4)
    | (go_at_call 71; refine (l4Bent_any _ _ _ Hc2.out).mono ?_; rintro e w3 ⟨vY, TY, rfl, hoY, hBY, hc3, hg3⟩; obtain ⟨gY, capY, rfl⟩ := hoY.head (by have := hBY.1; omega); have HBY := Lib.hid hBY; have hbl3 := hc3.lt.2; have Hc3 := Lib.hid hc3; have Hg3 := Lib.hid (Hg2.out.trans hg3); have HoX_3 := Lib.hid (HoX_2.out.away hg3 hbl1); have HoY_3 := Lib.hid hoY; clear hoY hBY hc3 hg3)
    | (go_at_call 71; refine (l4Bent_any _ _ _ Hc1.out).mono ?_; rintro e w2 ⟨vX, TX, rfl, hoX, hBX, hc2, hg2⟩; obtain ⟨gX, capX, rfl⟩ := hoX.head (by have := hBX.1; omega); have HBX := Lib.hid hBX; have hbl2 := hc2.lt.2; have Hc2 := Lib.hid hc2; have Hg2 := Lib.hid (Hg1.out.trans hg2); have HoX_2 := Lib.hid hoX; clear hoX hBX hc2 hg2)
    | (go_at_call 72; refine (l1New_any _ _ _ _ H.out).mono ?_; rintro e w1 ⟨rfl, hc1, hb1⟩; have hbl1 := hc1.lt.2; have Hc1 := Lib.hid hc1; have Hb1 := Lib.hid hb1; have Hg1 : Hid (w1.grownBy w1 (some w.heap.size)) := World.grownBy.refl _ _; clear hc1 hb1))
  have HBL := Lib.hid (Hb1.out.trans (below_of_grown Hg5.out (Nat.le_refl _) Hb1.out.size))
  have HS1 := Hb1.out.size
  have hs2 := Hg2.out.size
  go_ret3
  exact ⟨_, _, _, _, _, rfl, HoX_5.out.mono HS1, HoY_5.out.mono (Nat.le_trans HS1 hs2), HBL.out⟩
set_option maxRecDepth 20000 in
set_option maxHeartbeats 3200000 in
theorem l24Root_any (ao : Option Addr) (n c : Nat) (w : World) (h : Bytes w ao n) :
    Calls Tryz.prog 47 #[.slice ao n c] w fun e w' => ∃ (v : Value) (T : List (List Int)) (a b : Int), e = .returned (.tuple #[v, .int .i64 a, .int .i64 b]) ∧ OIntss w' w.heap.size v T.length T ∧ Below w.heap.size w w' := by
  have H := Lib.hid h
  clear h
  go_enter Tryz.func47, Tryz.ntmps47
  go_wp2_with (first
    | (go_at_call 95; refine (l1PickInt_any _ _ w5.heap.size 6 6 _ [0, 0, 0, 0, 25, -7] _ (Hc5.out.keep ((Below.refl _ _).alloc (Nat.le_refl _) _)) (OInts.lit_ (Nat.le_refl _) rfl rfl (by omega)) hbl5 (by omega) (by omega)).mono ?_; rintro e w6 ⟨p, hp, rfl, hc6, hg6'⟩; have hg6 := (gr_alloc (World.grownBy.refl w5 (some w.heap.size)) _).trans hg6'; clear hg6'; have hbl6 := hc6.lt.2; have Hc6 := Lib.hid hc6; have Hg6 := Lib.hid (Hg5.out.trans hg6); have HoX_6 := Lib.hid (HoX_5.out.away hg6 hbl1); clear hc6 hg6)
    | (go_at_call 79; refine (l1Below_any _ _ 6 _ Hc4.out (by omega) (by omega)).mono ?_; rintro e w5 ⟨y, hy, rfl, hc5, hg5⟩; have hbl5 := hc5.lt.2; have Hc5 := Lib.hid hc5; have Hg5 := Lib.hid (Hg4.out.trans hg5); have HoX_5 := Lib.hid (HoX_4.out.away hg5 hbl1); clear hc5 hg5)
    | (go_at_call 80; refine (l1Bit_any t _).mono ?_; rintro e w' ⟨rfl, rfl⟩)
    | (go_at_call 78; refine (l1Once_any _ _ 12 _ Hc3.out (by omega) (by omega)).mono ?_; rintro e w4 ⟨t, rfl, hc4, hg4⟩; have hbl4 := hc4.lt.2; have Hc4 := Lib.hid hc4; have Hg4 := Lib.hid (Hg3.out.trans hg4); have HoX_4 := Lib.hid (HoX_3.out.away hg4 hbl1); clear hc4 hg4)
    | (go_at_call 79; refine (l1Below_any _ _ TX.length _ Hc2.out (by have := HBX.out.1; omega) (by have := HBX.out.2.1; omega)).mono ?_; rintro e w3 ⟨x, hx, rfl, hc3, hg3⟩; have hbl3 := hc3.lt.2; have Hc3 := Lib.hid hc3; have Hg3 := Lib.hid (Hg2.out.trans hg3); have HoX_3 := Lib.hid (HoX_2.out.away hg3 hbl1); clear hc3 hg3)
    | (go_at_call 71; refine (l4Bent_any _ _ _ Hc1.out).mono ?_; rintro e w2 ⟨vX, TX, rfl, hoX, hBX, hc2, hg2⟩; obtain ⟨gX, capX, rfl⟩ := hoX.head (by have := hBX.1; omega); have HBX := Lib.hid hBX; have hbl2 := hc2.lt.2; have Hc2 := Lib.hid hc2; have Hg2 := Lib.hid (Hg1.out.trans hg2); have HoX_2 := Lib.hid hoX; clear hoX hBX hc2 hg2)
    | (go_at_call 72; refine (l1New_any _ _ _ _ H.out).mono ?_; rintro e w1 ⟨rfl, hc1, hb1⟩; have hbl1 := hc1.lt.2; have Hc1 := Lib.hid hc1; have Hb1 := Lib.hid hb1; have Hg1 : Hid (w1.grownBy w1 (some w.heap.size)) := World.grownBy.refl _ _; clear hc1 hb1))
  have HBL := Lib.hid (Hb1.out.trans (below_of_grown Hg6.out (Nat.le_refl _) Hb1.out.size))
  have HS1 := Hb1.out.size
  go_ret3
  exact ⟨_, _, _, _, rfl, HoX_6.out.mono HS1, HBL.out⟩
set_option maxRecDepth 20000 in
set_option maxHeartbeats 3200000 in
theorem l21Case_any (ao : Option Addr) (n c : Nat) (w : World) (h : Bytes w ao n) :
    Calls Tryz.prog 52 #[.slice ao n c] w fun e w' => ∃ (v : Value) (T : List (List Int)) (a : Int), e = .returned (.tuple #[v, .int .i64 a]) ∧ OIntss w' w.heap.size v T.length T ∧ Below w.heap.size w w' := by
  have H := Lib.hid h
  clear h
  go_enter Tryz.func52, Tryz.ntmps52
  go_wp2_with (first
    | (go_at_call 95; refine (l1PickInt_any _ _ w3.heap.size 6 6 _ [0, 0, 0, 0, 25, -7] _ (Hc3.out.keep ((Below.refl _ _).alloc (Nat.le_refl _) _)) (OInts.lit_ (Nat.le_refl _) rfl rfl (by omega)) hbl3 (by omega) (by omega)).mono ?_; rintro e w4 ⟨p, hp, rfl, hc4, hg4'⟩; have hg4 := (gr_alloc (World.grownBy.refl w3 (some w.heap.size)) _).trans hg4'; clear hg4'; have hbl4 := hc4.lt.2; have Hc4 := Lib.hid hc4; have Hg4 := Lib.hid (Hg3.out.trans hg4); have HoX_4 := Lib.hid (HoX_3.out.away hg4 hbl1); clear hc4 hg4)
    | (go_at_call 79; refine (l1Below_any _ _ 7 _ Hc2.out (by omega) (by omega)).mono ?_; rintro e w3 ⟨x, hx, rfl, hc3, hg3⟩; have hbl3 := hc3.lt.2; have Hc3 := Lib.hid hc3; have Hg3 := Lib.hid (Hg2.out.trans hg3); have HoX_3 := Lib.hid (HoX_2.out.away hg3 hbl1); clear hc3 hg3)
    | (go_at_call 71; refine (l4Bent_any _ _ _ Hc1.out).mono ?_; rintro e w2 ⟨vX, TX, rfl, hoX, hBX, hc2, hg2⟩; obtain ⟨gX, capX, rfl⟩ := hoX.head (by have := hBX.1; omega); have HBX := Lib.hid hBX; have hbl2 := hc2.lt.2; have Hc2 := Lib.hid hc2; have Hg2 := Lib.hid (Hg1.out.trans hg2); have HoX_2 := Lib.hid hoX; clear hoX hBX hc2 hg2)
    | (go_at_call 72; refine (l1New_any _ _ _ _ H.out).mono ?_; rintro e w1 ⟨rfl, hc1, hb1⟩; have hbl1 := hc1.lt.2; have Hc1 := Lib.hid hc1; have Hb1 := Lib.hid hb1; have Hg1 : Hid (w1.grownBy w1 (some w.heap.size)) := World.grownBy.refl _ _; clear hc1 hb1))
  have HBL := Lib.hid (Hb1.out.trans (below_of_grown Hg4.out (Nat.le_refl _) Hb1.out.size))
  have HS1 := Hb1.out.size
  go_ret2
  exact ⟨_, _, _, rfl, HoX_4.out.mono HS1, HBL.out⟩
set_option maxRecDepth 20000 in
set_option maxHeartbeats 3200000 in
theorem drawPathsOf_any (ao : Option Addr) (n c : Nat) (w : World) (h : Bytes w ao n) :
    Calls Tryz.prog 48 #[.slice ao n c] w fun e w' => ∃ (v : Value) (T : List (List Int)) (a : Int), e = .returned (.tuple #[v, .int .i64 a]) ∧ OIntss w' w.heap.size v T.length T ∧ Below w.heap.size w w' := by
  have H := Lib.hid h
  clear h
  go_enter Tryz.func48, Tryz.ntmps48
  go_wp2_with (first
    | (go_at_call 95; refine (l1PickInt_any _ _ w3.heap.size 6 6 _ [0, 0, 0, 0, -3, 4] _ (Hc3.out.keep ((Below.refl _ _).alloc (Nat.le_refl _) _)) (OInts.lit_ (Nat.le_refl _) rfl rfl (by omega)) hbl3 (by omega) (by omega)).mono ?_; rintro e w4 ⟨p, hp, rfl, hc4, hg4'⟩; have hg4 := (gr_alloc (World.grownBy.refl w3 (some w.heap.size)) _).trans hg4'; clear hg4'; have hbl4 := hc4.lt.2; have Hc4 := Lib.hid hc4; have Hg4 := Lib.hid (Hg3.out.trans hg4); have HoX_4 := Lib.hid (HoX_3.out.away hg4 hbl1); clear hc4 hg4)
    | (go_at_call 79; refine (l1Below_any _ _ 3 _ Hc2.out (by omega) (by omega)).mono ?_; rintro e w3 ⟨x, hx, rfl, hc3, hg3⟩; have hbl3 := hc3.lt.2; have Hc3 := Lib.hid hc3; have Hg3 := Lib.hid (Hg2.out.trans hg3); have HoX_3 := Lib.hid (HoX_2.out.away hg3 hbl1); clear hc3 hg3)
    | (go_at_call 71; refine (l4Bent_any _ _ _ Hc1.out).mono ?_; rintro e w2 ⟨vX, TX, rfl, hoX, hBX, hc2, hg2⟩; obtain ⟨gX, capX, rfl⟩ := hoX.head (by have := hBX.1; omega); have HBX := Lib.hid hBX; have hbl2 := hc2.lt.2; have Hc2 := Lib.hid hc2; have Hg2 := Lib.hid (Hg1.out.trans hg2); have HoX_2 := Lib.hid hoX; clear hoX hBX hc2 hg2)
    | (go_at_call 72; refine (l1New_any _ _ _ _ H.out).mono ?_; rintro e w1 ⟨rfl, hc1, hb1⟩; have hbl1 := hc1.lt.2; have Hc1 := Lib.hid hc1; have Hb1 := Lib.hid hb1; have Hg1 : Hid (w1.grownBy w1 (some w.heap.size)) := World.grownBy.refl _ _; clear hc1 hb1))
  have HBL := Lib.hid (Hb1.out.trans (below_of_grown Hg4.out (Nat.le_refl _) Hb1.out.size))
  have HS1 := Hb1.out.size
  go_ret2
  exact ⟨_, _, _, rfl, HoX_4.out.mono HS1, HBL.out⟩
set_option maxHeartbeats 1600000 in
theorem drawFits_any (ao : Option Addr) (n c : Nat) (w : World) (h : Bytes w ao n) :
    Calls Tryz.prog 6 #[.slice ao n c] w fun e w' => ∃ (v u : Value) (A B : List (List Int)) (a : Int), e = .returned (.tuple #[v, u, .int .i64 a]) ∧ OIntss w' w.heap.size v A.length A ∧ OIntss w' w.heap.size u B.length B ∧ Below w.heap.size w w' := by
  have H := Lib.hid h
  clear h
  go_enter Tryz.func6, Tryz.ntmps6
  go_wp2_with fail
  refine (l24Case_any _ _ _ _ H.out).mono ?_
  rintro e w1 ⟨v, u, A, B, a, rfl, ho, hu, hb⟩
  go_wp2_with fail
  go_ret3
  exact ⟨_, _, _, _, _, rfl, ho, hu, hb⟩
set_option maxHeartbeats 1600000 in
theorem drawFirst_any (ao : Option Addr) (n c : Nat) (w : World) (h : Bytes w ao n) :
    Calls Tryz.prog 7 #[.slice ao n c] w fun e w' => ∃ (v : Value) (T : List (List Int)) (a b : Int), e = .returned (.tuple #[v, .int .i64 a, .int .i64 b]) ∧ OIntss w' w.heap.size v T.length T ∧ Below w.heap.size w w' := by
  have H := Lib.hid h
  clear h
  go_enter Tryz.func7, Tryz.ntmps7
  go_wp2_with fail
  refine (l24Root_any _ _ _ _ H.out).mono ?_
  rintro e w1 ⟨v, T, a, b, rfl, ho, hb⟩
  go_wp2_with fail
  go_ret3
  exact ⟨_, _, _, _, rfl, ho, hb⟩
set_option maxHeartbeats 1600000 in
theorem drawPathW_any (ao : Option Addr) (n c : Nat) (w : World) (h : Bytes w ao n) :
    Calls Tryz.prog 9 #[.slice ao n c] w fun e w' => ∃ (v : Value) (T : List (List Int)) (a : Int), e = .returned (.tuple #[v, .int .i64 a]) ∧ OIntss w' w.heap.size v T.length T ∧ Below w.heap.size w w' := by
  have H := Lib.hid h
  clear h
  go_enter Tryz.func9, Tryz.ntmps9
  go_wp2_with fail
  refine (drawPathsOf_any _ _ _ _ H.out).mono ?_
  rintro e w1 ⟨v, T, a, rfl, ho, hb⟩
  go_wp2_with fail
  go_ret2
  exact ⟨_, _, _, rfl, ho, hb⟩
set_option maxHeartbeats 1600000 in
theorem drawOrb_any (ao : Option Addr) (n c : Nat) (w : World) (h : Bytes w ao n) :
    Calls Tryz.prog 11 #[.slice ao n c] w fun e w' => ∃ (v : Value) (T : List (List Int)) (a : Int), e = .returned (.tuple #[v, .int .i64 a]) ∧ OIntss w' w.heap.size v T.length T ∧ Below w.heap.size w w' := by
  have H := Lib.hid h
  clear h
  go_enter Tryz.func11, Tryz.ntmps11
  go_wp2_with fail
  refine (l21Case_any _ _ _ _ H.out).mono ?_
  rintro e w1 ⟨v, T, a, rfl, ho, hb⟩
  go_wp2_with fail
  go_ret2
  exact ⟨_, _, _, rfl, ho, hb⟩
end Go.Proofs.YtonfdiaefkghbaaGreatDoor

namespace Go.Proofs.YtonfdiaefkghbaaGreatDoor
open Go.RowKit
set_option linter.all false
set_option maxHeartbeats 1600000 in
theorem sMulM_any (pa : Option Addr) (na ca : Nat) (a : List (List Int)) (pb : Option Addr) (nb cb : Nat) (b : List (List Int)) (w : World) (ha : Intss w pa na a) (hb : Intss w pb nb b) :
    Calls Tryz.prog 116 #[.slice pa na ca, .slice pb nb cb] w fun e w' => ∃ v, e = .returned (.tuple #[v, .bool (mulM a b).isSome]) ∧ OIntss w' w.heap.size v ((mulM a b).getD []).length ((mulM a b).getD []) ∧ Below w.heap.size w w' := by
  have hma := ha.2.1
  have hmb := hb.2.1
  have HA := Lib.hid ha
  have HB := Lib.hid hb
  have HLA : Hid (a.length = na) := ha.1
  have HLB : Hid (b.length = nb) := hb.1
  clear ha hb
  have hempty := OIntss.empty w w.heap.size (Nat.le_refl _)
  have hbe : Below w.heap.size w (w.alloc (.cells #[] 34)) := (Below.refl _ _).alloc (Nat.le_refl _) _
  have Hempty := Lib.hid hempty
  have Hbe := Lib.hid hbe
  clear hempty hbe
  cases h1 : isMat a
  · have hg : Hid (mulM a b = none) := mulM_none1 h1
    go_enter Tryz.func116, Tryz.ntmps116
    go_wp2_with (first | (go_at_call 69; refine (sIsMatrix_any _ _ _ a _ HA.out).mono ?_; rintro e w' ⟨rfl, rfl⟩))
    go_ret2
    rw [hg.out]
    exact ⟨_, rfl, Hempty.out, Hbe.out⟩
  cases h2 : isMat b
  · have hg : Hid (mulM a b = none) := mulM_none2 h2
    go_enter Tryz.func116, Tryz.ntmps116
    go_wp2_with fail
    refine (sIsMatrix_any _ _ _ a _ HA.out).mono ?_
    rintro e w' ⟨rfl, rfl⟩
    go_wp2_with fail
    refine (sIsMatrix_any _ _ _ b _ HB.out).mono ?_
    rintro e w' ⟨rfl, rfl⟩
    go_wp2_with fail
    go_ret2
    rw [hg.out]
    exact ⟨_, rfl, Hempty.out, Hbe.out⟩
  by_cases hn : na = nb
  · subst hn
    have hne : ((na : Int) != (na : Int)) = false := by simp
    have hn9 : na ≤ 9 := by have := isMat_len h1; have := HLA.out; omega
    have HRA := Lib.hid (isMat_rowsLen h1 HLA.out)
    have HRB := Lib.hid (isMat_rowsLen h2 HLB.out)
    have hlab : Hid (a.length = b.length) := by show a.length = b.length; rw [HLA.out, HLB.out]
    have H12 : Hid (isMat a = true ∧ isMat b = true) := ⟨h1, h2⟩
    go_enter Tryz.func116, Tryz.ntmps116
    go_wp2_with fail
    refine (sIsMatrix_any _ _ _ a _ HA.out).mono ?_
    rintro e w' ⟨rfl, rfl⟩
    go_wp2_with fail
    refine (sIsMatrix_any _ _ _ b _ HB.out).mono ?_
    rintro e w' ⟨rfl, rfl⟩
    go_wp2_with fail
    clear h1 h2
    refine (sL4Times_any _ _ _ a _ _ _ b na _ HA.out HB.out HRA.out HRB.out (by omega) (by omega)).mono ?_
    rintro e w1 ⟨v, rfl, hown, hbl⟩
    obtain ⟨ao, cap, rfl, hi⟩ := hown.form
    have Hown := Lib.hid hown
    have Hbl := Lib.hid hbl
    have Hi := Lib.hid hi
    clear hown hbl hi
    cases h3 : isMat (mulT a b na)
    · have hg : Hid (mulM a b = none) := mulM_none4 (by rw [HLB.out]; exact h3)
      go_wp2_with fail
      refine (sIsMatrix_any _ _ _ (mulT a b na) _ Hi.out).mono ?_
      rintro e w' ⟨rfl, rfl⟩
      go_wp2_with fail
      go_ret2
      rw [hg.out]
      exact ⟨_, rfl, OIntss.empty w1 _ Hbl.out.size, Hbl.out.alloc Hbl.out.size _⟩
    · have hg : Hid (mulM a b = some (mulT a b na)) := by
        have := mulM_some H12.out.1 H12.out.2 hlab.out (by rw [HLB.out]; exact h3)
        rw [HLB.out] at this
        exact this
      go_wp2_with fail
      refine (sIsMatrix_any _ _ _ (mulT a b na) _ Hi.out).mono ?_
      rintro e w' ⟨rfl, rfl⟩
      go_wp2_with fail
      go_ret2
      rw [hg.out]
      refine ⟨_, rfl, ?_, Hbl.out⟩
      show OIntss w1 w.heap.size _ (mulT a b na).length (mulT a b na)
      rw [Hown.out.len]
      exact Hown.out
  · have hg : Hid (mulM a b = none) := mulM_none3 (by rw [HLA.out, HLB.out]; exact hn)
    have hne : ((na : Int) != (nb : Int)) = true := by simp; omega
    clear hn
    go_enter Tryz.func116, Tryz.ntmps116
    go_wp2_with fail
    refine (sIsMatrix_any _ _ _ a _ HA.out).mono ?_
    rintro e w' ⟨rfl, rfl⟩
    go_wp2_with fail
    refine (sIsMatrix_any _ _ _ b _ HB.out).mono ?_
    rintro e w' ⟨rfl, rfl⟩
    go_wp2_with fail
    go_ret2
    rw [hg.out]
    exact ⟨_, rfl, Hempty.out, Hbe.out⟩
end Go.Proofs.YtonfdiaefkghbaaGreatDoor

namespace Go.Proofs.YtonfdiaefkghbaaGreatDoor
open Go.RowKit
set_option linter.all false
set_option maxHeartbeats 1600000 in
theorem sPowM_any (pm : Option Addr) (nm cm : Nat) (m : List (List Int)) (n : Int) (w : World) (hm : Intss w pm nm m) :
    Calls Tryz.prog 70 #[.slice pm nm cm, .int .i64 n] w fun e w' => ∃ v, e = .returned (.tuple #[v, .bool (powM m n).isSome]) ∧ OIntss w' w.heap.size v ((powM m n).getD []).length ((powM m n).getD []) ∧ Below w.heap.size w w' := by
  have HM := Lib.hid hm
  have HLM : Hid (m.length = nm) := hm.1
  clear hm
  have Hempty := Lib.hid (OIntss.empty w w.heap.size (Nat.le_refl _))
  have Hbe : Hid (Below w.heap.size w (w.alloc (.cells #[] 34))) := (Below.refl _ _).alloc (Nat.le_refl _) _
  cases h1 : isMat m
  · have hg : Hid (powM m n = none) := powM_none1 h1
    go_enter Tryz.func70, Tryz.ntmps70
    go_wp2_with (first | (go_at_call 69; refine (sIsMatrix_any _ _ _ m _ HM.out).mono ?_; rintro e w' ⟨rfl, rfl⟩))
    go_ret2
    rw [hg.out]
    exact ⟨_, rfl, Hempty.out, Hbe.out⟩
  cases h2 : inR n 0 30
  · have hg : Hid (powM m n = none) := powM_none2 h2
    go_enter Tryz.func70, Tryz.ntmps70
    go_wp2_with (first | (go_at_call 69; refine (sIsMatrix_any _ _ _ m _ HM.out).mono ?_; rintro e w' ⟨rfl, rfl⟩) | (go_at_call 65; refine (l1In_any _ _ _ _).mono ?_; rintro e w' ⟨rfl, rfl⟩))
    go_ret2
    rw [hg.out]
    exact ⟨_, rfl, Hempty.out, Hbe.out⟩
  obtain ⟨q, rfl⟩ := Int.eq_ofNat_of_zero_le (inR_true h2).1
  have hq : q ≤ 30 := by have := (inR_true h2).2; omega
  have hg : Hid (powM m q = iterM m q (oneT nm)) := by have := powM_iter h1 h2; rw [HLM.out] at this; exact this
  have hn9 : nm ≤ 9 := by have := isMat_len h1; have := HLM.out; omega
  go_enter Tryz.func70, Tryz.ntmps70
  go_wp2_with (first | (go_at_call 69; refine (sIsMatrix_any _ _ _ m _ HM.out).mono ?_; rintro e w' ⟨rfl, rfl⟩) | (go_at_call 65; refine (l1In_any _ _ _ _).mono ?_; rintro e w' ⟨rfl, rfl⟩))
  clear h1 h2
  refine (sL4One_any nm _ (by omega)).mono ?_
  rintro e w1 ⟨v, rfl, hown, hbl⟩
  have Hown := Lib.hid hown
  have Hbl := Lib.hid hbl
  clear hown hbl
  go_wp2_with fail
  go_loopw [6, 7] (fun v i wr => ∃ (k : Nat) (acc : List (List Int)), k ≤ q ∧ i = .int .i64 k ∧ OIntss wr w.heap.size v nm acc ∧ Hid (iterM m (q - k) acc = iterM m q (oneT nm)) ∧ Below w.heap.size w wr) (fun _ i _ => q - (intOf i).toNat)
  case atStart => exact ⟨0, _, Nat.zero_le _, rfl, Hown.out, rfl, Hbl.out⟩
  case round =>
    obtain ⟨k, acc, hk, rfl, hown, hit, hbl⟩ := hrel
    obtain ⟨wo, rfl⟩ : ∃ wo : World, wo = wr := ⟨_, rfl⟩
    clear Hown Hbl
    by_cases hlt : k < q
    · have Hstep : Hid (q - k = (q - (k + 1)) + 1) := by show q - k = _; omega
      obtain ⟨ao, cap, rfl, hi⟩ := hown.form
      have Hi := Lib.hid hi
      have Hbl := Lib.hid hbl
      clear hi hbl hown
      go_wp2_with fail
      refine (sMulM_any _ _ _ acc _ _ _ m _ Hi.out (HM.out.keep (Hbl.out.mono (Nat.le_refl _)))).mono ?_
      rintro e w2 ⟨v2, rfl, hown2, hb2⟩
      cases hp : mulM acc m with
      | none =>
        have hr1 : Hid (powM m q = none) := by
          have h5 := hit.out
          rw [Hstep.out, iterM_none hp] at h5
          show powM m q = none
          rw [hg.out, h5]
        have Hb2 := Lib.hid (Hbl.out.trans (hb2.mono Hbl.out.size))
        clear hown2 hb2 hit
        go_wp2_with fail
        go_ret2
        rw [hr1.out]
        exact ⟨_, rfl, OIntss.empty w2 _ Hb2.out.size, Hb2.out.alloc Hb2.out.size _⟩
      | some p =>
        have hit' : Hid (iterM m (q - (k + 1)) p = iterM m q (oneT nm)) := by
          have h5 := hit.out
          rw [Hstep.out, iterM_some hp] at h5
          exact h5
        have hpl : p.length = nm := by have := (mulM_mat hp).2; rw [this, HLM.out]
        rw [hp] at hown2
        have hown3 : OIntss w2 w.heap.size v2 nm p := by
          have h6 : OIntss w2 wo.heap.size v2 p.length p := hown2
          rw [hpl] at h6
          exact h6.mono Hbl.out.size
        have Hown3 := Lib.hid hown3
        have Hb2 := Lib.hid (Hbl.out.trans (hb2.mono Hbl.out.size))
        clear hown2 hb2 hit hown3 hpl
        go_wp2_with fail
        go_roundw
        case rel => exact ⟨k + 1, p, hlt, by go_num, Hown3.out, hit', Hb2.out⟩
        case measure => simp [intOf]; omega
    · have hr1 : Hid (powM m q = some acc) := by
        have h5 := hit.out
        rw [show q - k = 0 from by omega] at h5
        show powM m q = some acc
        rw [hg.out, ← h5]
        rfl
      have Hown := Lib.hid hown
      have Hbl := Lib.hid hbl
      clear hown hbl hit
      go_wp2_with fail
      go_ret2
      rw [hr1.out]
      refine ⟨_, rfl, ?_, Hbl.out⟩
      show OIntss wo w.heap.size _ acc.length acc
      rw [Hown.out.len]
      exact Hown.out
end Go.Proofs.YtonfdiaefkghbaaGreatDoor

namespace Go.Proofs.YtonfdiaefkghbaaGreatDoor
open Go.RowKit
set_option linter.all false
set_option maxHeartbeats 1600000 in
theorem sCntP_any (p : Option Addr) (n c : Nat) (m : List (List Int)) (t : Int) (w : World) (h : Intss w p n m) :
    Calls Tryz.prog 109 #[.slice p n c, .int .i64 t] w fun e w' => e = .returned (.int .i64 (cntP m t)) ∧ Below w.heap.size w w' := by
  have H := Lib.hid h
  clear h
  go_enter Tryz.func109, Tryz.ntmps109
  cases hp : powM m t with
  | none =>
    have hg : Hid (cntP m t = -1) := by show _ = _; simp [cntP, hp]
    go_wp2_with fail
    refine (sPowM_any _ _ _ m t _ H.out).mono ?_
    rw [hp]
    rintro e w1 ⟨v1, rfl, ho1, hb1⟩
    go_wp2_with fail
    go_ret
    exact ⟨ret_int hg.out.symm, hb1⟩
  | some q =>
    have hg : Hid (cntP m t = sumOf q) := by show _ = _; simp [cntP, hp]
    go_wp2_with fail
    refine (sPowM_any _ _ _ m t _ H.out).mono ?_
    rw [hp]
    rintro e w1 ⟨v1, rfl, ho1, hb1⟩
    obtain ⟨a1, c1, rfl, hi1⟩ := ho1.form
    go_wp2_with fail
    refine (sSumOf_any _ _ _ q _ hi1).mono ?_
    rintro e w' ⟨rfl, rfl⟩
    go_wp2_with fail
    go_ret
    exact ⟨ret_int hg.out.symm, hb1⟩
end Go.Proofs.YtonfdiaefkghbaaGreatDoor

namespace Go.Proofs.YtonfdiaefkghbaaGreatDoor
open Go.RowKit
set_option linter.all false
theorem OInts.readAll {w : World} {lo n c : Nat} {ao : Option Addr} {xs : List Int} (h : OInts w lo (.slice ao n c) n xs) : Ints w ao n xs := by
  obtain ⟨ao', cap', e, hi⟩ := h.form
  injection e with e1
  subst e1
  exact hi
theorem OIntss.readAll {w : World} {lo n c : Nat} {ao : Option Addr} {xs : List (List Int)} (h : OIntss w lo (.slice ao n c) n xs) : Intss w ao n xs := by
  obtain ⟨ao', cap', e, hi⟩ := h.form
  injection e with e1
  subst e1
  exact hi
theorem sFill_fresh (p : Option Addr) (N c t lo : Nat) (A : List (List Int)) (hA2 : ∀ (k : Nat) (a : List Int), A[k]? = some a → ∃ x y : Int, a = [x, y]) (ht : t ≤ 6) (hN : N ≤ 60) (hAN : A.length = N) :
    ∀ (r : Nat) (W wr : World) (hv ov : Value) (hd : List Int) (out : List (List Int)), hd.length + r = t → Idx N hd → OIntss wr lo ov out.length out → lo ≤ wr.heap.size → (∀ W', Below lo wr W' → Intss W' p N A) → Below wr.heap.size wr W → OInts W wr.heap.size hv hd.length hd → (out ++ fillL A r hd).length ≤ 1099511627776 →
      Calls Tryz.prog 110 #[.slice p N c, .int .i64 t, hv, ov] W (fillPost W lo ov (out ++ fillL A r hd))
  | 0, W, wr, hv, ov, hd, out, hl, hi, ho, hlo, ha, hW, hh, hM => sFill_zero p N c t lo A W wr hv ov hd out hl ho hlo hW hh hM
  | r + 1, W, wr, hv, ov, hd, out, hl, hi, ho, hlo, ha, hW, hh, hM => by
    have IH := sFill_fresh p N c t lo A hA2 ht hN hAN r
    have hne := (ho.apartRow hh).ne
    have hks : ∀ W', W.grownBy W' ov.ownBlock → OInts W' wr.heap.size hv hd.length hd := fun W' hg => hh.grown hg hne
    obtain ⟨ah, ch, rfl, _⟩ := hh.form
    have hk : ∀ W', W.grownBy W' ov.ownBlock → Ints W' ah hd.length hd := fun W' hg => (hks W' hg).readAll
    have ho2 := ho.keep hW
    have hlo2 := Nat.le_trans hlo hW.size
    have ha2 : ∀ W', Below lo W W' → Intss W' p N A := fun W' h2 => ha W' ((hW.mono hlo).trans h2)
    rcases Nat.eq_zero_or_pos hd.length with h0 | h0
    · exact sFill_step0 p N c t r lo A hA2 ht hN hAN IH W ah hd.length ch hd ov out hl hi ho2 hlo2 hk ha2 h0 hM
    · exact sFill_stepS p N c t r lo A hA2 ht hN hAN IH W ah hd.length ch hd ov out hl hi ho2 hlo2 hk ha2 h0 hM
theorem pathsV_len (m : List (List Int)) (n : Int) : (pathsV m n).length ≤ 60 ^ 6 := by
  unfold pathsV
  split
  · rename_i h
    simp only [pathsOk, Bool.and_eq_true] at h
    have h2 := inR_true h.2.1
    have h3 := graph_arcs h.1
    exact Nat.le_trans (fillL_len (by omega) _ _) (Nat.pow_le_pow_right (by omega) (by omega))
  · simp
set_option maxRecDepth 20000 in
set_option maxHeartbeats 3200000 in
theorem sPathsOf_any (p : Option Addr) (n c : Nat) (m : List (List Int)) (t : Int) (w : World) (h : Intss w p n m) :
    Calls Tryz.prog 64 #[.slice p n c, .int .i64 t] w fun e w' => ∃ v, e = .returned v ∧ OIntss w' w.heap.size v (pathsV m t).length (pathsV m t) ∧ Below w.heap.size w w' := by
  have H := Lib.hid h
  clear h
  cases hg : isGraph m
  · have hv : Hid (pathsV m t = []) := by show _ = _; simp [pathsV, pathsOk, hg]
    go_enter Tryz.func64, Tryz.ntmps64
    go_wp2_with (go_at_call 107; refine (sIsGraph_any _ _ _ m _ H.out).mono ?_; rw [hg]; rintro e w' ⟨rfl, rfl⟩)
    go_ret
    rw [hv.out]
    exact ⟨_, rfl, OIntss.empty _ _ (Nat.le_refl _), belowA _ _⟩
  have HG := Lib.hid hg
  cases ht : inR t 1 6
  · have hv : Hid (pathsV m t = []) := by show _ = _; simp [pathsV, pathsOk, ht]
    have HT := Lib.hid ht
    clear ht hg
    go_enter Tryz.func64, Tryz.ntmps64
    go_wp2_with (first | (go_at_call 107; refine (sIsGraph_any _ _ _ m _ H.out).mono ?_; rw [HG.out]; rintro e w' ⟨rfl, rfl⟩) | (go_at_call 65; refine (l1In_any _ _ _ _).mono ?_; rw [HT.out]; rintro e w' ⟨rfl, rfl⟩))
    go_ret
    rw [hv.out]
    exact ⟨_, rfl, OIntss.empty _ _ (Nat.le_refl _), belowA _ _⟩
  have HT := Lib.hid ht
  clear ht hg
  cases hc : inR (cntP m t) 0 500
  · have hv : Hid (pathsV m t = []) := by show _ = _; simp [pathsV, pathsOk, hc]
    have HC := Lib.hid hc
    clear hc
    go_enter Tryz.func64, Tryz.ntmps64
    go_wp2_with fail
    refine (sIsGraph_any _ _ _ m _ H.out).mono ?_
    rw [HG.out]
    rintro e w' ⟨rfl, rfl⟩
    go_wp2_with fail
    refine (l1In_any _ _ _ _).mono ?_
    rw [HT.out]
    rintro e w' ⟨rfl, rfl⟩
    go_wp2_with fail
    refine (sCntP_any _ _ _ m t _ H.out).mono ?_
    rintro e w1 ⟨rfl, hb1⟩
    have Hb1 := Lib.hid hb1
    clear hb1
    go_wp2_with fail
    refine (l1In_any _ _ _ _).mono ?_
    rw [HC.out]
    rintro e w' ⟨rfl, rfl⟩
    go_wp2_with fail
    go_ret
    rw [hv.out]
    exact ⟨_, rfl, OIntss.empty _ _ Hb1.out.size, step2 Hb1.out (belowA _ _)⟩
  · have hok : pathsOk m t = true := by simp [pathsOk, HG.out, HT.out, hc]
    have HC := Lib.hid hc
    have HA := Lib.hid (graph_arcs HG.out)
    obtain ⟨r, rfl⟩ : ∃ r : Nat, t = ((r + 1 : Nat) : Int) := ⟨(t - 1).toNat, by have := inR_true HT.out; omega⟩
    have hr6 : r + 1 ≤ 6 := by have := inR_true HT.out; omega
    have hv : Hid (pathsV m ((r + 1 : Nat) : Int) = fillL (arcsL m) (r + 1) []) := by show _ = _; unfold pathsV; rw [if_pos hok, Int.toNat_natCast]
    have hN60 : (arcsL m).length ≤ 60 := by have := HA.out; omega
    have HM : Hid (([] ++ fillL (arcsL m) (r + 1) []).length ≤ 1099511627776) := Nat.le_trans (fillL_len hN60 _ _) (Nat.le_trans (Nat.pow_le_pow_right (by omega) hr6) (by decide))
    clear hc hok
    obtain ⟨t, ht⟩ : ∃ t, t = r + 1 := ⟨_, rfl⟩
    rw [← ht] at hv HM HT HC ⊢
    have HTR := Lib.hid ht
    clear ht
    go_enter Tryz.func64, Tryz.ntmps64
    go_wp2_with fail
    refine (sIsGraph_any _ _ _ m _ H.out).mono ?_
    rw [HG.out]
    rintro e w' ⟨rfl, rfl⟩
    go_wp2_with fail
    refine (l1In_any _ _ _ _).mono ?_
    rw [HT.out]
    rintro e w' ⟨rfl, rfl⟩
    go_wp2_with fail
    refine (sCntP_any _ _ _ m t _ H.out).mono ?_
    rintro e w1 ⟨rfl, hb1⟩
    have Hb1 := Lib.hid hb1
    clear hb1
    go_wp2_with fail
    refine (l1In_any _ _ _ _).mono ?_
    rw [HC.out]
    rintro e w' ⟨rfl, rfl⟩
    go_wp2_with fail
    refine (sArcs5_any _ _ _ m _ (H.out.keep Hb1.out) HA.out.1 hN60).mono ?_
    rintro e w2 ⟨v2, rfl, ho2, hb2⟩
    obtain ⟨a2, c2, rfl, hi2⟩ := ho2.form
    have HI2 := Lib.hid hi2
    have Hb2 := Lib.hid (step2 Hb1.out hb2)
    have HO := Lib.hid (OIntss.empty (w2.alloc (.cells #[] 3)) _ (Nat.le_refl _))
    have HBW := Lib.hid (step2 (belowA w2 (.cells #[] 3)) (belowA _ (.cells #[] 34)))
    have hA2 : ∀ (k : Nat) (a : List Int), (arcsL m)[k]? = some a → ∃ x y : Int, a = [x, y] := fun k a ha => by obtain ⟨x, y, e⟩ := arc_get ha; exact ⟨_, _, e⟩
    have ht6 : t ≤ 6 := by rw [HTR.out]; exact hr6
    have hM0 : ([] ++ fillL (arcsL m) (r + 1) []).length ≤ 1099511627776 := by rw [← HTR.out]; exact HM.out
    have hI0 : Idx (arcsL m).length [] := fun x hx => by simp at hx
    have hK0 : ∀ W' : World, Ints W' (some ⟨w2.heap.size, 0, none⟩) 0 [] := fun W' => ⟨rfl, by omega, fun i hi => by simp at hi⟩
    have hF := (sFill_step0 a2 (arcsL m).length c2 t r (w2.alloc (.cells #[] 3)).heap.size (arcsL m) hA2 ht6 hN60 rfl
      (sFill_fresh a2 (arcsL m).length c2 t (w2.alloc (.cells #[] 3)).heap.size (arcsL m) hA2 ht6 hN60 rfl r)
      ((w2.alloc (.cells #[] 3)).alloc (.cells #[] 34)) (some ⟨w2.heap.size, 0, none⟩) 0 0 [] (.slice (some ⟨(w2.alloc (.cells #[] 3)).heap.size, 0, none⟩) 0 0) [] (by rw [HTR.out]; simp) hI0 HO.out (belowA _ _).size (fun W' _ => hK0 W')
      (fun W' hW' => HI2.out.keep (HBW.out.trans (hW'.mono (by simp)))) rfl hM0)
    have hs2 : (w2.alloc (.cells #[] 3)).heap.size = w2.heap.size + 1 := by simp
    rw [hs2] at hF
    have HF := Lib.hid hF
    clear hF hs2
    clear ho2 hb2 hi2 hA2 ht6 hM0 hI0 hK0
    go_wp2_with fail
    refine HF.out.mono ?_
    rintro e w5 ⟨v5, rfl, ho5, hg5, hn5⟩
    rw [← HTR.out, List.nil_append] at ho5
    have Ho5 : Hid (OIntss w5 w.heap.size v5 (pathsV m t).length (pathsV m t)) := by
      show OIntss _ _ _ _ _
      rw [hv.out]
      exact ho5.mono (by have := Hb2.out.size; simp; omega)
    have Hb5 : Hid (Below w.heap.size w w5) := (Hb2.out.trans (HBW.out.mono Hb2.out.size)).grown hg5 (by have := Hb2.out.size; have := HBW.out.size; omega) (fun b hb => by have h7 : w2.heap.size + 1 = b := (by simpa [Value.ownBlock] using hb); have := Hb2.out.size; omega)
    clear ho5 hg5 hn5
    go_wp2_with fail
    go_ret
    exact ⟨_, rfl, Ho5.out, Hb5.out⟩
end Go.Proofs.YtonfdiaefkghbaaGreatDoor

namespace Go.Proofs.YtonfdiaefkghbaaGreatDoor
open Go.RowKit
set_option linter.all false
theorem ext_yes {A : List (List Int)} {a : Nat} {hd : List Int} {acc Z R : List (List Int)} (ha : a < A.length) (ho : okN A hd a = true) (h : acc ++ ((List.range' a (A.length - a)).flatMap (ext A hd) ++ Z) = R) : (acc ++ [hd ++ [(a : Int)]]) ++ ((List.range' (a + 1) (A.length - (a + 1))).flatMap (ext A hd) ++ Z) = R := by
  rw [show A.length - a = (A.length - (a + 1)) + 1 by omega, List.range'_succ, List.flatMap_cons, ext, if_pos ho] at h
  simpa using h
theorem ext_no {A : List (List Int)} {a : Nat} {hd : List Int} {acc Z R : List (List Int)} (ha : a < A.length) (ho : okN A hd a = false) (h : acc ++ ((List.range' a (A.length - a)).flatMap (ext A hd) ++ Z) = R) : acc ++ ((List.range' (a + 1) (A.length - (a + 1))).flatMap (ext A hd) ++ Z) = R := by
  rw [show A.length - a = (A.length - (a + 1)) + 1 by omega, List.range'_succ, List.flatMap_cons, ext, if_neg (by simp [ho])] at h
  simpa using h
theorem ext_end {A : List (List Int)} {a : Nat} {hd : List Int} {acc Z R : List (List Int)} (ha : A.length ≤ a) (h : acc ++ ((List.range' a (A.length - a)).flatMap (ext A hd) ++ Z) = R) : acc ++ Z = R := by
  rw [show A.length - a = 0 by omega] at h
  simpa using h
theorem cur_step {A cur acc R : List (List Int)} {k : Nat} {hd : List Int} (hk : cur[k]? = some hd) (h : acc ++ (cur.drop k).flatMap (ext1 A) = R) : acc ++ ((List.range' 0 (A.length - 0)).flatMap (ext A hd) ++ (cur.drop (k + 1)).flatMap (ext1 A)) = R := by
  rw [drop_of_get hk, List.flatMap_cons] at h
  exact h
theorem cur_end {A cur acc R : List (List Int)} {k : Nat} (hk : cur.length ≤ k) (h : acc ++ (cur.drop k).flatMap (ext1 A) = R) : acc = R := by
  rw [drop_all cur k hk] at h
  simpa using h
theorem nxt_fill {A cur R : List (List Int)} {n a : Nat} (ha : a < n) (h : cur.flatMap (fillL A (n - a)) = R) : (cur.flatMap (ext1 A)).flatMap (fillL A (n - (a + 1))) = R := by
  rw [List.flatMap_assoc, ← h, show n - a = (n - (a + 1)) + 1 by omega]
  congr 1
  funext x
  exact (fillL_ext A _ x).symm
theorem nxt_end {A cur R : List (List Int)} {n a : Nat} (ha : n ≤ a) (h : cur.flatMap (fillL A (n - a)) = R) : cur = R := by
  rw [show n - a = 0 by omega] at h
  have e : fillL A 0 = fun x => [x] := rfl
  rw [e] at h
  simpa using h
theorem nxt_mem {A cur : List (List Int)} {a : Nat} (h : ∀ p ∈ cur, p.length = a ∧ Idx A.length p) : ∀ p ∈ cur.flatMap (ext1 A), p.length = a + 1 ∧ Idx A.length p := by
  intro p hp
  obtain ⟨q, hq, hp⟩ := List.mem_flatMap.1 hp
  obtain ⟨b, hb, hp⟩ := List.mem_flatMap.1 hp
  have hb2 : b < A.length := by simpa [List.mem_range'_1] using hb
  unfold ext at hp
  split at hp
  · simp at hp
    subst hp
    exact ⟨by simp [(h q hq).1], (h q hq).2.snoc hb2⟩
  · simp at hp
theorem ext1_len (A : List (List Int)) (hd : List Int) : (ext1 A hd).length ≤ A.length := by
  unfold ext1
  rw [List.length_flatMap]
  have key : ∀ l : List Nat, (l.map fun a => (ext A hd a).length).sum ≤ l.length := by
    intro l
    induction l with
    | nil => simp
    | cons a l ih =>
      simp only [List.map_cons, List.sum_cons, List.length_cons]
      have : (ext A hd a).length ≤ 1 := by unfold ext; split <;> simp
      omega
  have := key (List.range' 0 A.length)
  rwa [List.length_range'] at this
theorem nxt_len {A : List (List Int)} (hA : A.length ≤ 60) : ∀ (cur : List (List Int)), (cur.flatMap (ext1 A)).length ≤ cur.length * 60
  | [] => by simp
  | x :: r => by
    have := ext1_len A x
    have := nxt_len hA r
    rw [List.flatMap_cons, List.length_append, List.length_cons]
    omega
theorem OIntss.unit (w : World) (lo : Nat) (hlo : lo ≤ w.heap.size) : OIntss ((w.alloc (.cells #[] 3)).alloc (.cells #[.slice (some ⟨w.heap.size, 0, none⟩) 0 0] 34)) lo (.slice (some ⟨w.heap.size + 1, 0, none⟩) 1 1) 1 [[]] := by
  refine ⟨by omega, rfl, [.slice (some ⟨w.heap.size, 0, none⟩) 0 0], ?_, ?_, ?_⟩
  · have := World.ownsRow_lit (base := lo) (e := 34) (size := 1) (w.alloc (.cells #[] 3)) #[.slice (some ⟨w.heap.size, 0, none⟩) 0 0] 1 (by simp; omega) (by unfold maxLen; omega) (by simp)
    simpa using this
  · intro i u r hu hr
    match i, hu, hr with
    | 0, hu, hr =>
      simp at hu hr
      subst hu
      subst hr
      exact (OInts.empty w lo hlo).alloc _
  · intro i j u u' hij hu hu'
    match i, j, hu, hu' with
    | 0, 0, _, _ => exact absurd rfl hij
end Go.Proofs.YtonfdiaefkghbaaGreatDoor

namespace Go.Proofs.YtonfdiaefkghbaaGreatDoor
open Go.RowKit
set_option linter.all false
theorem arcsV_graph {m : List (List Int)} (h : isGraph m = true) : ((arcsV m).length : Int) = sumOf m := by
  simp only [arcsV, h, if_true]
  exact (graph_arcs h).2.2
theorem pathW_big {m : List (List Int)} {t : Int} (h : 10 < (arcsV m).length) : pathW m t = [] := by
  cases hg : isGraph m
  · simp [arcsV, hg] at h
  · have := arcsV_graph hg
    unfold pathW
    rw [if_pos (by omega)]
theorem pathW_not {m : List (List Int)} {t : Int} (h : pathsV m t = []) : pathW m t = [] := by
  unfold pathW
  split
  · rfl
  · rw [h]; rfl
theorem pathW_map {m : List (List Int)} {t : Int} (h : (arcsV m).length ≤ 10) : pathW m t = (pathsV m t).map txtP := by
  cases hg : isGraph m
  · have hp : pathsV m t = [] := by simp [pathsV, pathsOk, hg]
    rw [pathW_not hp, hp]; rfl
  · have := arcsV_graph hg
    unfold pathW
    rw [if_neg (by omega)]
theorem pathsV_mem {m p : List (List Int)} {q : List Int} {t : Int} (h : q ∈ pathsV m t) : 1 ≤ q.length ∧ q.length ≤ 6 ∧ Idx 60 q := by
  unfold pathsV at h
  split at h
  · rename_i hok
    simp only [pathsOk, Bool.and_eq_true] at hok
    have h2 := inR_true hok.2.1
    have h3 := graph_arcs hok.1
    have h4 := fillL_mem h (fun x hx => by simp at hx)
    have h5 := h4.1
    simp at h5
    exact ⟨by omega, by omega, fun x hx => by have := h4.2 x hx; omega⟩
  · simp at h
theorem txtP_step {p : List Int} {k : Nat} {x : Int} (h : p[k]? = some x) : txtP (p.take k) ++ decB x.toNat = txtP (p.take (k + 1)) := by
  rw [← push_take h]
  simp [txtP]
theorem txtP_all {p : List Int} {k : Nat} (h : p.length ≤ k) : txtP (p.take k) = txtP p := by rw [List.take_of_length_le h]
theorem txtP_size (p : List Int) (h : Idx 60 p) : (txtP p).size ≤ 20 * p.length := by
  have key : ∀ (p : List Int) (t : ByteArray), Idx 60 p → (p.foldl (fun t x => t ++ decB x.toNat) t).size ≤ t.size + 20 * p.length := by
    intro p
    induction p with
    | nil => intro t _; simp
    | cons x r ih =>
      intro t h
      rw [List.foldl_cons, List.length_cons]
      have h1 := ih (t ++ decB x.toNat) (fun y hy => h y (List.mem_cons_of_mem _ hy))
      have h0 := h x (List.mem_cons_self ..)
      have h2 := decB_size (u := x.toNat) (by omega)
      rw [ByteArray.size_append] at h1
      omega
  have := key p ⟨#[]⟩ h
  have e : (⟨#[]⟩ : ByteArray).size = 0 := rfl
  unfold txtP
  omega
theorem Idx.take {n : Nat} {p : List Int} (h : Idx n p) (k : Nat) : Idx n (p.take k) := fun x hx => h x (List.mem_of_mem_take hx)
def decL (p : List Int) : List ByteArray := p.map fun x => decB x.toNat
theorem joinTail_nil : ∀ r : List (List UInt8), Lib.joinTail [] r = r.flatten
  | [] => rfl
  | x :: r => by simp [Lib.joinTail]
theorem join_empty : ∀ r : List (List UInt8), Lib.join r [] = r.flatten
  | [] => by simp [Lib.join_nil]
  | x :: r => by rw [Lib.join_cons, joinTail_nil]; simp
theorem joinB_txt (p : List Int) : joinB (decL p) ⟨#[]⟩ = txtP p := by
  have key : ∀ (p : List Int) (t : ByteArray), (p.foldl (fun t x => t ++ decB x.toNat) t).data.toList = t.data.toList ++ ((decL p).map (·.data.toList)).flatten := by
    intro p
    induction p with
    | nil => intro t; simp [decL]
    | cons x r ih =>
      intro t
      rw [List.foldl_cons, ih]
      simp [decL, ByteArray.toList_data_append]
  have h := key p ⟨#[]⟩
  apply ByteArray.ext
  apply Array.ext'
  unfold joinB txtP
  rw [h]
  simp [join_empty]
end Go.Proofs.YtonfdiaefkghbaaGreatDoor

namespace Go.Proofs.YtonfdiaefkghbaaGreatDoor
open Go.RowKit
set_option linter.all false
/- The plain laws of embeddings. Nothing of the program stands here. -/
theorem rooted_pos {m : List (List Int)} {i n : Int} (h : ¬ rooted m i n < 0) : ∀ k : Nat, 1 ≤ k → (k : Int) ≤ n → ¬ rooted m i k < 0 := by
  intro k hk1 hk2
  have hf := rooted_facts h
  have h1 := hf.1
  obtain ⟨i0, hi0⟩ := Int.eq_ofNat_of_zero_le hf.2.1
  subst hi0
  have hi : i0 < m.length := by simpa using hf.2.2.1
  have h4 : inR n 0 30 = true := inR_mk ⟨by omega, by omega⟩
  have h5 : inR (k : Int) 0 30 = true := inR_mk ⟨by omega, by omega⟩
  have h2 : inR (i0 : Int) 0 (m.length - 1) = true := inR_mk ⟨by omega, by omega⟩
  have h6 : inR (k : Int) 1 30 = true := inR_mk ⟨by omega, by omega⟩
  cases hp : powM m n with
  | none => rw [rooted_none hp] at h; omega
  | some p =>
    rw [powM_iter h1 h4] at hp
    have e : n.toNat = k + (n.toNat - k) := by omega
    rw [e] at hp
    obtain ⟨q, hq⟩ := iterM_pre k (n.toNat - k) _ _ hp
    have hpk : powM m (k : Int) = some q := by rw [powM_iter h1 h5]; exact hq
    have hqm := powM_mat hpk
    have hr : rooted m (i0 : Int) (k : Int) = (q.getD i0 []).getD i0 0 := by simp [rooted, h1, h2, h6, hpk]
    have hrow := isMat_row hqm.2.1 (get_lt q i0 [] (by rw [hqm.2.2]; exact hi))
    have h8 := allIn_get hrow.2 (get_lt (q.getD i0 []) i0 0 (by rw [hrow.1, hqm.2.2]; exact hi))
    rw [hr]
    omega
theorem first_get {m : List (List Int)} {i n : Int} (h : 0 ≤ firstR m i n) : ¬ 10 < n ∧ ¬ rooted m i n < 0 := by
  unfold firstR at h
  split at h
  · omega
  · split at h
    · omega
    · exact ⟨by assumption, by assumption⟩
theorem first_Cg {m : List (List Int)} {i n : Int} (h : ¬ rooted m i n < 0) (h10 : ¬ 10 < n) {k : Nat} (hk1 : 1 ≤ k) (hk : (k : Int) ≤ n) :
    Cg (firstR m i k) (FF m.length i.toNat (entA m) (k - 1)) := by
  have hr := rooted_pos h k hk1 hk
  have hf := rooted_facts hr
  unfold firstR
  rw [if_neg (by omega), if_neg hr]
  have := (frRow_Cg hf.1 hf.2.2.1 ((k : Int).toNat - 1) i.toNat hf.2.2.1).1
  simpa [FF] using this
/-- The sum over the place of the first return, as the law reckons it. -/
def fSum (m : List (List Int)) (i : Int) (k : Nat) : Nat → Nat → Int → Int
  | 0, _, s => s
  | c + 1, x, s => fSum m i k c (x + 1) (wrap64 (s + wrap64 (firstR m i x * rooted m i ((k : Int) - x))))
theorem fSum_Cg (m : List (List Int)) (i : Int) (k : Nat) : ∀ (c x : Nat) (s : Int), wrap64 s = s → Cg (fSum m i k c x s) (s + Sm c (fun t => firstR m i ((x + t : Nat) : Int) * rooted m i ((k : Int) - ((x + t : Nat) : Int)))) ∧ wrap64 (fSum m i k c x s) = fSum m i k c x s
  | 0, x, s, hs => ⟨Cg.of_eq (by simp [fSum, Sm]), hs⟩
  | c + 1, x, s, hs => by
    have ih := fSum_Cg m i k c (x + 1) (wrap64 (s + wrap64 (firstR m i x * rooted m i ((k : Int) - x)))) (Cg.wrap _).eq
    refine ⟨ih.1.trans ?_, ih.2⟩
    rw [Sm_first]
    have h1 : Cg (wrap64 (s + wrap64 (firstR m i x * rooted m i ((k : Int) - x)))) (s + firstR m i x * rooted m i ((k : Int) - x)) := (Cg.wrap _).trans ((Cg.refl s).add (Cg.wrap _))
    refine (h1.add (Cg.refl _)).trans (Cg.of_eq ?_)
    have h2 : Sm c (fun t => firstR m i ((x + 1 + t : Nat) : Int) * rooted m i ((k : Int) - ((x + 1 + t : Nat) : Int))) = Sm c (fun j => firstR m i ((x + (j + 1) : Nat) : Int) * rooted m i ((k : Int) - ((x + (j + 1) : Nat) : Int))) :=
      Sm_congr c _ _ (fun t _ => by rw [show x + 1 + t = x + (t + 1) by omega])
    rw [h2]
    simp only [Nat.add_zero]
    omega
theorem Sm_last (n : Nat) (f : Nat → Int) : Sm (n + 1) f = Sm n f + f n := rfl
theorem renewal {m : List (List Int)} {i : Int} {k : Nat} (h : 0 ≤ firstR m i k) : 1 ≤ k ∧ fSum m i k (k - 1) 1 (firstR m i k) = rooted m i k := by
  obtain ⟨h10, hr⟩ := first_get h
  have hf := rooted_facts hr
  have hk1 : 1 ≤ k := by have := hf.2.2.2.1; omega
  obtain ⟨K, rfl⟩ : ∃ K, k = K + 1 := ⟨k - 1, by omega⟩
  have hkc := hf.2.2.2.2.2 (K + 1) (by omega) (Int.le_refl _)
  have hw : wrap64 (firstR m i ((K + 1 : Nat) : Int)) = firstR m i ((K + 1 : Nat) : Int) := by
    unfold firstR
    rw [if_neg h10, if_neg hr]
    exact (frRow_Cg hf.1 hf.2.2.1 _ i.toNat hf.2.2.1).2
  have hs := fSum_Cg m i (K + 1) K 1 (firstR m i ((K + 1 : Nat) : Int)) hw
  refine ⟨hk1, ?_⟩
  show fSum m i (K + 1) K 1 (firstR m i ((K + 1 : Nat) : Int)) = _
  refine Cg.same (hs.1.trans (Cg.trans ?_ hkc.1.symm)) hs.2 hkc.2
  have hren := renew m.length i.toNat (entA m) hf.2.2.1 K i.toNat
  rw [hren]
  have h1 := first_Cg hr h10 (k := K + 1) (by omega) (Int.le_refl _)
  refine Cg.add (by simpa [FF] using h1) (Sm_Cg _ _ _ (fun t ht => ?_))
  have a1 := first_Cg hr h10 (k := 1 + t) (by omega) (by omega)
  rw [show 1 + t - 1 = t by omega] at a1
  have a2 := (hf.2.2.2.2.2 (K - t) (by omega) (by omega)).1
  have e : ((K + 1 : Nat) : Int) - ((1 + t : Nat) : Int) = ((K - t : Nat) : Int) := by omega
  rw [e]
  exact a1.mul a2
theorem fSum_step {m : List (List Int)} {i : Int} {k x : Nat} {s R : Int} (hx : x < k) (h : fSum m i k (k - x) x s = R) : fSum m i k (k - (x + 1)) (x + 1) (wrap64 (s + wrap64 (firstR m i x * rooted m i ((k : Int) - x)))) = R := by
  rw [show k - x = (k - (x + 1)) + 1 by omega] at h
  exact h
/- Words. -/
theorem decB_one : ∀ d : Fin 10, (decB d.val).size = 1 := by
  intro d
  have : (decB d.val).size = (Lib.decDigits d.val).length := by simp [decB, ByteArray.size]
  rw [this, Lib.decDigits, dif_pos d.isLt]
  rfl
theorem fold_size : ∀ (q : List Int) (t : ByteArray), Idx 10 q → (q.foldl (fun t x => t ++ decB x.toNat) t).size = t.size + q.length
  | [], t, _ => by simp
  | x :: q, t, h => by
    rw [List.foldl_cons, fold_size q _ (fun y hy => h y (List.mem_cons_of_mem _ hy))]
    have h0 := h x (List.mem_cons_self ..)
    have h1 : (decB x.toNat).size = 1 := decB_one ⟨x.toNat, by omega⟩
    rw [ByteArray.size_append, h1, List.length_cons]
    omega
theorem pathW_size {m : List (List Int)} {n : Int} {s : ByteArray} (h : s ∈ pathW m n) : (s.size : Int) = n := by
  unfold pathW at h
  split at h
  · simp at h
  · rename_i h10
    obtain ⟨q, hq, rfl⟩ := List.mem_map.1 h
    unfold pathsV at hq
    split at hq
    · rename_i hok
      simp only [pathsOk, Bool.and_eq_true] at hok
      have h3 := graph_arcs hok.1
      have h2 := inR_true hok.2.1
      have h4 := fillL_mem hq (fun x hx => by simp at hx)
      have hi : Idx 10 q := fun x hx => by have := h4.2 x hx; omega
      unfold txtP
      rw [fold_size q _ hi, h4.1]
      have e : (⟨#[]⟩ : ByteArray).size = 0 := rfl
      rw [e]
      simp
      omega
    · simp at hq
/- What fits. -/
theorem dash_fits {a b : List (List Int)} {n : Int} (h : fits a b n = false) : cannotT a b n ≠ txtDash := by
  intro e
  have hsz : ∀ x : ByteArray, x = txtDash → x.size = 1 := fun x hx => by rw [hx]; rfl
  unfold cannotT at e
  split at e
  · have := hsz _ e; exact absurd this (by decide)
  split at e
  · have := hsz _ e; exact absurd this (by decide)
  split at e
  · have := hsz _ e; exact absurd this (by decide)
  split at e
  · have := hsz _ e; exact absurd this (by decide)
  rename_i h1 h2
  split at e
  · have := hsz _ e; exact absurd this (by decide)
  split at e
  · have := hsz _ e
    rw [ByteArray.size_append] at this
    have h7 : txtOrbits.size = 7 := rfl
    omega
  · rename_i h3
    have hneg := fgI_neg (orbV a n) (orbV b n) 0
    rw [decide_eq_true (by omega)] at hneg
    unfold fits at h
    rw [← hneg, decide_eq_true (by omega), decide_eq_true (by omega)] at h
    simp at h
theorem fitL_self : ∀ xs : List Int, fitL xs xs = true
  | [] => rfl
  | x :: xs => by
    unfold fitL
    rw [if_neg (by omega)]
    exact fitL_self xs
theorem row_fits {m : List (List Int)} {n : Int} (h : (orbV m n).length ≠ 0) : ((orbV m n).length : Int) = n ∧ fits m m n = true := by
  have hp := orbV_pos h
  refine ⟨by omega, ?_⟩
  unfold fits
  rw [fitL_self, decide_eq_true (by omega)]
  rfl
theorem dash_list {a b : List (List Int)} {n : Int} (h : fits a b n = false) : ((cannotT a b n).toList == txtDash.toList) = false := by
  apply beq_eq_false_iff_ne.2
  intro e
  apply dash_fits h
  rw [Lib.toList_data, Lib.toList_data] at e
  exact ByteArray.ext (Array.ext' e)
theorem dash_prop {a b : List (List Int)} {n : Int} (h : fits a b n = false) : ¬ (cannotT a b n).toList = [45] := by
  intro e
  apply dash_fits h
  have h2 : txtDash.toList = [45] := by rw [Lib.toList_data]; rfl
  rw [← h2, Lib.toList_data, Lib.toList_data] at e
  exact ByteArray.ext (Array.ext' e)
end Go.Proofs.YtonfdiaefkghbaaGreatDoor

namespace Go.Proofs.YtonfdiaefkghbaaGreatDoor
open Go.RowKit
set_option linter.all false
set_option maxHeartbeats 1600000 in
theorem sClosed_any (pm : Option Addr) (nm cm : Nat) (m : List (List Int)) (n : Int) (w : World) (h : Intss w pm nm m) :
    Calls Tryz.prog 111 #[.slice pm nm cm, .int .i64 n] w fun e w' => e = .returned (.int .i64 (closed m n)) ∧ Below w.heap.size w w' := by
  have H := Lib.hid h
  clear h
  cases h1 : inR n 1 30
  · have hg := Lib.hid (closed_n (m := m) h1)
    go_enter Tryz.func111, Tryz.ntmps111
    go_wp2_with (go_at_call 65; refine (l1In_any _ _ _ _).mono ?_; rintro e w' ⟨rfl, rfl⟩)
    go_ret
    exact ⟨ret_int hg.out.symm, Below.refl _ _⟩
  cases ht : powM m n with
  | none =>
    have hg := Lib.hid (closed_none ht)
    have hs : (powM m n).isSome = false := by simp [ht]
    clear ht
    go_enter Tryz.func111, Tryz.ntmps111
    go_wp2_with (first
          | (go_at_call 65; refine (l1In_any _ _ _ _).mono ?_; rintro e w' ⟨rfl, rfl⟩)
          | (go_at_call 70; refine (sPowM_any _ _ _ m _ _ H.out).mono ?_; rintro e w1 ⟨v, rfl, hown, hbl⟩; have Hbl := Lib.hid hbl; clear hown hbl))
    go_ret
    exact ⟨ret_int hg.out.symm, Hbl.out⟩
  | some p =>
    have hs : (powM m n).isSome = true := by simp [ht]
    have HPM := Lib.hid (powM_mat ht).2.1
    have HG : Hid ((powM m n).getD [] = p) := by show (powM m n).getD [] = p; simp [ht]
    have hg := Lib.hid (closed_some h1 ht)
    clear ht
    go_enter Tryz.func111, Tryz.ntmps111
    go_wp2_with (first
          | (go_at_call 65; refine (l1In_any _ _ _ _).mono ?_; rintro e w' ⟨rfl, rfl⟩)
          | (go_at_call 70; refine (sPowM_any _ _ _ m _ _ H.out).mono ?_; rintro e w1 ⟨v, rfl, hown, hbl⟩; obtain ⟨ao, cap, rfl, hin⟩ := hown.form; rw [HG.out] at hin; have Hin := Lib.hid hin; have Hbl := Lib.hid hbl; clear hown hbl hin; rw [HG.out])
          | (go_at_call 143; refine (sTrace_any _ _ _ p _ Hin.out HPM.out).mono ?_; rintro e w' ⟨rfl, rfl⟩))
    go_ret
    exact ⟨ret_int hg.out.symm, Hbl.out⟩
end Go.Proofs.YtonfdiaefkghbaaGreatDoor

namespace Go.Proofs.YtonfdiaefkghbaaGreatDoor
open Go.RowKit
set_option linter.all false
set_option maxHeartbeats 1600000 in
theorem sLp_any (pm : Option Addr) (nm cm : Nat) (m : List (List Int)) (n : Int) (w : World) (h : Intss w pm nm m) :
    Calls Tryz.prog 66 #[.slice pm nm cm, .int .i64 n] w fun e w' => e = .returned (.int .i64 (lp m n)) ∧ Below w.heap.size w w' := by
  have H := Lib.hid h
  clear h
  by_cases h12 : 12 < n
  · have hg : Hid (lp m n = -1) := by show _ = _; simp [lp, h12]
    go_enter Tryz.func66, Tryz.ntmps66
    go_wp2_with fail
    go_ret
    exact ⟨ret_int hg.out.symm, Below.refl _ _⟩
  have hd12 : decide (12 < n) = false := by simpa using h12
  by_cases hc : closed m n < 0
  · have hg : Hid (lp m n = -1) := by show _ = _; simp [lp, h12, hc]
    have hdc : decide (closed m n < 0) = true := by simpa using hc
    clear hc
    go_enter Tryz.func66, Tryz.ntmps66
    go_wp2_with (go_at_call 111; refine (sClosed_any _ _ _ m _ _ H.out).mono ?_; rintro e w1 ⟨rfl, hb1⟩; have Hb1 := Lib.hid hb1; clear hb1)
    go_ret
    exact ⟨ret_int hg.out.symm, Hb1.out⟩
  have hr := closed_range hc
  have hdc : decide (closed m n < 0) = false := by simpa using hc
  obtain ⟨n0, rfl⟩ := Int.eq_ofNat_of_zero_le (show 0 ≤ n by omega)
  have hn0 : n0 ≤ 12 := by omega
  have HG : Hid (lpLoop m n0 (n0 + 1 - 1) 1 0 = lp m (n0 : Int)) := by show _ = _; simp [lp, h12, hc]
  clear hr h12 hc
  go_enter Tryz.func66, Tryz.ntmps66
  go_wp2_with (go_at_call 111; refine (sClosed_any _ _ _ m _ _ H.out).mono ?_; rintro e w1 ⟨rfl, hb1⟩; have Hb1 := Lib.hid hb1; clear hb1)
  clear hdc hd12
  go_loopw [5, 6] (fun vs vd wr => ∃ (d : Nat) (s : Int), 1 ≤ d ∧ d ≤ n0 + 1 ∧ vs = .int .i64 s ∧ vd = .int .i64 d ∧ Hid (lpLoop m n0 (n0 + 1 - d) d s = lp m (n0 : Int)) ∧ Below w.heap.size w wr) (fun _ vd _ => n0 + 1 - (intOf vd).toNat)
  case atStart => exact ⟨1, 0, by omega, by omega, rfl, rfl, HG.out, Hb1.out⟩
  case round =>
    obtain ⟨d, s, hd1, hd2, rfl, rfl, hl, hb⟩ := hrel
    have HB := Lib.hid hb
    have HM := Lib.hid (H.out.keep hb)
    clear hb
    by_cases hle : d ≤ n0
    · have HS := Lib.hid (lp_step hle hl)
      have hq0 := (divI_bounds n0 d).1
      have hq1 : (n0 : Int) / (d : Int) ≤ 12 := Int.le_trans (divI_bounds n0 d).2 (by omega)
      clear hl
      by_cases hz : n0 % d = 0
      · have hz1 := modE_z hz
        have HR := HS.out.1 hz
        clear HS hz
        go_wp2_with (first
          | (go_at_call 112; refine (sMoeb_any _ _).mono ?_; rintro e w' ⟨rfl, rfl⟩)
          | (go_at_call 111; refine (sClosed_any _ _ _ m _ _ HM.out).mono ?_; rintro e w2 ⟨rfl, hb2⟩; have Hb2 := Lib.hid hb2; clear hb2))
        go_roundw
        case rel => exact ⟨d + 1, _, by omega, by omega, rfl, by go_num, HR, step2 HB.out Hb2.out⟩
        case measure => simp [intOf]; omega
      · have hz1 := modE_nz hz
        have HR := HS.out.2 hz
        clear HS hz
        go_wp2_with fail
        go_roundw
        case rel => exact ⟨d + 1, s, by omega, by omega, rfl, by go_num, HR, HB.out⟩
        case measure => simp [intOf]; omega
    · have HE : Hid (s = lp m (n0 : Int)) := by have := hl.out; rw [show n0 + 1 - d = 0 by omega] at this; exact this
      clear hl
      go_wp2_with fail
      go_ret
      exact ⟨ret_int HE.out, HB.out⟩
end Go.Proofs.YtonfdiaefkghbaaGreatDoor

namespace Go.Proofs.YtonfdiaefkghbaaGreatDoor
open Go.RowKit
set_option linter.all false
set_option maxHeartbeats 1600000 in
theorem sOrb_any (pm : Option Addr) (nm cm : Nat) (m : List (List Int)) (n : Int) (w : World) (h : Intss w pm nm m) :
    Calls Tryz.prog 21 #[.slice pm nm cm, .int .i64 n] w fun e w' => ∃ v, e = .returned v ∧ OInts w' w.heap.size v (orbV m n).length (orbV m n) ∧ Below w.heap.size w w' := by
  have H := Lib.hid h
  clear h
  cases h1 : inR n 1 10
  · have hg : Hid (orbV m n = []) := by show _ = _; simp [orbV, h1]
    go_enter Tryz.func21, Tryz.ntmps21
    go_wp2_with (go_at_call 65; refine (l1In_any _ _ _ _).mono ?_; rintro e w' ⟨rfl, rfl⟩)
    go_ret
    rw [hg.out]
    exact ⟨_, rfl, OInts.empty _ _ (Nat.le_refl _), (Below.refl _ _).alloc (Nat.le_refl _) _⟩
  have hr := inR_true h1
  obtain ⟨n0, rfl⟩ := Int.eq_ofNat_of_zero_le (show 0 ≤ n by omega)
  have hn0 : n0 ≤ 10 := by omega
  have hn1 : 1 ≤ n0 := by omega
  have HG : Hid (orbL m (n0 + 1 - 1) 1 [] = orbV m (n0 : Int)) := by show _ = _; simp [orbV, h1]
  clear hr
  go_enter Tryz.func21, Tryz.ntmps21
  go_wp2_with (go_at_call 65; refine (l1In_any _ _ _ _).mono ?_; rintro e w' ⟨rfl, rfl⟩)
  clear h1
  go_loopw [5, 6] (fun v x wr => ∃ (k : Nat) (ys : List Int), 1 ≤ k ∧ k ≤ n0 + 1 ∧ x = .int .i64 k ∧ ys.length + 1 = k ∧ OInts wr w.heap.size v ys.length ys ∧ Below w.heap.size w wr ∧ Hid (orbL m (n0 + 1 - k) k ys = orbV m (n0 : Int))) (fun _ x _ => n0 + 1 - (intOf x).toNat)
  case atStart => exact ⟨1, [], by omega, by omega, rfl, rfl, OInts.empty _ _ (Nat.le_refl _), (Below.refl _ _).alloc (Nat.le_refl _) _, HG.out⟩
  case round =>
    obtain ⟨k, ys, hk1, hk2, rfl, hyl, hown, hbl, hl⟩ := hrel
    obtain ⟨ao5, cap5, e5, _⟩ := hown.form
    subst e5
    have hyb : ys.length ≤ 10 := by omega
    have HYL := Lib.hid hyl
    have Hown := Lib.hid hown
    have Hbl := Lib.hid hbl
    have HM := Lib.hid (H.out.keep hbl)
    clear hown hbl hyl
    by_cases hle : k ≤ n0
    · have HS := Lib.hid (orb_step hle hl)
      clear hl
      by_cases hneg : lp m k < 0
      · have hdn : decide (lp m k < 0) = true := by simpa using hneg
        have HR := Lib.hid (HS.out.1 hneg)
        clear HS hneg
        go_wp2_with (go_at_call 66; refine (sLp_any _ _ _ m _ _ HM.out).mono ?_; rintro e w1 ⟨rfl, hb1⟩; have Hb1 := Lib.hid hb1; clear hb1)
        go_ret
        rw [HR.out]
        exact ⟨_, rfl, OInts.empty _ _ (Nat.le_trans Hbl.out.size Hb1.out.size), (step2 Hbl.out Hb1.out).alloc (Nat.le_trans Hbl.out.size Hb1.out.size) _⟩
      · have hdn : decide (lp m k < 0) = false := by simpa using hneg
        have HR := HS.out.2 hneg
        clear HS hneg
        go_wp2_with (first
          | (go_at_call 66; refine (sLp_any _ _ _ m _ _ HM.out).mono ?_; rintro e w1 ⟨rfl, hb1⟩; have Hb1 := Lib.hid hb1; clear hb1)
          | (at_builtin; refine wpList_push_one _ _ rfl _ _ rfl w.heap.size _ _ _ rfl (Hown.out.keep Hb1.out) (by omega) (Nat.le_trans Hbl.out.size Hb1.out.size) _ rfl rfl ?_; intro v1 w3 ho1 hb3; have Ho1 := Lib.hid ho1; have Hb3 := Lib.hid hb3; clear ho1 hb3))
        go_roundw
        case rel => exact ⟨k + 1, ys ++ [lp m k], by omega, by omega, by go_num, by have := HYL.out; simp; omega, by simpa using Ho1.out, (step2 Hbl.out Hb1.out).trans Hb3.out, HR⟩
        case measure => simp [intOf]; omega
    · have HE : Hid (ys = orbV m (n0 : Int)) := by have := hl.out; rw [show n0 + 1 - k = 0 by omega] at this; exact this
      have hne : ys.length + 1 = k := HYL.out
      have HNE : Hid (ys ≠ []) := fun e => by rw [e] at hne; simp at hne; omega
      clear hl hne
      go_wp2_with fail
      go_ret
      rw [← HE.out]
      exact ⟨_, rfl, Hown.out, Hbl.out⟩
end Go.Proofs.YtonfdiaefkghbaaGreatDoor

namespace Go.Proofs.YtonfdiaefkghbaaGreatDoor
open Go.RowKit
set_option linter.all false
set_option maxHeartbeats 1600000 in
theorem sFitsInto_any (pa : Option Addr) (na ca : Nat) (a : List (List Int)) (pb : Option Addr) (nb cb : Nat) (b : List (List Int)) (n : Int) (w : World) (ha : Intss w pa na a) (hb : Intss w pb nb b) :
    Calls Tryz.prog 14 #[.slice pa na ca, .slice pb nb cb, .int .i64 n] w fun e w' => e = .returned (.bool (fits a b n)) ∧ Below w.heap.size w w' := by
  have HA := Lib.hid ha
  have HB := Lib.hid hb
  clear ha hb
  obtain ⟨X, hX⟩ : ∃ X, orbV a n = X := ⟨_, rfl⟩
  obtain ⟨Y, hY⟩ : ∃ Y, orbV b n = Y := ⟨_, rfl⟩
  have HG : Hid (fits a b n = (fitL X Y && (decide (0 < X.length) && decide (0 < Y.length)))) := by show _ = _; rw [← hX, ← hY]; rfl
  have HX := Lib.hid hX
  have HY := Lib.hid hY
  clear hX hY
  go_enter Tryz.func14, Tryz.ntmps14
  go_wp2_with fail
  refine (sOrb_any _ _ _ a _ _ HA.out).mono ?_
  rintro e w1 ⟨v1, rfl, ho1, hb1⟩
  rw [HX.out] at ho1
  obtain ⟨ao1, cap1, rfl, hi1⟩ := ho1.form
  have Hi1 := Lib.hid hi1
  have Hb1 := Lib.hid hb1
  clear ho1 hi1 hb1
  go_wp2_with fail
  refine (sOrb_any _ _ _ b _ _ (HB.out.keep Hb1.out)).mono ?_
  rintro e w2 ⟨v2, rfl, ho2, hb2⟩
  rw [HY.out] at ho2
  obtain ⟨ao2, cap2, rfl, hi2⟩ := ho2.form
  have Hi2 := Lib.hid hi2
  have Hi1' := Lib.hid (Hi1.out.keep hb2)
  have Hb2 := Lib.hid (step2 Hb1.out hb2)
  have hxm := hi2.2.1
  have hym := Hi1.out.2.1
  clear ho2 hi2 hb2
  go_wp2_with fail
  go_loopw [9] (fun v wr => ∃ k : Nat, k ≤ X.length ∧ k ≤ Y.length ∧ v = .int .i64 k ∧ Hid (fitL (X.drop k) (Y.drop k) = fitL X Y) ∧ Drew w2 wr) (fun v _ => X.length - (intOf v).toNat)
  case atStart => exact ⟨0, Nat.zero_le _, Nat.zero_le _, rfl, rfl, Drew.refl _⟩
  case round =>
    obtain ⟨k, hk1, hk2, rfl, hr, m, rfl⟩ := hrel
    by_cases h1 : k < X.length
    · by_cases h2 : k < Y.length
      · obtain ⟨b1, o1, x, rfl, hcx, hgx⟩ := Hi1'.out.at_ h1
        obtain ⟨b2, o2, y, rfl, hcy, hgy⟩ := Hi2.out.at_ h2
        have HS := Lib.hid (fitL_step hgx.out hgy.out hr.out)
        clear hgx hgy hr
        by_cases hlt : y < x
        · have hd : decide (y < x) = true := by simpa using hlt
          have HR : Hid (fits a b n = false) := by show _ = _; rw [HG.out, HS.out.1 hlt]; rfl
          clear HS hlt
          go_wp2_with fail
          go_quiet (fail)
          go_wp2_with fail
          go_ret
          exact ⟨ret_bool HR.out.symm, below_drewN (below_drewN Hb2.out _) _⟩
        · have hd : decide (y < x) = false := by simpa using hlt
          have HR := HS.out.2 hlt
          clear HS hlt
          go_wp2_with fail
          go_quiet (fail)
          go_wp2_with fail
          go_roundw
          case rel => exact ⟨k + 1, h1, h2, by go_num, HR, (by first | exact Drew.refl _ | exact Drew.mk _ _ | exact (Drew.mk _ _).drewN _)⟩
          case measure => simp [intOf]; omega
      · have HR : Hid (fits a b n = (decide (0 < X.length) && decide (0 < Y.length))) := by show _ = _; rw [HG.out, fitL_end (.inr (by omega)) hr.out]; rfl
        have hdx : decide (0 < X.length) = true := by simp; omega
        clear hr
        cases hdy : decide (0 < Y.length)
        · have HR2 : Hid (fits a b n = false) := by show _ = _; rw [HR.out, hdy]; simp
          go_wp2_with fail
          go_ret
          exact ⟨ret_bool HR2.out.symm, below_drewN Hb2.out _⟩
        · have HR2 : Hid (fits a b n = true) := by show _ = _; rw [HR.out, hdx, hdy]; rfl
          go_wp2_with fail
          go_ret
          exact ⟨ret_bool HR2.out.symm, below_drewN Hb2.out _⟩
    · have HR : Hid (fits a b n = (decide (0 < X.length) && decide (0 < Y.length))) := by show _ = _; rw [HG.out, fitL_end (.inl (by omega)) hr.out]; rfl
      clear hr
      cases hdx : decide (0 < X.length)
      · have HR2 : Hid (fits a b n = false) := by show _ = _; rw [HR.out, hdx]; rfl
        go_wp2_with fail
        go_ret
        exact ⟨ret_bool HR2.out.symm, below_drewN Hb2.out _⟩
      · cases hdy : decide (0 < Y.length)
        · have HR2 : Hid (fits a b n = false) := by show _ = _; rw [HR.out, hdy]; simp
          go_wp2_with fail
          go_ret
          exact ⟨ret_bool HR2.out.symm, below_drewN Hb2.out _⟩
        · have HR2 : Hid (fits a b n = true) := by show _ = _; rw [HR.out, hdx, hdy]; rfl
          go_wp2_with fail
          go_ret
          exact ⟨ret_bool HR2.out.symm, below_drewN Hb2.out _⟩
end Go.Proofs.YtonfdiaefkghbaaGreatDoor

namespace Go.Proofs.YtonfdiaefkghbaaGreatDoor
open Go.RowKit
set_option linter.all false
set_option maxRecDepth 20000 in
set_option maxHeartbeats 1600000 in
theorem sIsBelow_in (p : Option Addr) (n c : Nat) (m : List (List Int)) (q : Int) (w : World) (h : Intss w p n m) (hs : isSmallM m = true) (hq : 0 ≤ q) (hq2 : q ≤ 3600) :
    Calls Tryz.prog 59 #[.slice p n c, .int .i64 q, .int .i64 100] w fun e w' => e = .returned (.bool (belowM m q 100)) ∧ Below w.heap.size w w' := by
  have H := Lib.hid h
  have HS := Lib.hid hs
  have B1 := Lib.hid (inR_mk (x := q) (lo := 0) (hi := 3600) ⟨hq, hq2⟩)
  have B2 := Lib.hid (inR_mk (x := (100 : Int)) (lo := 1) (hi := 100) ⟨by omega, by omega⟩)
  clear h hs
  go_enter Tryz.func59, Tryz.ntmps59
  go_wp2_with fail
  refine (sIsSmall_any _ _ _ m _ H.out).mono ?_
  rw [HS.out]
  rintro e w' ⟨rfl, rfl⟩
  go_wp2_with fail
  refine (l1In_any _ _ _ _).mono ?_
  rw [B1.out]
  rintro e w' ⟨rfl, rfl⟩
  go_wp2_with fail
  refine (l1In_any _ _ _ _).mono ?_
  rw [B2.out]
  rintro e w' ⟨rfl, rfl⟩
  go_wp2_with fail
  refine (sBelow_any _ _ _ m q 100 _ H.out HS.out hq (by omega) (by omega) (by omega)).mono ?_
  rintro e w' ⟨rfl, hb⟩
  have HB := Lib.hid hb
  clear hb
  go_wp2_with fail
  go_ret
  exact ⟨rfl, HB.out⟩
end Go.Proofs.YtonfdiaefkghbaaGreatDoor

namespace Go.Proofs.YtonfdiaefkghbaaGreatDoor
open Go.RowKit
set_option linter.all false
set_option maxRecDepth 20000 in
set_option maxHeartbeats 3200000 in
theorem sFloor_any (p : Option Addr) (n c : Nat) (m : List (List Int)) (d : Int) (w : World) (h : Intss w p n m) :
    Calls Tryz.prog 60 #[.slice p n c, .int .i64 d] w fun e w' => e = .returned (.int .i64 (floorG m d)) ∧ Below w.heap.size w w' := by
  have H := Lib.hid h
  clear h
  cases hs : isSmallM m
  · have hg : Hid (floorG m d = -1) := by show _ = _; simp [floorG, hs]
    go_enter Tryz.func60, Tryz.ntmps60
    go_wp2_with (first | (go_at_call 43; refine (sIsSmall_any _ _ _ m _ H.out).mono ?_; rintro e w' ⟨rfl, rfl⟩))
    go_ret
    exact ⟨ret_int hg.out.symm, Below.refl _ _⟩
  have HS := Lib.hid hs
  clear hs
  by_cases hd : 1 ≤ d ∧ d ≤ 100
  rotate_left
  · have hg : Hid (floorG m d = -1) := by show _ = _; unfold floorG; rw [inR_no (by omega)]; simp
    have B1 := Lib.hid (inR_no (x := d) (lo := 1) (hi := 100) (by omega))
    go_enter Tryz.func60, Tryz.ntmps60
    go_wp2_with (first | (go_at_call 43; refine (sIsSmall_any _ _ _ m _ H.out).mono ?_; rw [HS.out]; rintro e w' ⟨rfl, rfl⟩) | (go_at_call 65; refine (l1In_any _ _ _ _).mono ?_; rw [B1.out]; rintro e w' ⟨rfl, rfl⟩))
    go_ret
    exact ⟨ret_int hg.out.symm, Below.refl _ _⟩
  obtain ⟨h1, h2⟩ := hd
  have hg : Hid (bis (fun q => belowM m q d) 4000 0 (36 * d + 1) = floorG m d) := by show _ = _; unfold floorG; rw [HS.out, inR_mk ⟨h1, h2⟩]; simp
  obtain ⟨f, hf⟩ : ∃ f : Int → Bool, (fun q => belowM m q d) = f := ⟨_, rfl⟩
  have HF : Hid (∀ q, belowM m q d = f q) := by show ∀ q, _; intro q; rw [← hf]
  rw [hf] at hg
  clear hf
  have B1 := Lib.hid (inR_mk (x := d) (lo := 1) (hi := 100) ⟨h1, h2⟩)
  go_enter Tryz.func60, Tryz.ntmps60
  go_wp2_with (first | (go_at_call 43; refine (sIsSmall_any _ _ _ m _ H.out).mono ?_; rw [HS.out]; rintro e w' ⟨rfl, rfl⟩) | (go_at_call 65; refine (l1In_any _ _ _ _).mono ?_; rw [B1.out]; rintro e w' ⟨rfl, rfl⟩))
  go_loopw [5, 6] (fun x y wr => ∃ (lo hi : Int) (F : Nat), x = .int .i64 lo ∧ y = .int .i64 hi ∧ 0 ≤ lo ∧ lo < hi ∧ hi ≤ 3601 ∧ hi - lo ≤ F ∧ Hid (bis f F lo hi = floorG m d) ∧ Below w.heap.size w wr) (fun x y _ => (intOf y - intOf x).toNat)
  case atStart => exact ⟨0, 36 * d + 1, 4000, rfl, rfl, by omega, by omega, by omega, by omega, hg.out, Below.refl _ _⟩
  case round =>
    obtain ⟨lo, hi, F, rfl, rfl, g0, g1, g2, g3, hr, hbl⟩ := hrel
    have Hbl := Lib.hid hbl
    clear hbl hg
    by_cases hlt : 1 < hi - lo
    · obtain ⟨F', g4, HST⟩ := bis_step g3 hlt hr.out
      have HST := Lib.hid HST
      clear hr
      obtain ⟨q, hq⟩ : ∃ q, (lo + hi) / 2 = q := ⟨_, rfl⟩
      have hq1 : lo < q := by omega
      have hq2 : q < hi := by omega
      rw [hq] at HST
      have hdv : decide (1 < hi - lo) = true := decide_eq_true hlt
      clear hlt
      cases hfq : f q
      · have HN := Lib.hid (HST.out.2 hfq)
        have HFQ : Hid (belowM m q d = false) := (HF.out q).trans hfq
        clear HST hfq
        go_wp2_with fail
        refine (sBelow_any _ _ _ m q d _ (H.out.keep (Hbl.out.mono (Nat.le_refl _))) HS.out (by omega) (by omega) h1 h2).mono ?_
        rw [HFQ.out]
        rintro e w2 ⟨rfl, hb2⟩
        have HB2 := Lib.hid (step2 Hbl.out hb2)
        clear hb2
        go_wp2_with fail
        go_roundw
        case rel => exact ⟨q, hi, F', rfl, rfl, by omega, by omega, by omega, by omega, HN.out, HB2.out⟩
        case measure => simp [intOf]; omega
      · have HN := Lib.hid (HST.out.1 hfq)
        have HFQ : Hid (belowM m q d = true) := (HF.out q).trans hfq
        clear HST hfq
        go_wp2_with fail
        refine (sBelow_any _ _ _ m q d _ (H.out.keep (Hbl.out.mono (Nat.le_refl _))) HS.out (by omega) (by omega) h1 h2).mono ?_
        rw [HFQ.out]
        rintro e w2 ⟨rfl, hb2⟩
        have HB2 := Lib.hid (step2 Hbl.out hb2)
        clear hb2
        go_wp2_with fail
        go_roundw
        case rel => exact ⟨lo, q, F', rfl, rfl, by omega, by omega, by omega, by omega, HN.out, HB2.out⟩
        case measure => simp [intOf]; omega
    · have HE := Lib.hid (bis_end hlt hr.out)
      have hdv : decide (1 < hi - lo) = false := decide_eq_false hlt
      clear hr hlt
      go_wp2_with fail
      go_ret
      exact ⟨ret_int HE.out, Hbl.out⟩
end Go.Proofs.YtonfdiaefkghbaaGreatDoor

namespace Go.Proofs.YtonfdiaefkghbaaGreatDoor
open Go.RowKit
set_option linter.all false
set_option maxRecDepth 20000 in
set_option maxHeartbeats 6400000 in
theorem sCannot_any (pa : Option Addr) (na ca : Nat) (a : List (List Int)) (pb : Option Addr) (nb cb : Nat) (b : List (List Int)) (n : Int) (w : World) (ha : Intss w pa na a) (hb : Intss w pb nb b) :
    Calls Tryz.prog 16 #[.slice pa na ca, .slice pb nb cb, .int .i64 n] w fun e w' => e = .returned (.string (cannotT a b n)) ∧ Below w.heap.size w w' := by
  have HA := Lib.hid ha
  have HB := Lib.hid hb
  clear ha hb
  obtain ⟨X, hX⟩ : ∃ X, orbV a n = X := ⟨_, rfl⟩
  obtain ⟨Y, hY⟩ : ∃ Y, orbV b n = Y := ⟨_, rfl⟩
  have HX := Lib.hid hX
  have HY := Lib.hid hY
  cases h1 : isSmallM a
  · have hg : Hid (cannotT a b n = ⟨#[]⟩) := by show _ = _; unfold cannotT; rw [if_pos h1]
    have H1 := Lib.hid h1
    clear h1 hX hY
    go_enter Tryz.func16, Tryz.ntmps16
    go_wp2_with fail
    refine (sOrb_any _ _ _ a _ _ HA.out).mono ?_
    rintro e w1 ⟨v1, rfl, ho1, hb1⟩
    rw [HX.out] at ho1
    obtain ⟨ao1, cap1, rfl, hi1⟩ := ho1.form
    have Hi1 := Lib.hid hi1
    have Hb1 := Lib.hid hb1
    clear ho1 hi1 hb1
    go_wp2_with fail
    refine (sOrb_any _ _ _ b _ _ (HB.out.keep Hb1.out)).mono ?_
    rintro e w2 ⟨v2, rfl, ho2, hb2⟩
    rw [HY.out] at ho2
    obtain ⟨ao2, cap2, rfl, hi2⟩ := ho2.form
    have Hi2 := Lib.hid hi2
    have Hi1' := Lib.hid (Hi1.out.keep hb2)
    have Hb2 := Lib.hid (step2 Hb1.out hb2)
    have hxm := hi2.2.1
    have hym := Hi1.out.2.1
    clear ho2 hi2 hb2
    go_wp2_with fail
    refine (sIsSmall_any _ _ _ a _ (HA.out.keep Hb2.out)).mono ?_
    rw [H1.out]
    rintro e w' ⟨rfl, rfl⟩
    go_wp2_with fail
    go_ret
    exact ⟨ret_text hg.out.symm, Hb2.out⟩
  cases h2 : isSmallM b
  · have hg : Hid (cannotT a b n = ⟨#[]⟩) := by show _ = _; unfold cannotT; rw [if_neg (by simp [h1]), if_pos h2]
    have H1 := Lib.hid h1
    have H2 := Lib.hid h2
    clear h1 h2 hX hY
    go_enter Tryz.func16, Tryz.ntmps16
    go_wp2_with fail
    refine (sOrb_any _ _ _ a _ _ HA.out).mono ?_
    rintro e w1 ⟨v1, rfl, ho1, hb1⟩
    rw [HX.out] at ho1
    obtain ⟨ao1, cap1, rfl, hi1⟩ := ho1.form
    have Hi1 := Lib.hid hi1
    have Hb1 := Lib.hid hb1
    clear ho1 hi1 hb1
    go_wp2_with fail
    refine (sOrb_any _ _ _ b _ _ (HB.out.keep Hb1.out)).mono ?_
    rintro e w2 ⟨v2, rfl, ho2, hb2⟩
    rw [HY.out] at ho2
    obtain ⟨ao2, cap2, rfl, hi2⟩ := ho2.form
    have Hi2 := Lib.hid hi2
    have Hi1' := Lib.hid (Hi1.out.keep hb2)
    have Hb2 := Lib.hid (step2 Hb1.out hb2)
    have hxm := hi2.2.1
    have hym := Hi1.out.2.1
    clear ho2 hi2 hb2
    go_wp2_with fail
    refine (sIsSmall_any _ _ _ a _ (HA.out.keep Hb2.out)).mono ?_
    rw [H1.out]
    rintro e w' ⟨rfl, rfl⟩
    go_wp2_with fail
    refine (sIsSmall_any _ _ _ b _ (HB.out.keep Hb2.out)).mono ?_
    rw [H2.out]
    rintro e w' ⟨rfl, rfl⟩
    go_wp2_with fail
    go_ret
    exact ⟨ret_text hg.out.symm, Hb2.out⟩
  by_cases h3 : X.length = 0
  · have hg : Hid (cannotT a b n = ⟨#[]⟩) := by show _ = _; unfold cannotT; rw [if_neg (by simp [h1]), if_neg (by simp [h2]), if_pos (by rw [hX]; exact h3)]
    have H1 := Lib.hid h1
    have H2 := Lib.hid h2
    have d3 : ((X.length : Int) == 0) = true := by simp [h3]
    clear h1 h2 hX hY h3
    go_enter Tryz.func16, Tryz.ntmps16
    go_wp2_with fail
    refine (sOrb_any _ _ _ a _ _ HA.out).mono ?_
    rintro e w1 ⟨v1, rfl, ho1, hb1⟩
    rw [HX.out] at ho1
    obtain ⟨ao1, cap1, rfl, hi1⟩ := ho1.form
    have Hi1 := Lib.hid hi1
    have Hb1 := Lib.hid hb1
    clear ho1 hi1 hb1
    go_wp2_with fail
    refine (sOrb_any _ _ _ b _ _ (HB.out.keep Hb1.out)).mono ?_
    rintro e w2 ⟨v2, rfl, ho2, hb2⟩
    rw [HY.out] at ho2
    obtain ⟨ao2, cap2, rfl, hi2⟩ := ho2.form
    have Hi2 := Lib.hid hi2
    have Hi1' := Lib.hid (Hi1.out.keep hb2)
    have Hb2 := Lib.hid (step2 Hb1.out hb2)
    have hxm := hi2.2.1
    have hym := Hi1.out.2.1
    clear ho2 hi2 hb2
    go_wp2_with fail
    refine (sIsSmall_any _ _ _ a _ (HA.out.keep Hb2.out)).mono ?_
    rw [H1.out]
    rintro e w' ⟨rfl, rfl⟩
    go_wp2_with fail
    refine (sIsSmall_any _ _ _ b _ (HB.out.keep Hb2.out)).mono ?_
    rw [H2.out]
    rintro e w' ⟨rfl, rfl⟩
    go_wp2_with fail
    go_ret
    exact ⟨ret_text hg.out.symm, Hb2.out⟩
  have d3 : ((X.length : Int) == 0) = false := by rw [beq_eq_false_iff_ne]; omega
  by_cases h4 : Y.length = 0
  · have hg : Hid (cannotT a b n = ⟨#[]⟩) := by show _ = _; unfold cannotT; rw [if_neg (by simp [h1]), if_neg (by simp [h2]), if_neg (by rw [hX]; exact h3), if_pos (by rw [hY]; exact h4)]
    have H1 := Lib.hid h1
    have H2 := Lib.hid h2
    have d4 : ((Y.length : Int) == 0) = true := by simp [h4]
    clear h1 h2 hX hY h3 h4
    go_enter Tryz.func16, Tryz.ntmps16
    go_wp2_with fail
    refine (sOrb_any _ _ _ a _ _ HA.out).mono ?_
    rintro e w1 ⟨v1, rfl, ho1, hb1⟩
    rw [HX.out] at ho1
    obtain ⟨ao1, cap1, rfl, hi1⟩ := ho1.form
    have Hi1 := Lib.hid hi1
    have Hb1 := Lib.hid hb1
    clear ho1 hi1 hb1
    go_wp2_with fail
    refine (sOrb_any _ _ _ b _ _ (HB.out.keep Hb1.out)).mono ?_
    rintro e w2 ⟨v2, rfl, ho2, hb2⟩
    rw [HY.out] at ho2
    obtain ⟨ao2, cap2, rfl, hi2⟩ := ho2.form
    have Hi2 := Lib.hid hi2
    have Hi1' := Lib.hid (Hi1.out.keep hb2)
    have Hb2 := Lib.hid (step2 Hb1.out hb2)
    have hxm := hi2.2.1
    have hym := Hi1.out.2.1
    clear ho2 hi2 hb2
    go_wp2_with fail
    refine (sIsSmall_any _ _ _ a _ (HA.out.keep Hb2.out)).mono ?_
    rw [H1.out]
    rintro e w' ⟨rfl, rfl⟩
    go_wp2_with fail
    refine (sIsSmall_any _ _ _ b _ (HB.out.keep Hb2.out)).mono ?_
    rw [H2.out]
    rintro e w' ⟨rfl, rfl⟩
    go_wp2_with fail
    go_ret
    exact ⟨ret_text hg.out.symm, Hb2.out⟩
  have d4 : ((Y.length : Int) == 0) = false := by rw [beq_eq_false_iff_ne]; omega
  have hpx := orbV_pos (m := a) (n := n) (by rw [hX]; exact h3)
  have hpy := orbV_pos (m := b) (n := n) (by rw [hY]; exact h4)
  rw [hX] at hpx
  rw [hY] at hpy
  obtain ⟨m, rfl⟩ : ∃ m : Nat, n = (m : Int) := ⟨n.toNat, by omega⟩
  have hxl : X.length = m := by have := hpx.2.2; rw [Int.toNat_natCast] at this; exact this
  have hyl : Y.length = m := by have := hpy.2.2; rw [Int.toNat_natCast] at this; exact this
  have hm10 : m ≤ 10 := by omega
  have HF := Lib.hid (floor_range h1)
  cases h5 : belowM b (floorG a 100) 100
  rotate_left
  · have hg : Hid (cannotT a b m = txtGrowth) := by show _ = _; unfold cannotT; rw [if_neg (by simp [h1]), if_neg (by simp [h2]), if_neg (by rw [hX]; exact h3), if_neg (by rw [hY]; exact h4), if_pos h5]
    have H1 := Lib.hid h1
    have H2 := Lib.hid h2
    have HBL := Lib.hid h5
    clear h1 h2 hX hY h3 h4 h5 hpx hpy hxl hyl
    go_enter Tryz.func16, Tryz.ntmps16
    go_wp2_with fail
    refine (sOrb_any _ _ _ a _ _ HA.out).mono ?_
    rintro e w1 ⟨v1, rfl, ho1, hb1⟩
    rw [HX.out] at ho1
    obtain ⟨ao1, cap1, rfl, hi1⟩ := ho1.form
    have Hi1 := Lib.hid hi1
    have Hb1 := Lib.hid hb1
    clear ho1 hi1 hb1
    go_wp2_with fail
    refine (sOrb_any _ _ _ b _ _ (HB.out.keep Hb1.out)).mono ?_
    rintro e w2 ⟨v2, rfl, ho2, hb2⟩
    rw [HY.out] at ho2
    obtain ⟨ao2, cap2, rfl, hi2⟩ := ho2.form
    have Hi2 := Lib.hid hi2
    have Hi1' := Lib.hid (Hi1.out.keep hb2)
    have Hb2 := Lib.hid (step2 Hb1.out hb2)
    have hxm := hi2.2.1
    have hym := Hi1.out.2.1
    clear ho2 hi2 hb2
    go_wp2_with fail
    refine (sIsSmall_any _ _ _ a _ (HA.out.keep Hb2.out)).mono ?_
    rw [H1.out]
    rintro e w' ⟨rfl, rfl⟩
    go_wp2_with fail
    refine (sIsSmall_any _ _ _ b _ (HB.out.keep Hb2.out)).mono ?_
    rw [H2.out]
    rintro e w' ⟨rfl, rfl⟩
    go_wp2_with fail
    refine (sFloor_any _ _ _ a 100 _ (HA.out.keep Hb2.out)).mono ?_
    rintro e w3 ⟨rfl, hb3⟩
    have Hb3 := Lib.hid (step2 Hb2.out hb3)
    have Hi13 := Lib.hid (Hi1'.out.keep hb3)
    have Hi23 := Lib.hid (Hi2.out.keep hb3)
    clear hb3
    go_wp2_with fail
    refine (sIsBelow_in _ _ _ b (floorG a 100) _ (HB.out.keep Hb3.out) H2.out HF.out.1 HF.out.2).mono ?_
    rw [HBL.out]
    rintro e w4 ⟨rfl, hb4⟩
    have Hb4 := Lib.hid (step2 Hb3.out hb4)
    have Hi14 := Lib.hid (Hi13.out.keep hb4)
    have Hi24 := Lib.hid (Hi23.out.keep hb4)
    clear hb4
    go_wp2_with fail
    go_ret
    exact ⟨ret_text hg.out.symm, Hb4.out⟩
  have hcn : cannotT a b m = if 0 ≤ fgI 0 X Y then txtOrbits ++ decB ((fgI 0 X Y).toNat + 1) else txtDash := by
    unfold cannotT
    rw [if_neg (by simp [h1]), if_neg (by simp [h2]), if_neg (by rw [hX]; exact h3), if_neg (by rw [hY]; exact h4), if_neg (by simp [h5]), hX, hY]
  have HCN := Lib.hid hcn
  have H1 := Lib.hid h1
  have H2 := Lib.hid h2
  have HBL := Lib.hid h5
  have HXL := Lib.hid hxl
  have HYL := Lib.hid hyl
  clear h1 h2 hX hY h3 h4 h5 hpx hpy hcn hxl hyl
  go_enter Tryz.func16, Tryz.ntmps16
  go_wp2_with fail
  refine (sOrb_any _ _ _ a _ _ HA.out).mono ?_
  rintro e w1 ⟨v1, rfl, ho1, hb1⟩
  rw [HX.out] at ho1
  obtain ⟨ao1, cap1, rfl, hi1⟩ := ho1.form
  have Hi1 := Lib.hid hi1
  have Hb1 := Lib.hid hb1
  clear ho1 hi1 hb1
  go_wp2_with fail
  refine (sOrb_any _ _ _ b _ _ (HB.out.keep Hb1.out)).mono ?_
  rintro e w2 ⟨v2, rfl, ho2, hb2⟩
  rw [HY.out] at ho2
  obtain ⟨ao2, cap2, rfl, hi2⟩ := ho2.form
  have Hi2 := Lib.hid hi2
  have Hi1' := Lib.hid (Hi1.out.keep hb2)
  have Hb2 := Lib.hid (step2 Hb1.out hb2)
  have hxm := hi2.2.1
  have hym := Hi1.out.2.1
  clear ho2 hi2 hb2
  go_wp2_with fail
  refine (sIsSmall_any _ _ _ a _ (HA.out.keep Hb2.out)).mono ?_
  rw [H1.out]
  rintro e w' ⟨rfl, rfl⟩
  go_wp2_with fail
  refine (sIsSmall_any _ _ _ b _ (HB.out.keep Hb2.out)).mono ?_
  rw [H2.out]
  rintro e w' ⟨rfl, rfl⟩
  go_wp2_with fail
  refine (sFloor_any _ _ _ a 100 _ (HA.out.keep Hb2.out)).mono ?_
  rintro e w3 ⟨rfl, hb3⟩
  have Hb3 := Lib.hid (step2 Hb2.out hb3)
  have Hi13 := Lib.hid (Hi1'.out.keep hb3)
  have Hi23 := Lib.hid (Hi2.out.keep hb3)
  clear hb3
  go_wp2_with fail
  refine (sIsBelow_in _ _ _ b (floorG a 100) _ (HB.out.keep Hb3.out) H2.out HF.out.1 HF.out.2).mono ?_
  rw [HBL.out]
  rintro e w4 ⟨rfl, hb4⟩
  have Hb4 := Lib.hid (step2 Hb3.out hb4)
  have Hi14 := Lib.hid (Hi13.out.keep hb4)
  have Hi24 := Lib.hid (Hi23.out.keep hb4)
  clear hb4
  go_wp2_with fail
  go_loopw [9] (fun v wr => ∃ k : Nat, k ≤ m ∧ v = .int .i64 k ∧ Hid (fgI k (X.drop k) (Y.drop k) = fgI 0 X Y) ∧ Drew w4 wr) (fun v _ => m - (intOf v).toNat)
  case atStart => exact ⟨0, Nat.zero_le _, rfl, rfl, Drew.refl _⟩
  case round =>
    obtain ⟨k, hk, rfl, hr, q, rfl⟩ := hrel
    by_cases hlt : k < m
    · obtain ⟨b1, o1, x, rfl, hcx, hgx⟩ := Hi14.out.at_ (k := k) (by have := HXL.out; omega)
      obtain ⟨b2, o2, y, rfl, hcy, hgy⟩ := Hi24.out.at_ (k := k) (by have := HYL.out; omega)
      have HS := Lib.hid (fgI_step hgx.out hgy.out hr.out)
      have hkx : k < X.length := by have := HXL.out; omega
      have hky : k < Y.length := by have := HYL.out; omega
      clear hgx hgy hr
      by_cases h1 : y < x
      · have hd : decide (y < x) = true := by simpa using h1
        have HR := Lib.hid (HS.out.1 h1)
        have HG : Hid (cannotT a b m = txtOrbits ++ decB (k + 1)) := by show _ = _; rw [HCN.out, HR.out, if_pos (by omega), Int.toNat_natCast]
        have hcast : (k : Int) + 1 = ((k + 1 : Nat) : Int) := by omega
        have hds := decB_size (u := k + 1) (by omega)
        clear HS h1 HR
        go_wp2_with fail
        go_quiet (fail)
        clear hcast
        go_wp2_with (go_at_call 61; refine (sFormat_succ k _ (by omega)).mono ?_; rintro e w5 ⟨rfl, hb5⟩; have Hb5 : Hid (Below w.heap.size w w5) := (by first | exact step2 (below_drewN Hb4.out _) hb5 | exact step2 (below_drewN (below_drewN Hb4.out _) _) hb5); clear hb5)
        go_ret
        exact ⟨ret_text HG.out.symm, Hb5.out⟩
      · have hd : decide (y < x) = false := by simpa using h1
        have HR := Lib.hid (HS.out.2 h1)
        clear HS h1
        go_wp2_with fail
        go_quiet (fail)
        go_wp2_with fail
        go_roundw
        case rel => exact ⟨k + 1, hlt, by go_num, HR.out, (by first | exact Drew.refl _ | exact Drew.mk _ _ | exact (Drew.mk _ _).drewN _)⟩
        case measure => (simp [intOf] <;> omega)
    · have HR := Lib.hid (fgI_end (by have := HXL.out; omega) hr.out)
      have HG : Hid (cannotT a b m = txtDash) := by show _ = _; rw [HCN.out, HR.out, if_neg (by omega)]
      clear hr
      go_wp2_with fail
      go_ret
      exact ⟨ret_text HG.out.symm, below_drewN Hb4.out _⟩
end Go.Proofs.YtonfdiaefkghbaaGreatDoor

namespace Go.Proofs.YtonfdiaefkghbaaGreatDoor
open Go.RowKit
set_option linter.all false
set_option maxHeartbeats 1600000 in
theorem sCountRooted_any (pm : Option Addr) (nm cm : Nat) (m : List (List Int)) (i n : Int) (w : World) (hm : Intss w pm nm m) :
    Calls Tryz.prog 23 #[.slice pm nm cm, .int .i64 i, .int .i64 n] w fun e w' => e = .returned (.int .i64 (rooted m i n)) ∧ Below w.heap.size w w' := by
  have hmm := hm.2.1
  have HM := Lib.hid hm
  have HLM : Hid (m.length = nm) := hm.1
  clear hm
  cases h1 : isMat m
  · have hg : Hid (rooted m i n = -1) := rooted_mat h1
    go_enter Tryz.func23, Tryz.ntmps23
    go_wp2_with (first | (go_at_call 69; refine (sIsMatrix_any _ _ _ m _ HM.out).mono ?_; rintro e w' ⟨rfl, rfl⟩))
    go_ret
    exact ⟨ret_int hg.out.symm, Below.refl _ _⟩
  cases h2 : inR i 0 ((nm : Int) - 1)
  · have hg : Hid (rooted m i n = -1) := rooted_i (by rw [HLM.out]; exact h2)
    go_enter Tryz.func23, Tryz.ntmps23
    go_wp2_with (first | (go_at_call 69; refine (sIsMatrix_any _ _ _ m _ HM.out).mono ?_; rintro e w' ⟨rfl, rfl⟩) | (go_at_call 65; refine (l1In_any _ _ _ _).mono ?_; rintro e w' ⟨rfl, rfl⟩))
    go_ret
    exact ⟨ret_int hg.out.symm, Below.refl _ _⟩
  cases h3 : inR n 1 30
  · have hg : Hid (rooted m i n = -1) := rooted_n h3
    go_enter Tryz.func23, Tryz.ntmps23
    go_wp2_with (first | (go_at_call 69; refine (sIsMatrix_any _ _ _ m _ HM.out).mono ?_; rintro e w' ⟨rfl, rfl⟩) | (go_at_call 65; refine (l1In_any _ _ _ _).mono ?_; rintro e w' ⟨rfl, rfl⟩))
    go_ret
    exact ⟨ret_int hg.out.symm, Below.refl _ _⟩
  have hi2 := inR_true h2
  obtain ⟨k, rfl⟩ := Int.eq_ofNat_of_zero_le hi2.1
  have hk : k < nm := by omega
  have H123 : Hid (isMat m = true ∧ inR (k : Int) 0 (m.length - 1) = true ∧ inR n 1 30 = true) := ⟨h1, by rw [HLM.out]; exact h2, h3⟩
  clear hi2
  go_enter Tryz.func23, Tryz.ntmps23
  go_wp2_with (first | (go_at_call 69; refine (sIsMatrix_any _ _ _ m _ HM.out).mono ?_; rintro e w' ⟨rfl, rfl⟩) | (go_at_call 65; refine (l1In_any _ _ _ _).mono ?_; rintro e w' ⟨rfl, rfl⟩))
  clear h1 h2 h3
  refine (sPowM_any _ _ _ m _ _ HM.out).mono ?_
  rintro e w1 ⟨v, rfl, hown, hbl⟩
  cases hp : powM m n with
  | none =>
    have hg : Hid (rooted m k n = -1) := rooted_none hp
    have Hbl := Lib.hid hbl
    clear hown hbl
    go_wp2_with fail
    go_ret
    exact ⟨ret_int hg.out.symm, Hbl.out⟩
  | some p =>
    have hpm := powM_mat hp
    have hpl : p.length = nm := by rw [hpm.2.2, HLM.out]
    rw [hp] at hown
    have hown' : OIntss w1 w.heap.size v p.length p := hown
    rw [hpl] at hown'
    obtain ⟨ao, cap, rfl, hin⟩ := hown'.form
    obtain ⟨b, o, ai, ci, q, rfl, hc, hrow, hget⟩ := hin.at_ hk
    have hql : q.length = nm := by rw [(isMat_row hpm.2.1 hget.out).1, hpl]
    obtain ⟨b', o', x, rfl, hcx, hgetx⟩ := hrow.at_ (k := k) (by omega)
    have hg : Hid (rooted m k n = x) := rooted_some (r := m) H123.out.1 H123.out.2.1 H123.out.2.2 hp hget.out hgetx.out
    have Hbl := Lib.hid hbl
    have hkq : k < q.length := by omega
    clear hown hbl hown' hin hrow hpm hpl hql
    go_wp2_with fail
    go_ret
    exact ⟨ret_int hg.out.symm, Hbl.out⟩
end Go.Proofs.YtonfdiaefkghbaaGreatDoor

namespace Go.Proofs.YtonfdiaefkghbaaGreatDoor
open Go.RowKit
set_option linter.all false
theorem Intss.one {W : World} {ao : Option Addr} {cap : Nat} {r : List Int} (h : Ints W ao r.length r) (hcap : r.length ≤ cap) : Intss (W.alloc (.cells #[.slice ao r.length cap] 34)) (some ⟨W.heap.size, 0, none⟩) 1 [r] := by
  refine ⟨rfl, by omega, fun i q hi => ?_⟩
  match i, hi with
  | 0, hi =>
    simp at hi
    subst hi
    exact ⟨W.heap.size, 0, ao, cap, rfl, World.cell?_alloc_new _ _ _ _, h.keep ((Below.refl _ _).alloc (Nat.le_refl _) _), hcap⟩
  | i + 1, hi => simp at hi
set_option maxRecDepth 20000 in
set_option maxHeartbeats 3200000 in
theorem sFirst_any (pm : Option Addr) (nm cm : Nat) (m : List (List Int)) (i n : Int) (w : World) (h : Intss w pm nm m) :
    Calls Tryz.prog 17 #[.slice pm nm cm, .int .i64 i, .int .i64 n] w fun e w' => e = .returned (.int .i64 (firstR m i n)) ∧ Below w.heap.size w w' := by
  have HL : Hid (m.length = nm) := h.1
  have H := Lib.hid h
  clear h
  by_cases h10 : 10 < n
  · have hg : Hid (firstR m i n = -1) := by show _ = _; simp [firstR, h10]
    go_enter Tryz.func17, Tryz.ntmps17
    go_wp2_with fail
    go_ret
    exact ⟨ret_int hg.out.symm, Below.refl _ _⟩
  have hd10 : decide (10 < n) = false := by simpa using h10
  by_cases hc : rooted m i n < 0
  · have hg : Hid (firstR m i n = -1) := by show _ = _; simp [firstR, h10, hc]
    have hdc : decide (rooted m i n < 0) = true := by simpa using hc
    clear hc
    go_enter Tryz.func17, Tryz.ntmps17
    go_wp2_with (go_at_call 23; refine (sCountRooted_any _ _ _ m _ _ _ H.out).mono ?_; rintro e w1 ⟨rfl, hb1⟩; have Hb1 := Lib.hid hb1; clear hb1)
    go_ret
    exact ⟨ret_int hg.out.symm, Hb1.out⟩
  have hf := rooted_facts hc
  have hdc : decide (rooted m i n < 0) = false := by simpa using hc
  have hg : Hid (firstR m i n = (frRow m i.toNat (n.toNat - 1)).getD i.toNat 0) := by show _ = _; simp [firstR, h10, hc]
  obtain ⟨hmat, hi0, hiN, hn1, _, _⟩ := hf
  obtain ⟨i0, rfl⟩ := Int.eq_ofNat_of_zero_le hi0
  obtain ⟨n0, rfl⟩ := Int.eq_ofNat_of_zero_le (show 0 ≤ n by omega)
  have hi : i0 < nm := by have := HL.out; omega
  have hml := isMat_len hmat
  have hn9 : nm ≤ 9 := by have := HL.out; omega
  have HM : Hid (isMat m = true) := hmat
  have HR := Lib.hid (isMat_rowsLen hmat HL.out)
  have hn10 : n0 ≤ 10 := by omega
  have hn1' : 1 ≤ n0 := by omega
  clear hc h10 hmat hi0 hiN hn1 hml
  obtain ⟨b1, o1, a1, c1, r, rfl, hca, hrow, hget⟩ := H.out.at_ hi
  have hrl : r.length = nm := HR.out _ _ hget.out
  have HF0 : Hid (frRow m i0 0 = r) := by show m.getD i0 [] = r; exact getD_get hget.out
  go_enter Tryz.func17, Tryz.ntmps17
  go_wp2_with fail
  refine (sCountRooted_any _ _ _ m _ _ _ H.out).mono ?_
  rintro e w1 ⟨rfl, hb1⟩
  have hbx : Below w.heap.size w (w1.alloc (.cells #[] 3)) := hb1.alloc hb1.size _
  have q1 := (hb1.cell (World.block_lt_of_cell? w _ hca)).trans hca
  have q2 := (hbx.cell (World.block_lt_of_cell? w _ hca)).trans hca
  have HRow := Lib.hid (hrow.keep hbx)
  have HE := Lib.hid ((OInts.empty w1 w1.heap.size (Nat.le_refl _)).mono hb1.size)
  have HB1 := Lib.hid hbx
  have HRL := Lib.hid hrl
  have hrm : r.length ≤ 9 := by omega
  have Hget := Lib.hid hget.out
  clear hb1 hbx hca hrow hget hrl
  go_wp2_with (first
    | (at_builtin; refine wpList_app_ints _ rfl _ _ rfl w.heap.size _ 0 [] rfl HE.out _ _ _ r rfl HRow.out (by omega) HB1.out.size ?_; intro v2 w2 ho2 hg2; rw [Nat.zero_add, List.nil_append] at ho2; have Ho2 := Lib.hid ho2; have Hb2 : Hid (Below w.heap.size w w2) := HB1.out.grown hg2 HB1.out.size (fun k hk => (HE.out.ownlt k hk).1); clear ho2 hg2))
  clear hdc hd10 q1 q2
  go_loopw [7, 8] (fun v x wr => ∃ k : Nat, 1 ≤ k ∧ k ≤ n0 ∧ x = .int .i64 k ∧ OInts wr w.heap.size v nm (frRow m i0 (k - 1)) ∧ Below w.heap.size w wr) (fun _ x _ => n0 - (intOf x).toNat)
  case atStart => exact ⟨1, Nat.le_refl _, hn1', rfl, by have h9 := Ho2.out; rw [HRL.out] at h9; show OInts w2 w.heap.size v2 nm (frRow m i0 0); rw [HF0.out]; exact h9, Hb2.out⟩
  case round =>
    obtain ⟨k, hk1, hk2, rfl, hown, hbl⟩ := hrel
    obtain ⟨g, cap, rfl⟩ := hown.head (by omega)
    have hci := hown.cell i0 hi
    have hfi := hown.frozen i0
    have hgl := hown.lt
    by_cases hlt : k < n0
    · have HS := Lib.hid (hown.set i0 0)
      have hsl : ((frRow m i0 (k - 1)).set i0 0).length = nm := HS.out.len
      have hcap : nm ≤ cap := HS.out.capLe rfl
      have hbs := hbl.setCell (p := ⟨g, i0, none⟩) hgl.1 (.int .i64 0)
      have HI : Hid (Intss ((wr.setCell ⟨g, i0, none⟩ (.int .i64 0)).alloc (.cells #[.slice (some ⟨g, 0, none⟩) nm cap] 34)) (some ⟨wr.heap.size, 0, none⟩) 1 [(frRow m i0 (k - 1)).set i0 0]) := by
        have h9 := Intss.one (W := wr.setCell ⟨g, i0, none⟩ (.int .i64 0)) (ao := some ⟨g, 0, none⟩) (cap := cap) (r := (frRow m i0 (k - 1)).set i0 0) (by rw [hsl]; exact HS.out.ints) (by rw [hsl]; exact hcap)
        rw [hsl] at h9
        have h8 : (wr.setCell ⟨g, i0, none⟩ (.int .i64 0)).heap.size = wr.heap.size := by simp
        rw [h8] at h9
        exact h9
      have hb3 : Below w.heap.size w ((wr.setCell ⟨g, i0, none⟩ (.int .i64 0)).alloc (.cells #[.slice (some ⟨g, 0, none⟩) nm cap] 34)) := hbs.alloc (by simpa using hbl.size) _
      have HM3 := Lib.hid (H.out.keep hb3)
      have HB3 := Lib.hid hb3
      have HRA : Hid (RowsLen [(frRow m i0 (k - 1)).set i0 0] nm) := fun j q hq => by
        match j, hq with
        | 0, hq => simp at hq; subst hq; exact hsl
        | j + 1, hq => simp at hq
      have HFS : Hid (mulRow m nm ((frRow m i0 (k - 1)).set i0 0) = frRow m i0 k) := by
        obtain ⟨j, rfl⟩ : ∃ j, k = j + 1 := ⟨k - 1, by omega⟩
        show mulRow m nm ((frRow m i0 j).set i0 0) = mulRow m m.length ((frRow m i0 j).set i0 0)
        rw [HL.out]
      have hnp : 0 < nm := by omega
      clear hown hbl hbs hb3 hsl hcap HS
      go_wp2_with (first
        | (go_at_call 62; refine (sL4Times_any _ _ _ [(frRow m i0 (k - 1)).set i0 0] _ _ _ m nm _ HI.out HM3.out HRA.out HR.out (by omega) (by omega)).mono ?_; rintro e w4 ⟨v4, rfl, ho4, hb4⟩; obtain ⟨g4, c4, rfl⟩ := ho4.head (by omega); obtain ⟨g5, c5, hc5, ho5, _, _⟩ := ho4.rowAt (k := 0) (r := mulRow m nm ((frRow m i0 (k - 1)).set i0 0)) rfl (by rw [mulRow_len]; exact hnp); rw [mulRow_len] at hc5 ho5; rw [HFS.out] at ho5; have Ho5 := Lib.hid (ho5.mono HB3.out.size); have Hb4 := Lib.hid (step2 HB3.out hb4); clear ho4 ho5 hb4))
      go_roundw
      case rel =>
        first | exact ⟨k + 1, by omega, by omega, by go_num, Ho5.out, Hb4.out⟩ | ((repeat apply Exists.intro); exact ⟨⟨k + 1, by omega, by omega, by go_num, Ho5.out, Hb4.out⟩, rfl⟩)
      case measure => simp [intOf]; omega
    · have e : k = n0 := by omega
      subst e
      have Hbl := Lib.hid hbl
      clear hown hbl
      go_wp2_with fail
      go_ret
      exact ⟨ret_int (by rw [hg.out]; rfl), Hbl.out⟩
end Go.Proofs.YtonfdiaefkghbaaGreatDoor

namespace Go.Proofs.YtonfdiaefkghbaaGreatDoor
open Go.RowKit
set_option linter.all false
set_option maxRecDepth 20000 in
set_option maxHeartbeats 3200000 in
theorem iNumbers_any (ao : Option Addr) (n cap : Nat) (xs : List Int) (w : World) (h : Ints w ao n xs) (h1 : 1 ≤ n) (h6 : n ≤ 6) (hi : Idx 60 xs) :
    Calls Tryz.prog 51 #[.slice ao n cap, .string ⟨#[]⟩] w fun e w' => e = .returned (.string (txtP xs)) ∧ Below w.heap.size w w' := by
  have HL : Hid (xs.length = n) := h.1
  have H := Lib.hid h
  have HI := Lib.hid hi
  have Hem := Lib.hid (OStrs.empty w w.heap.size (Nat.le_refl _))
  have HDL : Hid ((decL xs).length = n) := by show _ = _; rw [decL, List.length_map, HL.out]
  have HJ : Hid ((joinB (decL xs) ⟨#[]⟩).size ≤ 1073741824) := by
    show _ ≤ _
    rw [joinB_txt]
    have := txtP_size xs hi
    have := HL.out
    omega
  have HRT : Hid (joinB (decL xs) ⟨#[]⟩ = txtP xs) := joinB_txt xs
  clear h hi
  go_enter Tryz.func51, Tryz.ntmps51
  go_wp2_with fail
  go_loopw [5, 11] (fun v x wr => ∃ k : Nat, k ≤ n ∧ x = .int .i64 k ∧ OStrs wr w.heap.size v k ((decL xs).take k) ∧ Below w.heap.size w wr) (fun _ x _ => n - (intOf x).toNat)
  case atStart => exact ⟨0, Nat.zero_le _, rfl, by simpa using Hem.out, belowA _ _⟩
  case round =>
    obtain ⟨k, hk, rfl, hown, hbl⟩ := hrel
    have HO := Lib.hid hown
    have HB := Lib.hid hbl
    by_cases hlt : k < n
    · obtain ⟨b, o, x, rfl, hcw, hs⟩ := H.out.at_ hlt
      have hxm := HI.out x (List.mem_of_getElem? hs.out)
      obtain ⟨u, rfl⟩ : ∃ u : Nat, x = (u : Int) := ⟨x.toNat, by omega⟩
      have hc := (HB.out.cell (World.block_lt_of_cell? w _ hcw)).trans hcw
      have HPT : Hid ((decL xs).take k ++ [decB u] = (decL xs).take (k + 1)) := push_take (by rw [decL, List.getElem?_map, hs.out]; rfl)
      have hds := decB_size (u := u) (by omega)
      clear hown hbl hs hcw Hem
      go_wp2_with (first
        | (go_at_call 58; refine (iFormatS_any u _ (by omega)).mono ?_; rintro e w1 ⟨rfl, rfl⟩)
        | (refine wpList_push_str wr (decB u) rfl (.tmp 15) (.tmp 18) rfl w.heap.size _ _ _ rfl HO.out (by omega) HB.out.size _ rfl rfl ?_; intro v2 w2 ho2 hb2; have HO2 := Lib.hid ho2; have HB2 := Lib.hid hb2; clear ho2 hb2))
      go_roundw
      case rel =>
        have h9 := HO2.out
        rw [HPT.out] at h9
        first | exact ⟨k + 1, hlt, by go_num, h9, HB.out.trans HB2.out⟩ | ((repeat apply Exists.intro); exact ⟨⟨k + 1, hlt, by go_num, h9, HB.out.trans HB2.out⟩, rfl⟩)
      case measure => (simp [intOf] <;> omega)
    · have e : k = n := by omega
      have HT : Hid ((decL xs).take k = decL xs) := by show _ = _; rw [List.take_of_length_le (by have := HDL.out; omega)]
      have hoo := HO.out
      rw [HT.out, e] at hoo
      obtain ⟨g, cg, rfl⟩ := hoo.head (by omega)
      have hcells : ∀ (j : Nat) x, (decL xs)[j]? = some x → wr.cell? ⟨g, 0 + j, none⟩ = some (.string x) := fun j x hj => by rw [Nat.zero_add]; exact hoo.cell hj
      have hcon := Tryz.strings_Join g 0 cg (decL xs) ⟨#[]⟩ wr hcells hoo.lt.2 (by have := HDL.out; omega) (by rw [HDL.out]; exact hoo.capLe rfl) (by rw [joinB_len]; have := HJ.out; omega)
      rw [HDL.out] at hcon
      have HC := Lib.hid hcon
      clear hcon hcells hoo HO hown hbl HT
      go_wp2_with (go_at_call 100; refine HC.out.mono ?_; rintro e w1 ⟨rfl, hb1⟩; have HB1 := Lib.hid (step2 HB.out hb1); clear hb1)
      go_ret
      exact ⟨ret_text HRT.out, HB1.out⟩
end Go.Proofs.YtonfdiaefkghbaaGreatDoor
