/- Parts of the proof of a law, joined: D4b D17 SSpOutA D17o IDiagonal IGroupOf ITurned ISameZ IDiffers IFlowLike ILines. -/
import Derived.Deep.RegionLaw
import Derived.Test.YtbjoblgklcilpaaGreatDoorProg
import Derived.Test.YtbjoblgklcilpaaGreatDoorJD4
import Derived.Test.YtbjoblgklcilpaaGreatDoorJG0a
import Derived.Test.YtbjoblgklcilpaaGreatDoorJG0b
import Derived.Test.YtbjoblgklcilpaaGreatDoorJThA
import Derived.Test.YtbjoblgklcilpaaGreatDoorJG1a
import Derived.Test.YtbjoblgklcilpaaGreatDoorJSSpOut
import Derived.Test.YtbjoblgklcilpaaGreatDoorJIMinors
import Derived.Test.YtbjoblgklcilpaaGreatDoorJG1b
import Derived.Test.YtbjoblgklcilpaaGreatDoorJICharP
import Derived.Test.YtbjoblgklcilpaaGreatDoorJEqMat
import Derived.Test.YtbjoblgklcilpaaGreatDoorJG1c
namespace Go.Proofs.YtbjoblgklcilpaaGreatDoor
open Go.RowKit
set_option linter.all false
theorem bent_set {T : List (List Int)} {i j : Nat} {x : Int} (h : Bent T) (hi : i < T.length) : Bent (T.set i (T[i].set j x)) := by
  refine ⟨by rw [List.length_set]; exact h.1, by rw [List.length_set]; exact h.2.1, fun r hr => ?_⟩
  rcases List.mem_or_eq_of_mem_set hr with hr | rfl
  · exact h.2.2 r hr
  · rw [List.length_set]; exact h.2.2 _ (List.getElem_mem _)
theorem grown_far {w W w' : World} {b g : Nat} (h : w.grownBy W (some b)) (k : W.grownBy w' (some g)) (hg : w.heap.size ≤ g) : w.grownBy w' (some b) := by
  refine ⟨k.os.trans h.os, ?_, k.output.trans h.output, Nat.le_trans h.size k.size, fun i hi hne => (k.block i (Nat.lt_of_lt_of_le hi h.size) (by intro e; injection e; omega)).trans (h.block i hi hne)⟩
  first | exact k.tape.trans h.tape | exact Nat.le_trans h.tape k.tape | exact h.tape.trans k.tape
theorem bent_push {T : List (List Int)} (h : Bent T) (h4 : T.length ≤ 4) : Bent (T ++ [[1]]) := by
  refine ⟨by simp, by simp; omega, fun r hr => ?_⟩
  rcases List.mem_append.1 hr with hr | hr
  · exact h.2.2 r hr
  · simp at hr; subst hr; simp
set_option maxRecDepth 20000 in
set_option maxHeartbeats 6400000 in
theorem l4Bent_any (b lo : Nat) (w : World) (h : Cur w b lo) :
    Calls Tryz.prog 29 #[.pointer (some ⟨b, 0, none⟩)] w fun e w' => ∃ v T, e = .returned v ∧ OIntss w' w.heap.size v T.length T ∧ Bent T ∧ Cur w' b lo ∧ w.grownBy w' (some b) := by
  have hbl := h.lt.2
  have H := Lib.hid h
  clear h
  go_enter Tryz.func29, Tryz.ntmps29
  go_wp2_with (go_at_call 57; refine (l4Draw_any b lo 4 _ H.out (by omega) (by omega)).mono ?_; rintro e w1 ⟨v1, T, rfl, ho1, hT, hc1, hg1⟩; obtain ⟨g, cap, rfl⟩ := ho1.head (by have := hT.1.1; omega); have Ho1 := Lib.hid ho1; have HT := Lib.hid hT.1; have hT4 := hT.2; have Hc1 := Lib.hid hc1; have Hg1 := Lib.hid hg1; clear ho1 hc1 hg1 hT)
  refine (l1Below_any b lo 16 _ Hc1.out (by omega) (by omega)).mono ?_
  rintro e w2 ⟨x, hx, rfl, hc2, hg2⟩
  have Hc2 := Lib.hid hc2
  have Hg2 := Lib.hid (Hg1.out.trans hg2)
  have Ho2 := Lib.hid (Ho1.out.away hg2 hbl)
  have hs2 := Hg2.out.size
  clear hc2 hg2
  have hT1 := HT.out.1
  by_cases hx0 : x = 0
  · subst hx0
    have hti : 0 < T.length := by omega
    obtain ⟨nr, hnr⟩ : ∃ nr, T[0].length = nr := ⟨_, rfl⟩
    have hri := hnr
    have hnr1 : 0 < nr := by have := (HT.out.2.2 T[0] (List.getElem_mem _)).1; omega
    obtain ⟨gk, ck, h5, ho, hne, hlo⟩ := Ho2.out.rowAt (List.getElem?_eq_getElem hti) (by omega)
    rw [hri] at h5
    have h6 := ho.cell 0 (by omega)
    have h7 := ho.frozen 0
    have hgn : g < w2.heap.size := Ho2.out.lt.2
    have hgne : some g ≠ some b := by have := Ho2.out.lt.1; intro e; injection e; omega
    have hgk : gk < w2.heap.size := ho.lt.2
    have HO := Lib.hid ho
    have hset := fun (W : World) (hw : OIntss W w.heap.size (.slice (some ⟨g, 0, none⟩) T.length cap) T.length T) (hc : W.cell? ⟨g, 0, none⟩ = some (.slice (some ⟨gk, 0, none⟩) T[0].length ck)) (ho : OInts W w.heap.size (.slice (some ⟨gk, 0, none⟩) T[0].length ck) T[0].length T[0]) (x : Int) => hw.setIn (List.getElem?_eq_getElem hti) hc ho 0 x
    rw [hri] at hset
    have HSet := Lib.hid hset
    have HB4 := Lib.hid (((Below.refl w2.heap.size w2).alloc (Nat.le_refl _) (.cells #[.int .i64 (-1), .int .i64 1000000, .int .i64 1000001, .int .i64 9] 3)).drew)
    have Hri := Lib.hid hri
    have HLit : Hid (OInts (w2.alloc (.cells #[.int .i64 (-1), .int .i64 1000000, .int .i64 1000001, .int .i64 9] 3)).drew w2.heap.size (.slice (some ⟨w2.heap.size, 0, none⟩) 4 4) 4 [-1, 1000000, 1000001, 9]) := (OInts.lit_ (w := w2) (arr := #[.int .i64 (-1), .int .i64 1000000, .int .i64 1000001, .int .i64 9]) (n := 4) (xs := [-1, 1000000, 1000001, 9]) (Nat.le_refl _) rfl rfl (by omega)).drewN 1
    have HRS := Lib.hid (fun x => bent_set (j := 0) (x := x) HT.out hti)
    clear hset ho h7 hri hnr
    go_wp2_with fail
    go_region_law (first
      | (go_simp; go_at_call 58; refine (l1PickInt_any b lo w2.heap.size 4 4 _ [-1, 1000000, 1000001, 9] _ (Hc2.out.keep HB4.out) HLit.out Hc2.out.lt.2 (by omega) (by omega)).mono ?_; rintro e w5 ⟨d0, hd0, rfl, hc5, hg5⟩; have Hc5 := Lib.hid hc5; have Hg5 := Lib.hid (Hg2.out.trans ((grown_of_below HB4.out).trans hg5)); have Ho5 := Lib.hid ((Ho2.out.keep HB4.out).away hg5 hbl); have HOk := Lib.hid ((HO.out.keep HB4.out).away hg5 hbl); have q5 := hg5.cell ((HB4.out.cell (p := ⟨g, 0, none⟩) hgn).trans h5) hgne; have q6 := HOk.out.cell 0 (by rw [Hri.out]; exact hnr1); have q7 := HOk.out.frozen 0; clear hc5 hg5 hd0))
    all_goals
      have Ht := Lib.hid (HSet.out _ Ho5.out q5 (by have h9 := HOk.out; rw [Hri.out] at h9; exact h9) d0)
      have HRT := Lib.hid (HRS.out d0)
      have HUL : Hid ((T.set 0 (T[0].set 0 d0)).length = T.length) := by show _ = _; rw [List.length_set]
      have Hc6 := Lib.hid (Hc5.out.grown (only_setCell (World.grownBy.refl w5 (some gk)) rfl (p := ⟨gk, 0, none⟩) (.int .i64 d0)) (fun g e => by injection e; omega))
      have Hg6 := Lib.hid (grown_new Hg5.out (p := ⟨gk, 0, none⟩) (by show _ ≤ gk; omega) (.int .i64 d0))
      generalize w5.setCell ⟨gk, 0, none⟩ (.int .i64 d0) = w6 at Ht Hc6 Hg6 ⊢
      generalize T.set 0 (T[0].set 0 d0) = U at Ht HRT HUL
      clear q5 q6 q7 Ho5 HOk Hc5 Hg5 HSet h5 h6 HRS
      go_wp2_with fail
      go_ret
      exact ⟨_, U, rfl, by rw [HUL.out]; exact Ht.out, HRT.out, Hc6.out, Hg6.out⟩
  have d0 : ((x : Int) == 0) = false := beq_eq_false_iff_ne.2 (by omega)
  by_cases hx1 : x = 1
  · subst hx1
    have HR := Lib.hid (OInts.lit_ (w := w2) (lo := w2.heap.size) (arr := #[.int .i64 1]) (n := 1) (xs := [1]) (Nat.le_refl _) rfl rfl (by omega))
    have HB3 := Lib.hid ((Below.refl w2.heap.size w2).alloc (Nat.le_refl _) (.cells #[.int .i64 1] 3))
    have HRT := Lib.hid (bent_push HT.out hT4)
    go_wp2_with (at_builtin; refine wpList_push_rowC _ _ w2 rfl (.tmp 19) (.tmp 21) rfl w.heap.size _ T.length T rfl Ho2.out (by omega) hs2 HB3.out 1 [1] HR.out _ ?_ rfl ?_; (first | rfl | simp); intro v6 w6 ho6 hg6 hn6; have hg7 : (w2.alloc (.cells #[.int .i64 1] 3)).grownBy w6 (some g) := hg6; have HO6 := Lib.hid ho6; have HG6 := Lib.hid (grown_far (Hg2.out.trans (grown_of_below HB3.out)) hg7 Ho2.out.lt.1); have HC6 := Lib.hid ((Hc2.out.keep HB3.out).grown hg7 (fun q e => (by have h1 := Ho2.out.lt.1; injection e; omega))); clear hg7; clear ho6 hg6 hn6)
    go_ret
    exact ⟨_, T ++ [[1]], rfl, by simpa using HO6.out, HRT.out, HC6.out, HG6.out⟩
  · have d1 : ((x : Int) == 1) = false := beq_eq_false_iff_ne.2 (by omega)
    go_wp2_with fail
    go_ret
    exact ⟨_, T, rfl, Ho2.out, HT.out, Hc2.out, Hg2.out⟩
end Go.Proofs.YtbjoblgklcilpaaGreatDoor

namespace Go.Proofs.YtbjoblgklcilpaaGreatDoor
open Go.RowKit
set_option linter.all false
theorem mxn_idx {k : Int} {n : Nat} (h : 1 ≤ n) : ∃ q : Nat, (if mn k ((n : Int) - 1) < 0 then (0 : Int) else mn k ((n : Int) - 1)) = q ∧ q < n := by
  unfold mn
  split
  · split
    · exact ⟨0, rfl, by omega⟩
    · exact ⟨k.toNat, by omega, by omega⟩
  · split
    · exact ⟨0, rfl, by omega⟩
    · exact ⟨n - 1, by omega, by omega⟩
theorem mx9 (y : Int) : ∃ z : Nat, (if mn 9 y < 0 then (0 : Int) else mn 9 y) = z ∧ z ≤ 9 := by
  unfold mn
  split
  · exact ⟨9, by simp, by omega⟩
  · split
    · exact ⟨0, rfl, by omega⟩
    · exact ⟨y.toNat, by omega, by omega⟩
theorem mx0 {y : Int} {n : Nat} (h : 1 ≤ n) (hy : y < n) : ∃ q : Nat, (if y < 0 then (0 : Int) else y) = q ∧ q < n := by
  split
  · exact ⟨0, rfl, by omega⟩
  · exact ⟨y.toNat, by omega, by omega⟩
theorem Since.grow {lo hi : Nat} {a b c : World} {row : Option Nat} (h : Since lo hi a b) (k : b.grownBy c row) (hr : ∀ g, row = some g → g < lo ∨ hi ≤ g) (hs : hi ≤ b.heap.size) : Since lo hi a c :=
  ⟨Nat.le_trans h.size k.size, fun i h1 h2 => (k.block i (by omega) (fun e => by have := hr i e.symm; omega)).trans (h.block i h1 h2)⟩
set_option maxRecDepth 20000 in
set_option maxHeartbeats 6400000 in
theorem l17Case_any (ao : Option Addr) (n c : Nat) (col : Bool) (w : World) (h : Bytes w ao n) :
    Calls Tryz.prog 45 #[.slice ao n c, .bool col] w fun e w' => ∃ (v u : Value) (T : List (List Int)) (i : Int) (pt : List Int), e = .returned (.tuple #[v, .int .i64 i, u]) ∧ OIntss w' w.heap.size v T.length T ∧ OInts w' w.heap.size u pt.length pt ∧ (Bent T ∧ pt.length ≤ 6) ∧ Below w.heap.size w w' := by
  have H := Lib.hid h
  clear h
  go_enter Tryz.func45, Tryz.ntmps45
  go_wp2_with fail
  refine (l1New_any _ _ _ _ H.out).mono ?_
  rintro e w1 ⟨rfl, hc1, hb1⟩
  have hbl := hc1.lt.2
  have Hc1 := Lib.hid hc1
  have Hb1 := Lib.hid hb1
  have hs1 := hb1.size
  clear hc1 hb1
  generalize hB : w.heap.size = B at *
  go_wp2_with fail
  refine (l4Bent_any _ _ _ Hc1.out).mono ?_
  rintro e w2 ⟨v, T, rfl, ho, hT, hc2, hg2⟩
  obtain ⟨g, cap, rfl⟩ := ho.head (by have := hT.1; omega)
  have HT := Lib.hid hT
  have hT1 := hT.1
  have hT5 := hT.2.1
  have Ho2 := Lib.hid ho
  have Hc2 := Lib.hid hc2
  have Hg2 := Lib.hid hg2
  have hs2 := hg2.size
  clear ho hT hc2 hg2
  go_wp2_with fail
  refine (l1Below_any _ _ T.length _ Hc2.out hT1 (by omega)).mono ?_
  rintro e w3 ⟨x, hx, rfl, hc3, hg3⟩
  have Ho3 := Lib.hid (Ho2.out.away hg3 hbl)
  have Hc3 := Lib.hid hc3
  have Hg3 := Lib.hid (Hg2.out.trans hg3)
  clear hc3 hg3
  go_wp2_with fail
  refine (l1Once_any _ _ 16 _ Hc3.out (by omega) (by omega)).mono ?_
  rintro e w4 ⟨t, rfl, hc4, hg4⟩
  have Ho4 := Lib.hid (Ho3.out.away hg4 hbl)
  have Hc4 := Lib.hid hc4
  have Hg4 := Lib.hid (Hg3.out.trans hg4)
  have hs4 := Hg4.out.size
  clear hc4 hg4
  go_wp2_with fail
  refine (l1Bit_any t _).mono ?_
  rintro e w' ⟨rfl, rfl⟩
  obtain ⟨I, hI, hIb⟩ : ∃ I : Int, (x : Int) - bit t = I ∧ -1 ≤ I ∧ I < T.length := ⟨_, rfl, by cases t <;> simp [bit] <;> omega, by cases t <;> simp [bit] <;> omega⟩
  have hI2 : IntKind.i64.wrap ((x : Int) - bit t) = I := by rw [wrap_i64_eq, hI]; unfold wrap64; omega
  have hI3 : wrap64 ((x : Int) - bit t) = I := by rw [hI]; unfold wrap64; omega
  have HE := Lib.hid (OInts.empty w4 w4.heap.size (Nat.le_refl _))
  have HBE : Below w4.heap.size w4 (w4.alloc (.cells #[] 3)) := (Below.refl _ _).alloc (Nat.le_refl _) _
  have Hc5 := Lib.hid (Hc4.out.keep HBE)
  have HS5 := Lib.hid ((Since.refl w1.heap.size w4.heap.size w4).below HBE (Nat.le_refl _))
  have Hg5 : Hid (w1.grownBy (w4.alloc (.cells #[] 3)) (some B)) := Hg4.out.trans (grown_of_below HBE)
  have hs5 : w1.heap.size ≤ w4.heap.size := hs4
  go_wp2_with fail
  clear hI hI2 hI3 HBE
  go_loopw [10, 11] (fun v' x' wr => ∃ (j : Nat) (pt : List Int), j ≤ T.length ∧ x' = .int .i64 j ∧ OInts wr w4.heap.size v' j pt ∧ Since w1.heap.size w4.heap.size w4 wr ∧ Cur wr B B ∧ w1.grownBy wr (some B)) (fun _ x' _ => T.length - (intOf x').toNat)
  case atStart => exact ⟨0, [], Nat.zero_le _, rfl, HE.out, HS5.out, Hc5.out, Hg5.out⟩
  case round =>
    obtain ⟨j, pt, hj, rfl, hown, hot, hcu, hgr⟩ := hrel
    obtain ⟨ao6, cap6, rfl, _⟩ := hown.form
    have Hown := Lib.hid hown
    have HSN := Lib.hid hot
    have HSW : Hid (w4.heap.size ≤ wr.heap.size) := hot.size
    have Hot := Lib.hid (Ho4.out.since hot)
    have Hcu := Lib.hid hcu
    have Hgr := Lib.hid hgr
    clear hown hot hcu hgr HE Hc5 HS5 Hg5
    by_cases hlt : j < T.length
    · obtain ⟨bj, oj, aj, cj, rj, ej, qj, hrowj, hgetj⟩ := Hot.out.readI.at_ hlt
      injection ej with ej
      injection ej with ej1 ej2
      subst ej1
      subst ej2
      simp only [Nat.zero_add] at qj
      have hrj := HT.out.2.2 rj (List.mem_of_getElem? hgetj.out)
      cases col
      · go_wp2_with fail
        refine (sMax_any 0 I _).mono ?_
        rintro e w' ⟨rfl, rfl⟩
        obtain ⟨q0, hq0, hq0l⟩ := mx0 hT1 hIb.2
        rw [hq0]
        obtain ⟨bq, oq, aq, cq, rq, eq, qq, hrowq, hgetq⟩ := Hot.out.readI.at_ hq0l
        injection eq with eq
        injection eq with eq1 eq2
        subst eq1
        subst eq2
        simp only [Nat.zero_add] at qq
        have hrq := HT.out.2.2 rq (List.mem_of_getElem? hgetq.out)
        clear hq0
        have hwl : IntKind.i64.wrap ((rq.length : Int) - 1) = (rq.length : Int) - 1 := by rw [wrap_i64_eq]; unfold wrap64; omega
        go_wp2_with fail
        refine (l1Min_any (j : Int) ((rq.length : Int) - 1) _).mono ?_
        rintro e w' ⟨rfl, rfl⟩
        go_wp2_with fail
        refine (sMax_any 0 (mn (j : Int) ((rq.length : Int) - 1)) _).mono ?_
        rintro e w' ⟨rfl, rfl⟩
        obtain ⟨q1, hq1, hq1l⟩ := mxn_idx (k := (j : Int)) hrq.1
        rw [hq1]
        obtain ⟨by_, oy, y, ey, qy, hgy⟩ := hrowq.at_ hq1l
        subst ey
        clear hq1 hwl hgy
        go_wp2_with fail
        refine (l1Min_any 9 y _).mono ?_
        rintro e w' ⟨rfl, rfl⟩
        go_wp2_with fail
        refine (sMax_any 0 (mn 9 y) _).mono ?_
        rintro e w' ⟨rfl, rfl⟩
        obtain ⟨z, hz, hz9⟩ := mx9 y
        rw [hz]
        obtain ⟨N, hN⟩ : ∃ N : Nat, 1 + (z : Int) = N := ⟨z + 1, by omega⟩
        have hN1 : 1 ≤ N := by omega
        have hN10 : N ≤ 10 := by omega
        clear hz
        go_wp2_with fail
        refine (l1Below_any _ _ N _ Hcu.out hN1 (by omega)).mono ?_
        rintro e w5 ⟨d, hd, rfl, hc5, hg5⟩
        have HO5 := Lib.hid (Hown.out.away hg5 (by omega))
        have HSN5 := Lib.hid (HSN.out.grow hg5 (fun g e => by injection e with e; omega) HSW.out)
        have Hc5 := Lib.hid hc5
        have Hg5 := Lib.hid (Hgr.out.trans hg5)
        have hs54 : w4.heap.size ≤ w5.heap.size := Nat.le_trans HSW.out hg5.size
        clear hc5 hg5 hN
        go_wp2_with (at_builtin; refine wpList_push_at w5 _ rfl (.tmp 46) (.tmp 61) rfl w4.heap.size _ j pt rfl HO5.out (by omega) hs54 _ rfl rfl ?_; intro v7 w7 ho7 hg7 hn7; have HO7 := Lib.hid ho7; have HSN7 := Lib.hid (HSN5.out.grow hg7 (fun g e => .inr (HO5.out.ownlt g e).1) hs54); have Hc7 := Lib.hid (Hc5.out.grown hg7 (fun g e => by have := (HO5.out.ownlt g e).1; omega)); have Hg7 := Lib.hid (grown_farV Hg5.out hg7 (fun g e => Nat.le_trans hs5 (HO5.out.ownlt g e).1)); clear ho7 hg7 hn7)
        go_roundw
        case rel => first | exact ⟨j + 1, _, hlt, by go_num, HO7.out, HSN7.out, Hc7.out, Hg7.out⟩ | ((repeat apply Exists.intro); exact ⟨⟨j + 1, _, hlt, by go_num, HO7.out, HSN7.out, Hc7.out, Hg7.out⟩, rfl⟩)
        case measure => simp [intOf]; omega
      · have hmm := hrj
        have hwl : IntKind.i64.wrap ((rj.length : Int) - 1) = (rj.length : Int) - 1 := by rw [wrap_i64_eq]; unfold wrap64; omega
        go_wp2_with fail
        refine (l1Min_any I ((rj.length : Int) - 1) _).mono ?_
        rintro e w' ⟨rfl, rfl⟩
        go_wp2_with fail
        refine (sMax_any 0 (mn I ((rj.length : Int) - 1)) _).mono ?_
        rintro e w' ⟨rfl, rfl⟩
        obtain ⟨q1, hq1, hq1l⟩ := mxn_idx (k := I) hrj.1
        rw [hq1]
        obtain ⟨by_, oy, y, ey, qy, hgy⟩ := hrowj.at_ hq1l
        subst ey
        clear hq1 hwl hgy
        go_wp2_with fail
        refine (l1Min_any 9 y _).mono ?_
        rintro e w' ⟨rfl, rfl⟩
        go_wp2_with fail
        refine (sMax_any 0 (mn 9 y) _).mono ?_
        rintro e w' ⟨rfl, rfl⟩
        obtain ⟨z, hz, hz9⟩ := mx9 y
        rw [hz]
        obtain ⟨N, hN⟩ : ∃ N : Nat, 1 + (z : Int) = N := ⟨z + 1, by omega⟩
        have hN1 : 1 ≤ N := by omega
        have hN10 : N ≤ 10 := by omega
        clear hz
        go_wp2_with fail
        refine (l1Below_any _ _ N _ Hcu.out hN1 (by omega)).mono ?_
        rintro e w5 ⟨d, hd, rfl, hc5, hg5⟩
        have HO5 := Lib.hid (Hown.out.away hg5 (by omega))
        have HSN5 := Lib.hid (HSN.out.grow hg5 (fun g e => by injection e with e; omega) HSW.out)
        have Hc5 := Lib.hid hc5
        have Hg5 := Lib.hid (Hgr.out.trans hg5)
        have hs54 : w4.heap.size ≤ w5.heap.size := Nat.le_trans HSW.out hg5.size
        clear hc5 hg5 hN
        go_wp2_with (at_builtin; refine wpList_push_at w5 _ rfl (.tmp 46) (.tmp 61) rfl w4.heap.size _ j pt rfl HO5.out (by omega) hs54 _ rfl rfl ?_; intro v7 w7 ho7 hg7 hn7; have HO7 := Lib.hid ho7; have HSN7 := Lib.hid (HSN5.out.grow hg7 (fun g e => .inr (HO5.out.ownlt g e).1) hs54); have Hc7 := Lib.hid (Hc5.out.grown hg7 (fun g e => by have := (HO5.out.ownlt g e).1; omega)); have Hg7 := Lib.hid (grown_farV Hg5.out hg7 (fun g e => Nat.le_trans hs5 (HO5.out.ownlt g e).1)); clear ho7 hg7 hn7)
        go_roundw
        case rel => first | exact ⟨j + 1, _, hlt, by go_num, HO7.out, HSN7.out, Hc7.out, Hg7.out⟩ | ((repeat apply Exists.intro); exact ⟨⟨j + 1, _, hlt, by go_num, HO7.out, HSN7.out, Hc7.out, Hg7.out⟩, rfl⟩)
        case measure => simp [intOf]; omega
    · have hdj : decide ((j : Int) < (T.length : Int)) = false := decide_eq_false (by omega)
      have hjn : j = T.length := by omega
      have hdj2 : decide (j < T.length) = false := decide_eq_false hlt
      have HJ := Lib.hid hjn
      clear hjn
      go_wp2_with fail
      refine (l1Once_any _ _ 12 _ Hcu.out (by omega) (by omega)).mono ?_
      rintro e w6 ⟨t2, rfl, hc6, hg6⟩
      have Ho6 := Lib.hid (Hown.out.away hg6 (by omega))
      have HSN6 := Lib.hid (HSN.out.grow hg6 (fun g e => by injection e with e; omega) HSW.out)
      have Hg6 := Lib.hid (Hgr.out.trans hg6)
      have hs64 : w4.heap.size ≤ w6.heap.size := Nat.le_trans HSW.out hg6.size
      clear hc6 hg6
      cases t2
      · have HB6 : Hid (Below w.heap.size w w6) := by
          show Below w.heap.size w w6
          rw [hB]
          exact Hb1.out.trans (below_of_grown Hg6.out (Nat.le_refl B) (by omega))
        have Hot6 := Lib.hid (Ho4.out.since HSN6.out)
        go_wp2_with fail
        go_ret3
        refine ⟨_, _, T, I, pt, rfl, Hot6.out.mono (by omega), ?_, ⟨HT.out, by rw [Ho6.out.len]; omega⟩, HB6.out⟩
        rw [Ho6.out.len]
        exact Ho6.out.mono (by omega)
      · go_wp2_with (at_builtin; refine wpList_push_at w6 _ rfl (.tmp 65) (.tmp 66) rfl w4.heap.size _ j pt rfl Ho6.out (by omega) hs64 _ rfl rfl ?_; intro v7 w7 ho7 hg7 hn7; obtain ⟨ao7, cap7, rfl, _⟩ := ho7.form; have HO7 := Lib.hid ho7; have HG7 := Lib.hid (grown_farV Hg6.out hg7 (fun g e => Nat.le_trans hs5 (Ho6.out.ownlt g e).1)); have HSN7 := Lib.hid (HSN6.out.grow hg7 (fun g e => .inr (Ho6.out.ownlt g e).1) hs64); clear ho7 hg7 hn7)
        have HB7 : Hid (Below w.heap.size w w7) := by
          show Below w.heap.size w w7
          rw [hB]
          exact Hb1.out.trans (below_of_grown HG7.out (Nat.le_refl B) (by omega))
        have Hot7 := Lib.hid (Ho4.out.since HSN7.out)
        go_ret3
        refine ⟨_, _, T, I, pt ++ [0], rfl, Hot7.out.mono (by omega), ?_, ⟨HT.out, by rw [HO7.out.len]; omega⟩, HB7.out⟩
        rw [HO7.out.len]
        exact HO7.out.mono (by omega)
end Go.Proofs.YtbjoblgklcilpaaGreatDoor

namespace Go.Proofs.YtbjoblgklcilpaaGreatDoor
open Go.RowKit
set_option linter.all false
set_option maxRecDepth 20000 in
set_option maxHeartbeats 3200000 in
theorem sSplitOut_any (p : Option Addr) (n c : Nat) (m : List (List Int)) (i : Int) (q : Option Addr) (n2 c2 : Nat) (pt : List Int) (w : World) (h : Intss w p n m) (hq : Ints w q n2 pt) :
    Calls Tryz.prog 13 #[.slice p n c, .int .i64 i, .slice q n2 c2] w fun e w' => ∃ v, e = .returned (.tuple #[v, .bool (splOk m i pt)]) ∧ OIntss w' w.heap.size v (splV m i pt).length (splV m i pt) ∧ Below w.heap.size w w' := by
  have HL : Hid (m.length = n) := h.1
  have HPL : Hid (pt.length = n2) := hq.1
  have H := Lib.hid h
  have HQ := Lib.hid hq
  have hm2 := hq.2.1
  clear h hq
  have HN : Hid (∀ (_ : splOk m i pt = false), splV m i pt = []) := fun e => splV_no e
  have HFA : Hid (splOk m i pt = true → SplFacts m i pt) := splOk_facts
  cases hmat : isMat m
  · have hg : Hid (splOk m i pt = false) := by show _ = _; cases hs : splOk m i pt with | false => rfl | true => rw [(HFA.out hs).mat] at hmat; cases hmat
    have hv := Lib.hid (HN.out hg.out)
    go_enter Tryz.func13, Tryz.ntmps13
    go_wp2_with (first | (go_at_call 42; refine (sIsMatrix_any _ _ _ m _ H.out).mono ?_; rintro e w' ⟨rfl, rfl⟩) | (go_at_call 43; refine (l1In_any _ _ _ _).mono ?_; rintro e w' ⟨rfl, rfl⟩))
    go_ret2
    rw [hg.out, hv.out]
    exact ⟨_, rfl, OIntss.empty _ _ (Nat.le_refl _), (Below.refl _ _).alloc (Nat.le_refl _) _⟩
  have hml := isMat_len hmat
  have hn1 : 1 ≤ n := by have := HL.out; omega
  have hn9 : n ≤ 9 := by have := HL.out; omega
  clear hml
  by_cases h9 : n = 9
  · have hg : Hid (splOk m i pt = false) := by show _ = _; cases hs : splOk m i pt with | false => rfl | true => have := (HFA.out hs).n9; have := HL.out; omega
    have hv := Lib.hid (HN.out hg.out)
    have hd9 : ((n : Int) == 9) = true := by simp [h9]
    clear h9
    go_enter Tryz.func13, Tryz.ntmps13
    go_wp2_with (first | (go_at_call 42; refine (sIsMatrix_any _ _ _ m _ H.out).mono ?_; rintro e w' ⟨rfl, rfl⟩) | (go_at_call 43; refine (l1In_any _ _ _ _).mono ?_; rintro e w' ⟨rfl, rfl⟩))
    go_ret2
    rw [hg.out, hv.out]
    exact ⟨_, rfl, OIntss.empty _ _ (Nat.le_refl _), (Below.refl _ _).alloc (Nat.le_refl _) _⟩
  have hd9 : ((n : Int) == 9) = false := by simp; omega
  cases hin : inR i 0 ((n : Int) - 1)
  · have hg : Hid (splOk m i pt = false) := by
      show _ = _
      cases hs : splOk m i pt with
      | false => rfl
      | true =>
        have h1 := (HFA.out hs).il
        have h2 := (HFA.out hs).i0
        have := HL.out
        rw [inR_mk ⟨by omega, by omega⟩] at hin
        cases hin
    have hv := Lib.hid (HN.out hg.out)
    go_enter Tryz.func13, Tryz.ntmps13
    go_wp2_with (first | (go_at_call 42; refine (sIsMatrix_any _ _ _ m _ H.out).mono ?_; rintro e w' ⟨rfl, rfl⟩) | (go_at_call 43; refine (l1In_any _ _ _ _).mono ?_; rintro e w' ⟨rfl, rfl⟩))
    go_ret2
    rw [hg.out, hv.out]
    exact ⟨_, rfl, OIntss.empty _ _ (Nat.le_refl _), (Below.refl _ _).alloc (Nat.le_refl _) _⟩
  have hir := inR_true hin
  by_cases hpn : n2 = n
  · subst hpn
    obtain ⟨i0, rfl⟩ := Int.eq_ofNat_of_zero_le (show 0 ≤ i by omega)
    obtain ⟨b1, o1, a1, c1, r, rfl, _⟩ := H.out.at_ (show i0 < n2 by omega)
    exact sSplitOut_in b1 o1 n2 c m i0 q c2 pt w H.out HQ.out hmat (by omega) (by omega)
  · have hg : Hid (splOk m i pt = false) := by show _ = _; cases hs : splOk m i pt with | false => rfl | true => have := (HFA.out hs).pl; have := HL.out; have := HPL.out; omega
    have hv := Lib.hid (HN.out hg.out)
    have hne : ((n2 : Int) != (n : Int)) = true := by simp; omega
    clear hpn hir
    go_enter Tryz.func13, Tryz.ntmps13
    go_wp2_with (first | (go_at_call 42; refine (sIsMatrix_any _ _ _ m _ H.out).mono ?_; rintro e w' ⟨rfl, rfl⟩) | (go_at_call 43; refine (l1In_any _ _ _ _).mono ?_; rintro e w' ⟨rfl, rfl⟩))
    go_ret2
    rw [hg.out, hv.out]
    exact ⟨_, rfl, OIntss.empty _ _ (Nat.le_refl _), (Below.refl _ _).alloc (Nat.le_refl _) _⟩
end Go.Proofs.YtbjoblgklcilpaaGreatDoor

namespace Go.Proofs.YtbjoblgklcilpaaGreatDoor
open Go.RowKit
set_option linter.all false
set_option maxHeartbeats 1600000 in
theorem drawSplitOut_any (ao : Option Addr) (n c : Nat) (w : World) (h : Bytes w ao n) :
    Calls Tryz.prog 12 #[.slice ao n c] w fun e w' => ∃ (v u : Value) (T : List (List Int)) (i : Int) (pt : List Int), e = .returned (.tuple #[v, .int .i64 i, u]) ∧ OIntss w' w.heap.size v T.length T ∧ OInts w' w.heap.size u pt.length pt ∧ (Bent T ∧ pt.length ≤ 6) ∧ Below w.heap.size w w' := by
  have H := Lib.hid h
  clear h
  go_enter Tryz.func12, Tryz.ntmps12
  go_wp2_with fail
  refine (l17Case_any _ _ _ _ _ H.out).mono ?_
  rintro e w1 ⟨v, u, T, i, pt, rfl, ho, hu, hT, hb⟩
  go_wp2_with fail
  go_ret3
  exact ⟨_, _, T, i, pt, rfl, ho, hu, hT, hb⟩
end Go.Proofs.YtbjoblgklcilpaaGreatDoor

namespace Go.Proofs.YtbjoblgklcilpaaGreatDoor
open Go.RowKit
set_option linter.all false
theorem iMinors_succ (p : Option Addr) (n c : Nat) (t : List (List Int)) (j : Nat) (w : World) (h : Intss w p n t) (hs : smith t = true) (hj : j < n) :
    Calls Tryz.prog 60 #[.slice p n c, .int .i64 ((j : Int) + 1)] w fun e w' => e = .returned (.int .i64 (minorsI t (j + 1))) ∧ Below w.heap.size w w' := by
  have := iMinors_any p n c t (j + 1) w h hs hj
  simpa using this
set_option maxHeartbeats 1600000 in
theorem iDiagonal_any (p : Option Addr) (n c : Nat) (t : List (List Int)) (w : World) (h : Intss w p n t) (hs : smith t = true) :
    Calls Tryz.prog 33 #[.slice p n c] w fun e w' => ∃ v, e = .returned v ∧ OInts w' w.heap.size v (diagN t).length (diagN t) ∧ Below w.heap.size w w' := by
  have hm := h.2.1
  have HL : Hid (t.length = n) := h.1
  have H := Lib.hid h
  clear h
  have hn4 : n ≤ 4 := by have := smith_len hs; have := HL.out; omega
  have HD : Hid (diagL t n 1 1 = (diagN t).drop 0) := by show _ = _; rw [← HL.out]; rfl
  have HSm := Lib.hid hs
  have HS : Hid (∀ j : Nat, j < n → 0 ≤ minorsI t (j + 1) ∧ Small62 (minorsI t (j + 1))) := fun j hj => minorsI_small (smith_bnd hs) (by omega)
  have HN : Hid ((diagN t).length = n) := (diagN_len t).trans HL.out
  go_enter Tryz.func33, Tryz.ntmps33
  go_wp2_with fail
  go_loopw [3, 4, 5] (fun v u x wr => ∃ (j : Nat) (b : Int), j ≤ n ∧ u = .int .i64 b ∧ x = .int .i64 ((j : Int) + 1) ∧ OInts wr w.heap.size v j ((diagN t).take j) ∧ Below w.heap.size w wr ∧ 0 < b ∧ b ≤ 4611686018427387904 ∧ Hid (diagL t (n - j) (j + 1) b = (diagN t).drop j)) (fun _ _ x _ => n + 1 - (intOf x).toNat)
  case atStart => exact ⟨0, 1, Nat.zero_le _, rfl, rfl, OInts.empty w _ (Nat.le_refl _), (Below.refl _ _).alloc (Nat.le_refl _) _, by omega, by omega, HD.out⟩
  case round =>
    obtain ⟨j, b, hj, rfl, rfl, hown, hbl, hb1, hb2, hd⟩ := hrel
    obtain ⟨ao5, cap5, e5, _⟩ := hown.form
    subst e5
    by_cases hlt : j < n
    · have Hown := Lib.hid hown
      have Hbl := Lib.hid hbl
      clear hown hbl
      have hd' : diagL t (n - (j + 1) + 1) (j + 1) b = (diagN t).drop j := by rw [show n - (j + 1) + 1 = n - j by omega]; exact hd.out
      have hS := HS.out j hlt
      by_cases hz : minorsI t (j + 1) = 0
      · have HE := Lib.hid (diag_zero hd' hz)
        have HZ := Lib.hid hz
        clear hd hd' hz hS
        go_wp2_with (first | (go_at_call 60; refine (iMinors_succ _ _ _ t j _ (H.out.keep Hbl.out) HSm.out hlt).mono ?_; rintro e w1 ⟨rfl, hb1⟩; have Hb1 := Lib.hid hb1; rw [HZ.out]; clear hb1) | (at_builtin; refine wpList_push_one _ _ rfl _ _ rfl w.heap.size _ _ _ rfl (Hown.out.keep (Hb1.out.mono (Nat.le_refl _))) (by omega) (Nat.le_trans Hbl.out.size Hb1.out.size) _ rfl rfl ?_; intro v1 w3 ho1 hb3; have Ho1 := Lib.hid ho1; have Hb3 := Lib.hid hb3; clear ho1 hb3))
        go_roundw
        case rel =>
          have ho1 := Ho1.out
          rw [push_take HE.out.1] at ho1
          exact ⟨j + 1, b, hlt, rfl, by go_num, ho1, (Hbl.out.trans (Hb1.out.mono Hbl.out.size)).trans Hb3.out, by omega, by omega, HE.out.2⟩
        case measure => simp [intOf]; omega
      · have HE := Lib.hid (diag_step hd' hz)
        generalize hgg : minorsI t (j + 1) = g at *
        have hg1 : 0 < g := by omega
        have hg2 : g ≤ 4611686018427387904 := hS.2.2
        have hne : (g == 0) = false := by simp; omega
        have hne2 : (b == 0) = false := by simp; omega
        clear hd hd' hz hS
        go_wp2_with (first | (go_at_call 60; refine (iMinors_succ _ _ _ t j _ (H.out.keep Hbl.out) HSm.out hlt).mono ?_; rintro e w1 ⟨rfl, hb1⟩; have Hb1 := Lib.hid hb1; rw [hgg]; clear hb1) | (at_builtin; refine wpList_push_one _ _ rfl _ _ rfl w.heap.size _ _ _ rfl (Hown.out.keep (Hb1.out.mono (Nat.le_refl _))) (by omega) (Nat.le_trans Hbl.out.size Hb1.out.size) _ rfl rfl ?_; intro v1 w3 ho1 hb3; have Ho1 := Lib.hid ho1; have Hb3 := Lib.hid hb3; clear ho1 hb3))
        go_roundw
        case rel =>
          have ho1 := Ho1.out
          rw [show g / b = g.tdiv b from (Int.tdiv_eq_ediv_of_nonneg (by omega)).symm, push_take HE.out.1] at ho1
          exact ⟨j + 1, g, hlt, rfl, by go_num, ho1, (Hbl.out.trans (Hb1.out.mono Hbl.out.size)).trans Hb3.out, by omega, by omega, HE.out.2⟩
        case measure => simp [intOf]; omega
    · have e : j = n := by omega
      subst e
      rw [List.take_of_length_le (by rw [HN.out]; omega)] at hown
      have hown' : OInts wr w.heap.size (.slice ao5 j cap5) (diagN t).length (diagN t) := by rw [HN.out]; exact hown
      have Hown := Lib.hid hown'
      have Hbl := Lib.hid hbl
      clear hown hown' hbl
      go_wp2_with fail
      go_ret
      exact ⟨_, rfl, Hown.out, Hbl.out⟩
end Go.Proofs.YtbjoblgklcilpaaGreatDoor

namespace Go.Proofs.YtbjoblgklcilpaaGreatDoor
open Go.RowKit
set_option linter.all false
set_option maxHeartbeats 1600000 in
theorem iGroupOf_any (ao : Option Addr) (n cap : Nat) (m : List (List Int)) (w : World) (h : Intss w ao n m) :
    Calls Tryz.prog 6 #[.slice ao n cap] w fun e w' => ∃ v, e = .returned v ∧ OInts w' w.heap.size v (groupV m).length (groupV m) ∧ Below w.heap.size w w' := by
  have HL : Hid (m.length = n) := h.1
  have H := Lib.hid h
  clear h
  cases hs : isSmallM m
  · have hg : Hid (groupV m = []) := by show groupV m = _; simp [groupV, hs]
    go_enter Tryz.func6, Tryz.ntmps6
    go_wp2_with (first | (go_at_call 31; refine (iIsSmall_any _ _ _ m _ H.out).mono ?_; rintro e w' ⟨rfl, rfl⟩))
    go_ret
    rw [hg.out]
    exact ⟨_, rfl, OInts.none_ _ _, Below.refl _ _⟩
  have hsm := isSmallM_mat hs
  have HR := Lib.hid (isMat_rowsLen hsm.1 HL.out)
  have hn4 : n ≤ 4 := by have := HL.out; omega
  have HS := Lib.hid (less_smith hs)
  have HG : Hid (groupV m = (diagN (lessT 1 1 m)).filter ne1) := by show _ = _; simp [groupV, hs]
  clear hsm
  go_enter Tryz.func6, Tryz.ntmps6
  go_wp2_with (first
    | (go_at_call 31; refine (iIsSmall_any _ _ _ m _ H.out).mono ?_; rintro e w' ⟨rfl, rfl⟩)
    | (go_at_call 34; refine (iLess_any _ _ _ m 1 1 _ H.out HR.out (by omega) (by omega) (by omega) (by omega) (by omega)).mono ?_; rintro e w1 ⟨v1, rfl, ho1, hb1⟩; obtain ⟨ao1, cap1, rfl, hi1⟩ := ho1.form; have Hi1 := Lib.hid hi1; have Hb1 := Lib.hid hb1; clear ho1 hb1 hi1)
    | (go_at_call 33; refine (iDiagonal_any _ _ _ (lessT 1 1 m) _ Hi1.out HS.out).mono ?_; rintro e w2 ⟨v2, rfl, ho2, hb2⟩; have Ho2 := Lib.hid ho2; have Hb2 := Lib.hid (step2 Hb1.out hb2); clear ho2 hb2)
    | (go_at_call 32; refine (delOne_any _ _ w1.heap.size _ _ Ho2.out).mono ?_; rintro e w3 ⟨v3, rfl, ho3, hb3⟩; have Ho3 := Lib.hid (ho3.mono Hb1.out.size); have Hb3 := Lib.hid (Hb2.out.trans (hb3.mono Hb1.out.size)); clear ho3 hb3))
  go_ret
  rw [HG.out]
  exact ⟨_, rfl, Ho3.out, Hb3.out⟩
end Go.Proofs.YtbjoblgklcilpaaGreatDoor

namespace Go.Proofs.YtbjoblgklcilpaaGreatDoor
open Go.RowKit
set_option linter.all false
theorem OInts.cutTo {w : World} {lo n i : Nat} {ao : Option Addr} {cap : Nat} {ys : List Int} (h : OInts w lo (.slice ao n cap) n ys) (hi : i ≤ n) : OInts w lo (.slice ao i cap) i (ys.take i) := by
  have hl := h.len
  refine ⟨by have := h.1; omega, by simp [hl]; omega, ?_⟩
  rcases h.2.2 with ⟨e, hn⟩ | ⟨g', c, cur, e, hg, hh, hnc, hcm, hs, ht⟩
  · left
    have hz : i = 0 := by omega
    subst hz
    injection e with e1 e2 e3
    subst e1
    subst e3
    exact ⟨rfl, rfl⟩
  · right
    injection e with e1 e2 e3
    subst e1
    subst e3
    refine ⟨g', cap, cur, rfl, hg, hh, by omega, hcm, hs, ?_⟩
    rw [List.map_take, ← ht, List.take_take]
    congr 1
    omega
set_option maxRecDepth 20000 in
set_option maxHeartbeats 3200000 in
theorem iTrimmed_any (p : Option Addr) (n c : Nat) (xs : List Int) (w : World) (h : Ints w p n xs) (hc : n ≤ c) :
    Calls Tryz.prog 90 #[.slice p n c] w fun e w' => e = .returned (.slice p (cutN xs n) c) ∧ w = w' := by
  have H := Lib.hid h
  have hm := h.2.1
  clear h
  go_enter Tryz.func90, Tryz.ntmps90
  go_wp2_with fail
  go_loop [3] (fun x => ∃ k : Nat, k ≤ n ∧ x = .int .i64 k ∧ Hid (cutN xs k = cutN xs n)) (fun x => (intOf x).toNat)
  case atStart => exact ⟨n, Nat.le_refl _, rfl, rfl⟩
  case round =>
    obtain ⟨k, hk, rfl, hr⟩ := hrel
    rcases k with _ | k
    · have hs := slice_to p n c 0 (by omega)
      have HZ : Hid (cutN xs n = 0) := hr.out.symm
      clear hr
      go_wp2_with fail
      go_ret
      rw [HZ.out]
      exact ⟨rfl, rfl⟩
    · obtain ⟨b, o, x, rfl, hcx, hx⟩ := H.out.at_ (k := k) (by omega)
      have HST := Lib.hid (cutN_zero hx.out hr.out)
      have hcast : ((k + 1 : Nat) : Int) = (k : Int) + 1 := by omega
      clear hx hr
      by_cases h0 : x = 0
      · have HN := Lib.hid (HST.out.1 h0)
        have h1 : (x == 0) = true := by simp [h0]
        clear HST h0
        rw [hcast]
        clear hcast
        go_wp2_with fail
        go_round
        case rel => exact ⟨k, by omega, by go_num, HN.out⟩
        case measure => (simp [intOf] <;> omega)
      · have HN := Lib.hid (HST.out.2 h0)
        have h1 : (x == 0) = false := by simp [h0]
        have hs := slice_to (some ⟨b, o, none⟩) n c (k + 1) (by omega)
        clear HST h0
        rw [hcast]
        rw [hcast] at hs
        clear hcast
        go_wp2_with fail
        go_ret
        rw [← HN.out]
        exact ⟨rfl, rfl⟩
set_option maxRecDepth 20000 in
set_option maxHeartbeats 3200000 in
theorem iTurned_any (p : Option Addr) (n c : Nat) (m : List (List Int)) (w : World) (h : Intss w p n m) :
    Calls Tryz.prog 74 #[.slice p n c] w fun e w' => ∃ v, e = .returned v ∧ OInts w' w.heap.size v (turnedP m).length (turnedP m) ∧ Below w.heap.size w w' := by
  have HL : Hid (m.length = n) := h.1
  have H := Lib.hid h
  clear h
  cases hs : isSmallM m
  · have hg : Hid (turnedP m = []) := by show _ = _; simp [turnedP, hs]
    go_enter Tryz.func74, Tryz.ntmps74
    go_wp2_with (first | (go_at_call 31; refine (iIsSmall_any _ _ _ m _ H.out).mono ?_; rintro e w' ⟨rfl, rfl⟩))
    go_ret
    rw [hg.out]
    exact ⟨_, rfl, OInts.none_ _ _, Below.refl _ _⟩
  have hsm := isSmallM_mat hs
  have HR := Lib.hid (isMat_rowsLen hsm.1 HL.out)
  have hn4 : n ≤ 4 := by have := HL.out; omega
  have HG : Hid (turnedP m = cutZ (polyL m)) := by show _ = _; simp [turnedP, hs]
  have HPL : Hid ((polyL m).length = n + 1) := by show _ = _; rw [polyL_len, HL.out]
  have HS := Lib.hid hs
  have HCE : Hid (∀ i, i ≤ n → (charL m n (n + 1))[n - i]? = (polyL m)[i]?) := by
    show ∀ i, _
    intro i hi
    have h := charL_end (t := m) (i := i) (by rw [HL.out]; exact hi)
    rw [HL.out] at h
    exact h
  clear hsm hs
  go_enter Tryz.func74, Tryz.ntmps74
  go_wp2_with (first
    | (go_at_call 31; refine (iIsSmall_any _ _ _ m _ H.out).mono ?_; rw [HS.out]; rintro e w' ⟨rfl, rfl⟩)
    | (go_at_call 89; refine (iCharP_any _ _ _ m _ H.out HR.out hn4).mono ?_; rintro e w1 ⟨v1, rfl, ho1, hb1⟩; obtain ⟨a1, c1, rfl, hi1⟩ := ho1.form; have HI := Lib.hid hi1; have HB := Lib.hid hb1; have hb2 := hb1.size; clear ho1 hb1 hi1))
  have Hem := Lib.hid (OInts.empty w1 w1.heap.size (Nat.le_refl _))
  have Hb0 : Hid (Below w.heap.size w (w1.alloc (.cells #[] 3))) := HB.out.trans ((Below.refl _ _).alloc hb2 _)
  have hc1 : ((n + 1 : Nat) : Int) = (n : Int) + 1 := by omega
  go_loopw [4, 5] (fun v x wr => ∃ k : Nat, k ≤ n + 1 ∧ x = .int .i64 ((n : Int) - (k : Int)) ∧ OInts wr w1.heap.size v k ((polyL m).take k) ∧ Below w1.heap.size w1 wr) (fun _ x _ => (intOf x + 1).toNat)
  case atStart => exact ⟨0, Nat.zero_le _, by simp, by simpa using Hem.out, (Below.refl _ _).alloc (Nat.le_refl _) _⟩
  case round =>
    obtain ⟨k, hk, rfl, hown, hbl⟩ := hrel
    obtain ⟨ao5, cap5, rfl, hi5⟩ := hown.form
    have hcap := hown.capLe rfl
    have Hown := Lib.hid hown
    have Hbl := Lib.hid hbl
    clear hown hbl Hem Hb0
    have Hbw := Lib.hid (HB.out.trans (Hbl.out.mono hb2))
    by_cases hlt : k < n + 1
    · obtain ⟨j, hj⟩ : ∃ j : Nat, n - k = j := ⟨_, rfl⟩
      have hnk : (n : Int) - (k : Int) = (j : Int) := by omega
      obtain ⟨b, o, x, rfl, hcx, hx⟩ := (HI.out.keep Hbl.out).at_ (k := j) (by omega)
      have HP : Hid ((polyL m)[k]? = some x) := by show _ = _; rw [← HCE.out k (by omega), hj]; exact hx.out
      have hjn : j < n + 1 := by omega
      have hd : (0 : Int) ≤ (j : Int) := by omega
      clear hj hx hi5
      rw [hnk]
      go_wp2_with (first
        | (at_builtin; refine wpList_push_one _ _ rfl _ _ rfl w1.heap.size _ _ _ rfl Hown.out (by omega) Hbl.out.size _ rfl rfl ?_; intro v1 w4 ho1 hb4; have Ho1 := Lib.hid ho1; have Hb4 := Lib.hid hb4; clear ho1 hb4))
      go_roundw
      case rel => exact ⟨k + 1, hlt, by rw [← hnk]; go_num, by have h := Ho1.out; rw [push_take HP.out] at h; exact h, Hbl.out.trans Hb4.out⟩
      case measure => (simp [intOf] <;> omega)
    · have e : k = n + 1 := by omega
      subst e
      have hnk : (n : Int) - ((n + 1 : Nat) : Int) = -1 := by omega
      have HI2 : Hid (Ints wr ao5 (n + 1) (polyL m)) := by
        have h := hi5
        rw [List.take_of_length_le (by rw [HPL.out]; omega)] at h
        exact h
      have HO2 : Hid (OInts wr w1.heap.size (.slice ao5 (n + 1) cap5) (n + 1) (polyL m)) := by
        have h := Hown.out
        rw [List.take_of_length_le (by rw [HPL.out]; omega)] at h
        exact h
      clear hi5 Hown
      rw [hnk]
      go_wp2_with (first
        | (go_at_call 90; refine (iTrimmed_any _ _ _ (polyL m) _ HI2.out hcap).mono ?_; rintro e w5 ⟨rfl, rfl⟩))
      go_ret
      have ho := (HO2.out.mono hb2).cutTo (cutN_le (polyL m) (n + 1))
      have e : (polyL m).take (cutN (polyL m) (n + 1)) = cutZ (polyL m) := by unfold cutZ; rw [HPL.out]
      rw [e] at ho
      have hl := ho.len
      rw [HG.out, hl]
      exact ⟨_, rfl, ho, Hbw.out⟩
end Go.Proofs.YtbjoblgklcilpaaGreatDoor

namespace Go.Proofs.YtbjoblgklcilpaaGreatDoor
open Go.RowKit
set_option linter.all false
theorem one_row (W : World) (ai : Option Addr) (ci : Nat) (r : List Int) (h : Ints W ai r.length r) (hc : r.length ≤ ci) : Intss (W.alloc (.cells #[.slice ai r.length ci] 26)) (some ⟨W.heap.size, 0, none⟩) 1 [r] := by
  refine ⟨rfl, by omega, fun i r' hi => ?_⟩
  have hz : i = 0 := by
    have := (List.getElem?_eq_some_iff.1 hi).1
    simp at this
    omega
  subst hz
  simp at hi
  subst hi
  exact ⟨_, 0, ai, ci, rfl, World.cell?_alloc_new _ _ _ _, h.keep ((Below.refl _ _).alloc (Nat.le_refl _) _), hc⟩
theorem eqL_one (a b : List Int) : eqL [a] [b] = eqL a b := by simp [eqL]
set_option maxRecDepth 20000 in
set_option maxHeartbeats 1600000 in
theorem iSameZ_any (p : Option Addr) (n c : Nat) (a : List (List Int)) (p' : Option Addr) (n' c' : Nat) (b : List (List Int)) (w : World) (h : Intss w p n a) (h' : Intss w p' n' b) :
    Calls Tryz.prog 50 #[.slice p n c, .slice p' n' c'] w fun e w' => e = .returned (.bool (sameZ a b)) ∧ Below w.heap.size w w' := by
  have HA := Lib.hid h
  have HB := Lib.hid h'
  clear h h'
  cases h1 : isSmallM a
  · have hg : Hid (sameZ a b = false) := by show _ = _; simp [sameZ, h1]
    have H1 := Lib.hid h1
    clear h1
    go_enter Tryz.func50, Tryz.ntmps50
    go_wp2_with (go_at_call 31; refine (iIsSmall_any _ _ _ a _ HA.out).mono ?_; rw [H1.out]; rintro e w' ⟨rfl, rfl⟩)
    go_ret
    exact ⟨ret_bool hg.out.symm, Below.refl _ _⟩
  cases h2 : isSmallM b
  · have hg : Hid (sameZ a b = false) := by show _ = _; simp [sameZ, h2]
    have H1 := Lib.hid h1
    have H2 := Lib.hid h2
    clear h1 h2
    go_enter Tryz.func50, Tryz.ntmps50
    go_wp2_with fail
    refine (iIsSmall_any _ _ _ a _ HA.out).mono ?_
    rw [H1.out]
    rintro e w' ⟨rfl, rfl⟩
    go_wp2_with fail
    refine (iIsSmall_any _ _ _ b _ HB.out).mono ?_
    rw [H2.out]
    rintro e w' ⟨rfl, rfl⟩
    go_wp2_with fail
    go_ret
    exact ⟨ret_bool hg.out.symm, Below.refl _ _⟩
  have hg : Hid (sameZ a b = eqL (turnedP a) (turnedP b)) := by show _ = _; simp [sameZ, h1, h2]
  have H1 := Lib.hid h1
  have H2 := Lib.hid h2
  clear h1 h2
  go_enter Tryz.func50, Tryz.ntmps50
  go_wp2_with fail
  refine (iIsSmall_any _ _ _ a _ HA.out).mono ?_
  rw [H1.out]
  rintro e w' ⟨rfl, rfl⟩
  go_wp2_with fail
  refine (iIsSmall_any _ _ _ b _ HB.out).mono ?_
  rw [H2.out]
  rintro e w' ⟨rfl, rfl⟩
  go_wp2_with fail
  refine (iTurned_any _ _ _ a _ HA.out).mono ?_
  rintro e w1 ⟨v1, rfl, ho1, hb1⟩
  obtain ⟨a1, c1, rfl, hi1⟩ := ho1.form
  have hc1 := ho1.capLe rfl
  have HI1 := Lib.hid hi1
  have HB1 := Lib.hid hb1
  clear ho1 hi1 hb1
  have HR1 := Lib.hid (one_row w1 a1 c1 (turnedP a) HI1.out hc1)
  have HBA : Hid (Below w1.heap.size w1 (w1.alloc (.cells #[.slice a1 (turnedP a).length c1] 26))) := (Below.refl _ _).alloc (Nat.le_refl _) _
  go_wp2_with fail
  generalize w1.alloc (.cells #[.slice a1 (turnedP a).length c1] 26) = wa at HR1 HBA ⊢
  refine (iTurned_any _ _ _ b _ (HB.out.keep (step2 HB1.out HBA.out))).mono ?_
  rintro e w2 ⟨v2, rfl, ho2, hb2⟩
  obtain ⟨a2, c2, rfl, hi2⟩ := ho2.form
  have hc2 := ho2.capLe rfl
  have HR2 := Lib.hid (one_row w2 a2 c2 (turnedP b) hi2 hc2)
  have HBC : Hid (Below w2.heap.size w2 (w2.alloc (.cells #[.slice a2 (turnedP b).length c2] 26))) := (Below.refl _ _).alloc (Nat.le_refl _) _
  have HB2 := Lib.hid hb2
  clear ho2 hi2 hb2
  go_wp2_with fail
  generalize w2.alloc (.cells #[.slice a2 (turnedP b).length c2] 26) = wc at HR2 HBC ⊢
  refine (iEqMat_any _ _ _ [turnedP a] _ _ _ [turnedP b] _ (HR1.out.keep (step2 HB2.out HBC.out)) HR2.out).mono ?_
  rintro e w3 ⟨rfl, hd3⟩
  have HB3 := Lib.hid ((step2 (step2 (step2 HB1.out HBA.out) HB2.out) HBC.out).trans (hd3.below _))
  clear hd3
  go_wp2_with fail
  go_ret
  exact ⟨ret_bool (by rw [hg.out, eqL_one]), HB3.out⟩
end Go.Proofs.YtbjoblgklcilpaaGreatDoor

namespace Go.Proofs.YtbjoblgklcilpaaGreatDoor
open Go.RowKit
set_option linter.all false
set_option maxRecDepth 20000 in
set_option maxHeartbeats 3200000 in
theorem iDiffers_any (p : Option Addr) (n c : Nat) (a : List (List Int)) (p' : Option Addr) (n' c' : Nat) (b : List (List Int)) (w : World) (h : Intss w p n a) (h' : Intss w p' n' b) :
    Calls Tryz.prog 18 #[.slice p n c, .slice p' n' c'] w fun e w' => e = .returned (.string (differs a b)) ∧ Below w.heap.size w w' := by
  have HA := Lib.hid h
  have HB := Lib.hid h'
  clear h h'
  cases h1 : isSmallM a
  · have hg : Hid (differs a b = ⟨#[]⟩) := by show _ = _; unfold differs; rw [if_pos h1]
    have H1 := Lib.hid h1
    clear h1
    go_enter Tryz.func18, Tryz.ntmps18
    go_wp2_with fail
    refine (iIsSmall_any _ _ _ a _ HA.out).mono ?_
    rw [H1.out]
    rintro e w' ⟨rfl, rfl⟩
    go_wp2_with fail
    go_ret
    exact ⟨ret_str hg.out.symm, Below.refl _ _⟩
  cases h2 : isSmallM b
  · have hg : Hid (differs a b = ⟨#[]⟩) := by show _ = _; unfold differs; rw [if_neg (by simp [h1]), if_pos h2]
    have H1 := Lib.hid h1
    have H2 := Lib.hid h2
    clear h1 h2
    go_enter Tryz.func18, Tryz.ntmps18
    go_wp2_with fail
    refine (iIsSmall_any _ _ _ a _ HA.out).mono ?_
    rw [H1.out]
    rintro e w' ⟨rfl, rfl⟩
    go_wp2_with fail
    refine (iIsSmall_any _ _ _ b _ HB.out).mono ?_
    rw [H2.out]
    rintro e w' ⟨rfl, rfl⟩
    go_wp2_with fail
    go_ret
    exact ⟨ret_str hg.out.symm, Below.refl _ _⟩
  cases h3 : sameZ a b
  · have hg : Hid (differs a b = txtPoly) := by show _ = _; unfold differs; rw [if_neg (by simp [h1]), if_neg (by simp [h2]), if_pos h3]
    have H1 := Lib.hid h1
    have H2 := Lib.hid h2
    have H3 := Lib.hid h3
    clear h1 h2 h3
    go_enter Tryz.func18, Tryz.ntmps18
    go_wp2_with fail
    refine (iIsSmall_any _ _ _ a _ HA.out).mono ?_
    rw [H1.out]
    rintro e w' ⟨rfl, rfl⟩
    go_wp2_with fail
    refine (iIsSmall_any _ _ _ b _ HB.out).mono ?_
    rw [H2.out]
    rintro e w' ⟨rfl, rfl⟩
    go_wp2_with fail
    refine (iSameZ_any _ _ _ a _ _ _ b _ HA.out HB.out).mono ?_
    rw [H3.out]
    rintro e w1 ⟨rfl, hb1⟩
    have HB1 := Lib.hid hb1
    clear hb1
    go_wp2_with fail
    go_ret
    exact ⟨ret_str hg.out.symm, HB1.out⟩
  cases h4 : eqL (groupV a) (groupV b)
  · have hg : Hid (differs a b = txtGroup) := by show _ = _; unfold differs; rw [if_neg (by simp [h1]), if_neg (by simp [h2]), if_neg (by simp [h3]), if_pos h4]
    have H1 := Lib.hid h1
    have H2 := Lib.hid h2
    have H3 := Lib.hid h3
    have H4 := Lib.hid h4
    clear h1 h2 h3 h4
    go_enter Tryz.func18, Tryz.ntmps18
    go_wp2_with fail
    refine (iIsSmall_any _ _ _ a _ HA.out).mono ?_
    rw [H1.out]
    rintro e w' ⟨rfl, rfl⟩
    go_wp2_with fail
    refine (iIsSmall_any _ _ _ b _ HB.out).mono ?_
    rw [H2.out]
    rintro e w' ⟨rfl, rfl⟩
    go_wp2_with fail
    refine (iSameZ_any _ _ _ a _ _ _ b _ HA.out HB.out).mono ?_
    rw [H3.out]
    rintro e w1 ⟨rfl, hb1⟩
    have HB1 := Lib.hid hb1
    clear hb1
    go_wp2_with fail
    refine (iGroupOf_any _ _ _ a _ (HA.out.keep HB1.out)).mono ?_
    rintro e w2 ⟨v2, rfl, ho2, hb2⟩
    obtain ⟨a2, c2, rfl, hi2⟩ := ho2.form
    have HI2 := Lib.hid hi2
    have HB2 := Lib.hid (step2 HB1.out hb2)
    clear ho2 hi2 hb2
    go_wp2_with fail
    refine (iGroupOf_any _ _ _ b _ (HB.out.keep HB2.out)).mono ?_
    rintro e w3 ⟨v3, rfl, ho3, hb3⟩
    obtain ⟨a3, c3, rfl, hi3⟩ := ho3.form
    have HI3 := Lib.hid hi3
    have HI23 := Lib.hid (HI2.out.keep hb3)
    have HB3 := Lib.hid (step2 HB2.out hb3)
    clear ho3 hi3 hb3
    go_wp2_with fail
    refine (slicesEqual_any _ _ _ (groupV a) _ _ _ (groupV b) _ HI23.out HI3.out).mono ?_
    rw [H4.out]
    rintro e w4 ⟨rfl, hd4⟩
    have HB4 := Lib.hid (HB3.out.trans (hd4.below _))
    clear hd4
    go_wp2_with fail
    go_ret
    exact ⟨ret_str hg.out.symm, HB4.out⟩
  by_cases h5 : signOf a = signOf b
  · have hg : Hid (differs a b = txtNone) := by show _ = _; unfold differs; rw [if_neg (by simp [h1]), if_neg (by simp [h2]), if_neg (by simp [h3]), if_neg (by simp [h4]), if_pos h5]
    have he : (signOf a != signOf b) = false := by simp [h5]
    clear h5
    have H1 := Lib.hid h1
    have H2 := Lib.hid h2
    have H3 := Lib.hid h3
    have H4 := Lib.hid h4
    clear h1 h2 h3 h4
    go_enter Tryz.func18, Tryz.ntmps18
    go_wp2_with fail
    refine (iIsSmall_any _ _ _ a _ HA.out).mono ?_
    rw [H1.out]
    rintro e w' ⟨rfl, rfl⟩
    go_wp2_with fail
    refine (iIsSmall_any _ _ _ b _ HB.out).mono ?_
    rw [H2.out]
    rintro e w' ⟨rfl, rfl⟩
    go_wp2_with fail
    refine (iSameZ_any _ _ _ a _ _ _ b _ HA.out HB.out).mono ?_
    rw [H3.out]
    rintro e w1 ⟨rfl, hb1⟩
    have HB1 := Lib.hid hb1
    clear hb1
    go_wp2_with fail
    refine (iGroupOf_any _ _ _ a _ (HA.out.keep HB1.out)).mono ?_
    rintro e w2 ⟨v2, rfl, ho2, hb2⟩
    obtain ⟨a2, c2, rfl, hi2⟩ := ho2.form
    have HI2 := Lib.hid hi2
    have HB2 := Lib.hid (step2 HB1.out hb2)
    clear ho2 hi2 hb2
    go_wp2_with fail
    refine (iGroupOf_any _ _ _ b _ (HB.out.keep HB2.out)).mono ?_
    rintro e w3 ⟨v3, rfl, ho3, hb3⟩
    obtain ⟨a3, c3, rfl, hi3⟩ := ho3.form
    have HI3 := Lib.hid hi3
    have HI23 := Lib.hid (HI2.out.keep hb3)
    have HB3 := Lib.hid (step2 HB2.out hb3)
    clear ho3 hi3 hb3
    go_wp2_with fail
    refine (slicesEqual_any _ _ _ (groupV a) _ _ _ (groupV b) _ HI23.out HI3.out).mono ?_
    rw [H4.out]
    rintro e w4 ⟨rfl, hd4⟩
    have HB4 := Lib.hid (HB3.out.trans (hd4.below _))
    clear hd4
    go_wp2_with fail
    refine (iSignOf_any _ _ _ a _ (HA.out.keep HB4.out)).mono ?_
    rintro e w5 ⟨rfl, hb5⟩
    have HB5 := Lib.hid (step2 HB4.out hb5)
    clear hb5
    go_wp2_with fail
    refine (iSignOf_any _ _ _ b _ (HB.out.keep HB5.out)).mono ?_
    rintro e w6 ⟨rfl, hb6⟩
    have HB6 := Lib.hid (step2 HB5.out hb6)
    clear hb6
    go_wp2_with fail
    go_ret
    exact ⟨ret_str hg.out.symm, HB6.out⟩
  · have hg : Hid (differs a b = txtSign) := by show _ = _; unfold differs; rw [if_neg (by simp [h1]), if_neg (by simp [h2]), if_neg (by simp [h3]), if_neg (by simp [h4]), if_neg h5]
    have he : (signOf a != signOf b) = true := by simp [h5]
    clear h5
    have H1 := Lib.hid h1
    have H2 := Lib.hid h2
    have H3 := Lib.hid h3
    have H4 := Lib.hid h4
    clear h1 h2 h3 h4
    go_enter Tryz.func18, Tryz.ntmps18
    go_wp2_with fail
    refine (iIsSmall_any _ _ _ a _ HA.out).mono ?_
    rw [H1.out]
    rintro e w' ⟨rfl, rfl⟩
    go_wp2_with fail
    refine (iIsSmall_any _ _ _ b _ HB.out).mono ?_
    rw [H2.out]
    rintro e w' ⟨rfl, rfl⟩
    go_wp2_with fail
    refine (iSameZ_any _ _ _ a _ _ _ b _ HA.out HB.out).mono ?_
    rw [H3.out]
    rintro e w1 ⟨rfl, hb1⟩
    have HB1 := Lib.hid hb1
    clear hb1
    go_wp2_with fail
    refine (iGroupOf_any _ _ _ a _ (HA.out.keep HB1.out)).mono ?_
    rintro e w2 ⟨v2, rfl, ho2, hb2⟩
    obtain ⟨a2, c2, rfl, hi2⟩ := ho2.form
    have HI2 := Lib.hid hi2
    have HB2 := Lib.hid (step2 HB1.out hb2)
    clear ho2 hi2 hb2
    go_wp2_with fail
    refine (iGroupOf_any _ _ _ b _ (HB.out.keep HB2.out)).mono ?_
    rintro e w3 ⟨v3, rfl, ho3, hb3⟩
    obtain ⟨a3, c3, rfl, hi3⟩ := ho3.form
    have HI3 := Lib.hid hi3
    have HI23 := Lib.hid (HI2.out.keep hb3)
    have HB3 := Lib.hid (step2 HB2.out hb3)
    clear ho3 hi3 hb3
    go_wp2_with fail
    refine (slicesEqual_any _ _ _ (groupV a) _ _ _ (groupV b) _ HI23.out HI3.out).mono ?_
    rw [H4.out]
    rintro e w4 ⟨rfl, hd4⟩
    have HB4 := Lib.hid (HB3.out.trans (hd4.below _))
    clear hd4
    go_wp2_with fail
    refine (iSignOf_any _ _ _ a _ (HA.out.keep HB4.out)).mono ?_
    rintro e w5 ⟨rfl, hb5⟩
    have HB5 := Lib.hid (step2 HB4.out hb5)
    clear hb5
    go_wp2_with fail
    refine (iSignOf_any _ _ _ b _ (HB.out.keep HB5.out)).mono ?_
    rintro e w6 ⟨rfl, hb6⟩
    have HB6 := Lib.hid (step2 HB5.out hb6)
    clear hb6
    go_wp2_with fail
    go_ret
    exact ⟨ret_str hg.out.symm, HB6.out⟩
end Go.Proofs.YtbjoblgklcilpaaGreatDoor

namespace Go.Proofs.YtbjoblgklcilpaaGreatDoor
open Go.RowKit
set_option linter.all false
set_option maxHeartbeats 1600000 in
theorem iFlowLike_any (p : Option Addr) (n c : Nat) (a : List (List Int)) (p' : Option Addr) (n' c' : Nat) (b : List (List Int)) (w : World) (h : Intss w p n a) (h' : Intss w p' n' b) :
    Calls Tryz.prog 20 #[.slice p n c, .slice p' n' c'] w fun e w' => e = .returned (.bool (flowLike a b)) ∧ Below w.heap.size w w' := by
  have HA := Lib.hid h
  have HB := Lib.hid h'
  clear h h'
  cases h1 : isSmallM a
  · have hg : Hid (flowLike a b = false) := by show _ = _; simp [flowLike, h1]
    go_enter Tryz.func20, Tryz.ntmps20
    go_wp2_with (go_at_call 31; refine (iIsSmall_any _ _ _ a _ HA.out).mono ?_; rintro e w' ⟨rfl, rfl⟩)
    go_ret
    exact ⟨ret_bool hg.out.symm, Below.refl _ _⟩
  cases h2 : isSmallM b
  · have hg : Hid (flowLike a b = false) := by show _ = _; simp [flowLike, h2]
    go_enter Tryz.func20, Tryz.ntmps20
    go_wp2_with fail
    refine (iIsSmall_any _ _ _ a _ HA.out).mono ?_
    rintro e w' ⟨rfl, rfl⟩
    go_wp2_with fail
    refine (iIsSmall_any _ _ _ b _ HB.out).mono ?_
    rintro e w' ⟨rfl, rfl⟩
    go_wp2_with fail
    go_ret
    exact ⟨ret_bool hg.out.symm, Below.refl _ _⟩
  cases h3 : eqL (groupV a) (groupV b)
  · have hg : Hid (flowLike a b = false) := by show _ = _; simp [flowLike, h3]
    go_enter Tryz.func20, Tryz.ntmps20
    go_wp2_with fail
    refine (iIsSmall_any _ _ _ a _ HA.out).mono ?_
    rintro e w' ⟨rfl, rfl⟩
    go_wp2_with fail
    refine (iIsSmall_any _ _ _ b _ HB.out).mono ?_
    rintro e w' ⟨rfl, rfl⟩
    go_wp2_with fail
    refine (iGroupOf_any _ _ _ a _ HA.out).mono ?_
    rintro e w1 ⟨v1, rfl, ho1, hb1⟩
    obtain ⟨ao1, cap1, rfl, hi1⟩ := ho1.form
    have Hi1 := Lib.hid hi1
    have Hb1 := Lib.hid hb1
    clear ho1 hi1 hb1
    go_wp2_with fail
    refine (iGroupOf_any _ _ _ b _ (HB.out.keep Hb1.out)).mono ?_
    rintro e w2 ⟨v2, rfl, ho2, hb2⟩
    obtain ⟨ao2, cap2, rfl, hi2⟩ := ho2.form
    have Hi2 := Lib.hid hi2
    have Hb2 := Lib.hid hb2
    have Hb12 := Lib.hid (step2 Hb1.out hb2)
    clear ho2 hi2 hb2
    go_wp2_with fail
    refine (slicesEqual_any _ _ _ (groupV a) _ _ _ (groupV b) _ (Hi1.out.keep Hb2.out) Hi2.out).mono ?_
    rintro e w3 ⟨rfl, hd3⟩
    have Hb3 := Lib.hid (Hb12.out.trans (hd3.below _))
    clear hd3
    go_wp2_with fail
    go_ret
    exact ⟨ret_bool hg.out.symm, Hb3.out⟩
  · have hg : Hid (flowLike a b = (signOf a == signOf b)) := by show _ = _; simp [flowLike, h1, h2, h3]
    go_enter Tryz.func20, Tryz.ntmps20
    go_wp2_with fail
    refine (iIsSmall_any _ _ _ a _ HA.out).mono ?_
    rintro e w' ⟨rfl, rfl⟩
    go_wp2_with fail
    refine (iIsSmall_any _ _ _ b _ HB.out).mono ?_
    rintro e w' ⟨rfl, rfl⟩
    go_wp2_with fail
    refine (iGroupOf_any _ _ _ a _ HA.out).mono ?_
    rintro e w1 ⟨v1, rfl, ho1, hb1⟩
    obtain ⟨ao1, cap1, rfl, hi1⟩ := ho1.form
    have Hi1 := Lib.hid hi1
    have Hb1 := Lib.hid hb1
    clear ho1 hi1 hb1
    go_wp2_with fail
    refine (iGroupOf_any _ _ _ b _ (HB.out.keep Hb1.out)).mono ?_
    rintro e w2 ⟨v2, rfl, ho2, hb2⟩
    obtain ⟨ao2, cap2, rfl, hi2⟩ := ho2.form
    have Hi2 := Lib.hid hi2
    have Hb2 := Lib.hid hb2
    have Hb12 := Lib.hid (step2 Hb1.out hb2)
    clear ho2 hi2 hb2
    go_wp2_with fail
    refine (slicesEqual_any _ _ _ (groupV a) _ _ _ (groupV b) _ (Hi1.out.keep Hb2.out) Hi2.out).mono ?_
    rintro e w3 ⟨rfl, hd3⟩
    have Hb3 := Lib.hid (Hb12.out.trans (hd3.below _))
    clear hd3
    go_wp2_with fail
    refine (iSignOf_any _ _ _ a _ (HA.out.keep Hb3.out)).mono ?_
    rintro e w4 ⟨rfl, hb4⟩
    have Hb4 := Lib.hid (step2 Hb3.out hb4)
    clear hb4
    go_wp2_with fail
    refine (iSignOf_any _ _ _ b _ (HB.out.keep Hb4.out)).mono ?_
    rintro e w5 ⟨rfl, hb5⟩
    have Hb5 := Lib.hid (step2 Hb4.out hb5)
    clear hb5
    go_wp2_with fail
    go_ret
    exact ⟨ret_bool hg.out.symm, Hb5.out⟩
end Go.Proofs.YtbjoblgklcilpaaGreatDoor

namespace Go.Proofs.YtbjoblgklcilpaaGreatDoor
open Go.RowKit
set_option linter.all false
set_option maxRecDepth 20000 in
set_option maxHeartbeats 3200000 in
theorem iLines_any (p : Option Addr) (n c : Nat) (m : List (List Int)) (w : World) (h : Intss w p n m) (ht : PowV w) :
    Calls Tryz.prog 24 #[.slice p n c] w fun e w' => ∃ v, e = .returned v ∧ OStrs w' w.heap.size v (linesV m).length (linesV m) ∧ Below w.heap.size w w' := by
  have H := Lib.hid h
  have HT := Lib.hid ht
  clear ht
  clear h
  cases hs : isSmallM m
  · have hg : Hid (linesV m = []) := by show _ = _; simp [linesV, hs]
    have HS := Lib.hid hs
    clear hs
    go_enter Tryz.func24, Tryz.ntmps24
    go_wp2_with (go_at_call 31; refine (iIsSmall_any _ _ _ m _ H.out).mono ?_; rw [HS.out]; rintro e w' ⟨rfl, rfl⟩)
    go_ret
    rw [hg.out]
    exact ⟨_, rfl, OStrs.none_ _ _, Below.refl _ _⟩
  have hg : Hid (linesV m = [groupTxt (groupV m), sgT (signOf m)]) := by show _ = _; simp [linesV, hs]
  have H3 := Lib.hid (signOf_three hs)
  have HS := Lib.hid hs
  have HLE := Lib.hid (groupV_le m)
  have HLN := groupV_len m
  clear hs
  go_enter Tryz.func24, Tryz.ntmps24
  go_wp2_with fail
  refine (iIsSmall_any _ _ _ m _ H.out).mono ?_
  rw [HS.out]
  rintro e w' ⟨rfl, rfl⟩
  go_wp2_with fail
  refine (iGroupOf_any _ _ _ m _ H.out).mono ?_
  rintro e w1 ⟨v1, rfl, ho1, hb1⟩
  obtain ⟨a1, c1, rfl, hi1⟩ := ho1.form
  have HI1 := Lib.hid hi1
  have HB1 := Lib.hid hb1
  clear ho1 hi1 hb1
  go_wp2_with fail
  refine (iGroupText_any _ _ _ (groupV m) _ HI1.out HLN HLE.out (HT.out.keep HB1.out)).mono ?_
  rintro e w2 ⟨rfl, hb2⟩
  have HB2 := Lib.hid (step2 HB1.out hb2)
  clear hb2
  have HK := Lib.hid (heap_alloc_new w2 (.cells #[.string txtMinus, .string txtZero, .string txtPlus] 9))
  have HB3 := Lib.hid (step2 HB2.out (belowA w2 (.cells #[.string txtMinus, .string txtZero, .string txtPlus] 9)))
  have HBA := Lib.hid (belowA w2 (.cells #[.string txtMinus, .string txtZero, .string txtPlus] 9))
  have e1 : txtMinus = ⟨#[109, 105, 110, 117, 115]⟩ := rfl
  have e2 : txtZero = ⟨#[122, 101, 114, 111]⟩ := rfl
  have e3 : txtPlus = ⟨#[112, 108, 117, 115]⟩ := rfl
  rw [e1, e2, e3] at HK HB3 HBA
  clear e1 e2 e3
  go_wp2_with fail
  obtain ⟨g, hgs⟩ : ∃ g, w2.heap.size = g := ⟨_, rfl⟩
  rw [hgs] at HK
  simp only [hgs]
  generalize w2.alloc (.cells #[.string ⟨#[109, 105, 110, 117, 115]⟩, .string ⟨#[122, 101, 114, 111]⟩, .string ⟨#[112, 108, 117, 115]⟩] 9) = w3 at HK HB3 HBA ⊢
  clear hgs
  rcases H3.out with hz | hz | hz
  · have HZ := Lib.hid hz
    have HG : Hid (linesV m = [groupTxt (groupV m), txtMinus]) := by show _ = _; rw [hg.out, hz]; rfl
    clear hz
    refine (iSignOf_any _ _ _ m _ (H.out.keep HB3.out)).mono ?_
    rw [HZ.out]
    rintro e w4 ⟨rfl, hb4⟩
    have hblk := (hb4.block g (Array.getElem?_eq_some_iff.1 HK.out).1).trans HK.out
    have hcell := cell_of_row w4 g 0 _ 9 (0, 0) hblk
    have HB4 := Lib.hid (step2 HB3.out hb4)
    have HO := Lib.hid (OStrs.lit w4 w.heap.size [groupTxt (groupV m), txtMinus] HB4.out.size (by simp))
    have HB5 := Lib.hid (step2 HB4.out (belowA w4 (.cells #[.string (groupTxt (groupV m)), .string txtMinus] 9)))
    have e9 : txtMinus = ⟨#[109, 105, 110, 117, 115]⟩ := rfl
    rw [e9] at HO HB5
    clear hb4 hblk e9
    go_wp2_with fail
    go_ret
    rw [HG.out]
    exact ⟨_, rfl, HO.out, HB5.out⟩
  · have HZ := Lib.hid hz
    have HG : Hid (linesV m = [groupTxt (groupV m), txtZero]) := by show _ = _; rw [hg.out, hz]; rfl
    clear hz
    refine (iSignOf_any _ _ _ m _ (H.out.keep HB3.out)).mono ?_
    rw [HZ.out]
    rintro e w4 ⟨rfl, hb4⟩
    have hblk := (hb4.block g (Array.getElem?_eq_some_iff.1 HK.out).1).trans HK.out
    have hcell := cell_of_row w4 g 1 _ 9 (0, 0) hblk
    have HB4 := Lib.hid (step2 HB3.out hb4)
    have HO := Lib.hid (OStrs.lit w4 w.heap.size [groupTxt (groupV m), txtZero] HB4.out.size (by simp))
    have HB5 := Lib.hid (step2 HB4.out (belowA w4 (.cells #[.string (groupTxt (groupV m)), .string txtZero] 9)))
    have e9 : txtZero = ⟨#[122, 101, 114, 111]⟩ := rfl
    rw [e9] at HO HB5
    clear hb4 hblk e9
    go_wp2_with fail
    go_ret
    rw [HG.out]
    exact ⟨_, rfl, HO.out, HB5.out⟩
  · have HZ := Lib.hid hz
    have HG : Hid (linesV m = [groupTxt (groupV m), txtPlus]) := by show _ = _; rw [hg.out, hz]; rfl
    clear hz
    refine (iSignOf_any _ _ _ m _ (H.out.keep HB3.out)).mono ?_
    rw [HZ.out]
    rintro e w4 ⟨rfl, hb4⟩
    have hblk := (hb4.block g (Array.getElem?_eq_some_iff.1 HK.out).1).trans HK.out
    have hcell := cell_of_row w4 g 2 _ 9 (0, 0) hblk
    have HB4 := Lib.hid (step2 HB3.out hb4)
    have HO := Lib.hid (OStrs.lit w4 w.heap.size [groupTxt (groupV m), txtPlus] HB4.out.size (by simp))
    have HB5 := Lib.hid (step2 HB4.out (belowA w4 (.cells #[.string (groupTxt (groupV m)), .string txtPlus] 9)))
    have e9 : txtPlus = ⟨#[112, 108, 117, 115]⟩ := rfl
    rw [e9] at HO HB5
    clear hb4 hblk e9
    go_wp2_with fail
    go_ret
    rw [HG.out]
    exact ⟨_, rfl, HO.out, HB5.out⟩
end Go.Proofs.YtbjoblgklcilpaaGreatDoor
