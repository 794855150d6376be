/- Parts of the proof of a law, joined: D4b D17 D17b. -/
import Derived.Deep.RegionLaw
import Derived.Test.YtblkgkgopneleaaProg
import Derived.Test.YtblkgkgopneleaaBD4
import Derived.Test.YtblkgkgopneleaaBG0b
import Derived.Test.YtblkgkgopneleaaBG0a
import Derived.Test.YtblkgkgopneleaaBG1a
namespace Go.Proofs.Ytblkgkgopneleaa
open Go.RowKit
set_option linter.all false
theorem bent_set {T : List (List Int)} {i j : Nat} {x : Int} (h : Bent T) (hi : i < T.length) : Bent (T.set i (T[i].set j x)) := by
  refine ⟨by rw [List.length_set]; exact h.1, by rw [List.length_set]; exact h.2.1, fun r hr => ?_⟩
  rcases List.mem_or_eq_of_mem_set hr with hr | rfl
  · exact h.2.2 r hr
  · rw [List.length_set]; exact h.2.2 _ (List.getElem_mem _)
theorem grown_far {w W w' : World} {b g : Nat} (h : w.grownBy W (some b)) (k : W.grownBy w' (some g)) (hg : w.heap.size ≤ g) : w.grownBy w' (some b) := by
  refine ⟨k.os.trans h.os, ?_, k.output.trans h.output, Nat.le_trans h.size k.size, fun i hi hne => (k.block i (Nat.lt_of_lt_of_le hi h.size) (by intro e; injection e; omega)).trans (h.block i hi hne)⟩
  first | exact k.tape.trans h.tape | exact Nat.le_trans h.tape k.tape | exact h.tape.trans k.tape
theorem bent_push {T : List (List Int)} (h : Bent T) (h4 : T.length ≤ 4) : Bent (T ++ [[1]]) := by
  refine ⟨by simp, by simp; omega, fun r hr => ?_⟩
  rcases List.mem_append.1 hr with hr | hr
  · exact h.2.2 r hr
  · simp at hr; subst hr; simp
set_option maxRecDepth 20000 in
set_option maxHeartbeats 6400000 in
theorem l4Bent_any (b lo : Nat) (w : World) (h : Cur w b lo) :
    Calls Try.prog 80 #[.pointer (some ⟨b, 0, none⟩)] w fun e w' => ∃ v T, e = .returned v ∧ OIntss w' w.heap.size v T.length T ∧ Bent T ∧ Cur w' b lo ∧ w.grownBy w' (some b) := by
  have hbl := h.lt.2
  have H := Lib.hid h
  clear h
  go_enter Try.func80, Try.ntmps80
  go_wp2_with (go_at_call 104; refine (l4Draw_any b lo 4 _ H.out (by omega) (by omega)).mono ?_; rintro e w1 ⟨v1, T, rfl, ho1, hT, hc1, hg1⟩; obtain ⟨g, cap, rfl⟩ := ho1.head (by have := hT.1.1; omega); have Ho1 := Lib.hid ho1; have HT := Lib.hid hT.1; have hT4 := hT.2; have Hc1 := Lib.hid hc1; have Hg1 := Lib.hid hg1; clear ho1 hc1 hg1 hT)
  refine (l1Below_any b lo 16 _ Hc1.out (by omega) (by omega)).mono ?_
  rintro e w2 ⟨x, hx, rfl, hc2, hg2⟩
  have Hc2 := Lib.hid hc2
  have Hg2 := Lib.hid (Hg1.out.trans hg2)
  have Ho2 := Lib.hid (Ho1.out.away hg2 hbl)
  have hs2 := Hg2.out.size
  clear hc2 hg2
  have hT1 := HT.out.1
  by_cases hx0 : x = 0
  · subst hx0
    have hti : 0 < T.length := by omega
    obtain ⟨nr, hnr⟩ : ∃ nr, T[0].length = nr := ⟨_, rfl⟩
    have hri := hnr
    have hnr1 : 0 < nr := by have := (HT.out.2.2 T[0] (List.getElem_mem _)).1; omega
    obtain ⟨gk, ck, h5, ho, hne, hlo⟩ := Ho2.out.rowAt (List.getElem?_eq_getElem hti) (by omega)
    rw [hri] at h5
    have h6 := ho.cell 0 (by omega)
    have h7 := ho.frozen 0
    have hgn : g < w2.heap.size := Ho2.out.lt.2
    have hgne : some g ≠ some b := by have := Ho2.out.lt.1; intro e; injection e; omega
    have hgk : gk < w2.heap.size := ho.lt.2
    have HO := Lib.hid ho
    have hset := fun (W : World) (hw : OIntss W w.heap.size (.slice (some ⟨g, 0, none⟩) T.length cap) T.length T) (hc : W.cell? ⟨g, 0, none⟩ = some (.slice (some ⟨gk, 0, none⟩) T[0].length ck)) (ho : OInts W w.heap.size (.slice (some ⟨gk, 0, none⟩) T[0].length ck) T[0].length T[0]) (x : Int) => hw.setIn (List.getElem?_eq_getElem hti) hc ho 0 x
    rw [hri] at hset
    have HSet := Lib.hid hset
    have HB4 := Lib.hid (((Below.refl w2.heap.size w2).alloc (Nat.le_refl _) (.cells #[.int .i64 (-1), .int .i64 1000000, .int .i64 1000001, .int .i64 9] 3)).drew)
    have Hri := Lib.hid hri
    have HLit : Hid (OInts (w2.alloc (.cells #[.int .i64 (-1), .int .i64 1000000, .int .i64 1000001, .int .i64 9] 3)).drew w2.heap.size (.slice (some ⟨w2.heap.size, 0, none⟩) 4 4) 4 [-1, 1000000, 1000001, 9]) := (OInts.lit_ (w := w2) (arr := #[.int .i64 (-1), .int .i64 1000000, .int .i64 1000001, .int .i64 9]) (n := 4) (xs := [-1, 1000000, 1000001, 9]) (Nat.le_refl _) rfl rfl (by omega)).drewN 1
    have HRS := Lib.hid (fun x => bent_set (j := 0) (x := x) HT.out hti)
    clear hset ho h7 hri hnr
    go_wp2_with fail
    go_region_law (first
      | (go_simp; go_at_call 95; refine (l1PickInt_any b lo w2.heap.size 4 4 _ [-1, 1000000, 1000001, 9] _ (Hc2.out.keep HB4.out) HLit.out Hc2.out.lt.2 (by omega) (by omega)).mono ?_; rintro e w5 ⟨d0, hd0, rfl, hc5, hg5⟩; have Hc5 := Lib.hid hc5; have Hg5 := Lib.hid (Hg2.out.trans ((grown_of_below HB4.out).trans hg5)); have Ho5 := Lib.hid ((Ho2.out.keep HB4.out).away hg5 hbl); have HOk := Lib.hid ((HO.out.keep HB4.out).away hg5 hbl); have q5 := hg5.cell ((HB4.out.cell (p := ⟨g, 0, none⟩) hgn).trans h5) hgne; have q6 := HOk.out.cell 0 (by rw [Hri.out]; exact hnr1); have q7 := HOk.out.frozen 0; clear hc5 hg5 hd0))
    all_goals
      have Ht := Lib.hid (HSet.out _ Ho5.out q5 (by have h9 := HOk.out; rw [Hri.out] at h9; exact h9) d0)
      have HRT := Lib.hid (HRS.out d0)
      have HUL : Hid ((T.set 0 (T[0].set 0 d0)).length = T.length) := by show _ = _; rw [List.length_set]
      have Hc6 := Lib.hid (Hc5.out.grown (only_setCell (World.grownBy.refl w5 (some gk)) rfl (p := ⟨gk, 0, none⟩) (.int .i64 d0)) (fun g e => by injection e; omega))
      have Hg6 := Lib.hid (grown_new Hg5.out (p := ⟨gk, 0, none⟩) (by show _ ≤ gk; omega) (.int .i64 d0))
      generalize w5.setCell ⟨gk, 0, none⟩ (.int .i64 d0) = w6 at Ht Hc6 Hg6 ⊢
      generalize T.set 0 (T[0].set 0 d0) = U at Ht HRT HUL
      clear q5 q6 q7 Ho5 HOk Hc5 Hg5 HSet h5 h6 HRS
      go_wp2_with fail
      go_ret
      exact ⟨_, U, rfl, by rw [HUL.out]; exact Ht.out, HRT.out, Hc6.out, Hg6.out⟩
  have d0 : ((x : Int) == 0) = false := beq_eq_false_iff_ne.2 (by omega)
  by_cases hx1 : x = 1
  · subst hx1
    have HR := Lib.hid (OInts.lit_ (w := w2) (lo := w2.heap.size) (arr := #[.int .i64 1]) (n := 1) (xs := [1]) (Nat.le_refl _) rfl rfl (by omega))
    have HB3 := Lib.hid ((Below.refl w2.heap.size w2).alloc (Nat.le_refl _) (.cells #[.int .i64 1] 3))
    have HRT := Lib.hid (bent_push HT.out hT4)
    go_wp2_with (at_builtin; refine wpList_push_rowC _ _ w2 rfl (.tmp 19) (.tmp 21) rfl w.heap.size _ T.length T rfl Ho2.out (by omega) hs2 HB3.out 1 [1] HR.out _ ?_ rfl ?_; (first | rfl | simp); intro v6 w6 ho6 hg6 hn6; have hg7 : (w2.alloc (.cells #[.int .i64 1] 3)).grownBy w6 (some g) := hg6; have HO6 := Lib.hid ho6; have HG6 := Lib.hid (grown_far (Hg2.out.trans (grown_of_below HB3.out)) hg7 Ho2.out.lt.1); have HC6 := Lib.hid ((Hc2.out.keep HB3.out).grown hg7 (fun q e => (by have h1 := Ho2.out.lt.1; injection e; omega))); clear hg7; clear ho6 hg6 hn6)
    go_ret
    exact ⟨_, T ++ [[1]], rfl, by simpa using HO6.out, HRT.out, HC6.out, HG6.out⟩
  · have d1 : ((x : Int) == 1) = false := beq_eq_false_iff_ne.2 (by omega)
    go_wp2_with fail
    go_ret
    exact ⟨_, T, rfl, Ho2.out, HT.out, Hc2.out, Hg2.out⟩
end Go.Proofs.Ytblkgkgopneleaa

namespace Go.Proofs.Ytblkgkgopneleaa
open Go.RowKit
set_option linter.all false
theorem mxn_idx {k : Int} {n : Nat} (h : 1 ≤ n) : ∃ q : Nat, (if mn k ((n : Int) - 1) < 0 then (0 : Int) else mn k ((n : Int) - 1)) = q ∧ q < n := by
  unfold mn
  split
  · split
    · exact ⟨0, rfl, by omega⟩
    · exact ⟨k.toNat, by omega, by omega⟩
  · split
    · exact ⟨0, rfl, by omega⟩
    · exact ⟨n - 1, by omega, by omega⟩
theorem mx9 (y : Int) : ∃ z : Nat, (if mn 9 y < 0 then (0 : Int) else mn 9 y) = z ∧ z ≤ 9 := by
  unfold mn
  split
  · exact ⟨9, by simp, by omega⟩
  · split
    · exact ⟨0, rfl, by omega⟩
    · exact ⟨y.toNat, by omega, by omega⟩
theorem mx0 {y : Int} {n : Nat} (h : 1 ≤ n) (hy : y < n) : ∃ q : Nat, (if y < 0 then (0 : Int) else y) = q ∧ q < n := by
  split
  · exact ⟨0, rfl, by omega⟩
  · exact ⟨y.toNat, by omega, by omega⟩
theorem Since.grow {lo hi : Nat} {a b c : World} {row : Option Nat} (h : Since lo hi a b) (k : b.grownBy c row) (hr : ∀ g, row = some g → g < lo ∨ hi ≤ g) (hs : hi ≤ b.heap.size) : Since lo hi a c :=
  ⟨Nat.le_trans h.size k.size, fun i h1 h2 => (k.block i (by omega) (fun e => by have := hr i e.symm; omega)).trans (h.block i h1 h2)⟩
set_option maxRecDepth 20000 in
set_option maxHeartbeats 6400000 in
theorem l17Case_any (ao : Option Addr) (n c : Nat) (col : Bool) (w : World) (h : Bytes w ao n) :
    Calls Try.prog 65 #[.slice ao n c, .bool col] w fun e w' => ∃ (v u : Value) (T : List (List Int)) (i : Int) (pt : List Int), e = .returned (.tuple #[v, .int .i64 i, u]) ∧ OIntss w' w.heap.size v T.length T ∧ OInts w' w.heap.size u pt.length pt ∧ (Bent T ∧ pt.length ≤ 6) ∧ Below w.heap.size w w' := by
  have H := Lib.hid h
  clear h
  go_enter Try.func65, Try.ntmps65
  go_wp2_with fail
  refine (l1New_any _ _ _ _ H.out).mono ?_
  rintro e w1 ⟨rfl, hc1, hb1⟩
  have hbl := hc1.lt.2
  have Hc1 := Lib.hid hc1
  have Hb1 := Lib.hid hb1
  have hs1 := hb1.size
  clear hc1 hb1
  generalize hB : w.heap.size = B at *
  go_wp2_with fail
  refine (l4Bent_any _ _ _ Hc1.out).mono ?_
  rintro e w2 ⟨v, T, rfl, ho, hT, hc2, hg2⟩
  obtain ⟨g, cap, rfl⟩ := ho.head (by have := hT.1; omega)
  have HT := Lib.hid hT
  have hT1 := hT.1
  have hT5 := hT.2.1
  have Ho2 := Lib.hid ho
  have Hc2 := Lib.hid hc2
  have Hg2 := Lib.hid hg2
  have hs2 := hg2.size
  clear ho hT hc2 hg2
  go_wp2_with fail
  refine (l1Below_any _ _ T.length _ Hc2.out hT1 (by omega)).mono ?_
  rintro e w3 ⟨x, hx, rfl, hc3, hg3⟩
  have Ho3 := Lib.hid (Ho2.out.away hg3 hbl)
  have Hc3 := Lib.hid hc3
  have Hg3 := Lib.hid (Hg2.out.trans hg3)
  clear hc3 hg3
  go_wp2_with fail
  refine (l1Once_any _ _ 16 _ Hc3.out (by omega) (by omega)).mono ?_
  rintro e w4 ⟨t, rfl, hc4, hg4⟩
  have Ho4 := Lib.hid (Ho3.out.away hg4 hbl)
  have Hc4 := Lib.hid hc4
  have Hg4 := Lib.hid (Hg3.out.trans hg4)
  have hs4 := Hg4.out.size
  clear hc4 hg4
  go_wp2_with fail
  refine (l1Bit_any t _).mono ?_
  rintro e w' ⟨rfl, rfl⟩
  obtain ⟨I, hI, hIb⟩ : ∃ I : Int, (x : Int) - bit t = I ∧ -1 ≤ I ∧ I < T.length := ⟨_, rfl, by cases t <;> simp [bit] <;> omega, by cases t <;> simp [bit] <;> omega⟩
  have hI2 : IntKind.i64.wrap ((x : Int) - bit t) = I := by rw [wrap_i64_eq, hI]; unfold wrap64; omega
  have hI3 : wrap64 ((x : Int) - bit t) = I := by rw [hI]; unfold wrap64; omega
  have HE := Lib.hid (OInts.empty w4 w4.heap.size (Nat.le_refl _))
  have HBE : Below w4.heap.size w4 (w4.alloc (.cells #[] 3)) := (Below.refl _ _).alloc (Nat.le_refl _) _
  have Hc5 := Lib.hid (Hc4.out.keep HBE)
  have HS5 := Lib.hid ((Since.refl w1.heap.size w4.heap.size w4).below HBE (Nat.le_refl _))
  have Hg5 : Hid (w1.grownBy (w4.alloc (.cells #[] 3)) (some B)) := Hg4.out.trans (grown_of_below HBE)
  have hs5 : w1.heap.size ≤ w4.heap.size := hs4
  go_wp2_with fail
  clear hI hI2 hI3 HBE
  go_loopw [10, 11] (fun v' x' wr => ∃ (j : Nat) (pt : List Int), j ≤ T.length ∧ x' = .int .i64 j ∧ OInts wr w4.heap.size v' j pt ∧ Since w1.heap.size w4.heap.size w4 wr ∧ Cur wr B B ∧ w1.grownBy wr (some B)) (fun _ x' _ => T.length - (intOf x').toNat)
  case atStart => exact ⟨0, [], Nat.zero_le _, rfl, HE.out, HS5.out, Hc5.out, Hg5.out⟩
  case round =>
    obtain ⟨j, pt, hj, rfl, hown, hot, hcu, hgr⟩ := hrel
    obtain ⟨ao6, cap6, rfl, _⟩ := hown.form
    have Hown := Lib.hid hown
    have HSN := Lib.hid hot
    have HSW : Hid (w4.heap.size ≤ wr.heap.size) := hot.size
    have Hot := Lib.hid (Ho4.out.since hot)
    have Hcu := Lib.hid hcu
    have Hgr := Lib.hid hgr
    clear hown hot hcu hgr HE Hc5 HS5 Hg5
    by_cases hlt : j < T.length
    · obtain ⟨bj, oj, aj, cj, rj, ej, qj, hrowj, hgetj⟩ := Hot.out.readI.at_ hlt
      injection ej with ej
      injection ej with ej1 ej2
      subst ej1
      subst ej2
      simp only [Nat.zero_add] at qj
      have hrj := HT.out.2.2 rj (List.mem_of_getElem? hgetj.out)
      cases col
      · go_wp2_with fail
        refine (sMax_any 0 I _).mono ?_
        rintro e w' ⟨rfl, rfl⟩
        obtain ⟨q0, hq0, hq0l⟩ := mx0 hT1 hIb.2
        rw [hq0]
        obtain ⟨bq, oq, aq, cq, rq, eq, qq, hrowq, hgetq⟩ := Hot.out.readI.at_ hq0l
        injection eq with eq
        injection eq with eq1 eq2
        subst eq1
        subst eq2
        simp only [Nat.zero_add] at qq
        have hrq := HT.out.2.2 rq (List.mem_of_getElem? hgetq.out)
        clear hq0
        have hwl : IntKind.i64.wrap ((rq.length : Int) - 1) = (rq.length : Int) - 1 := by rw [wrap_i64_eq]; unfold wrap64; omega
        go_wp2_with fail
        refine (l1Min_any (j : Int) ((rq.length : Int) - 1) _).mono ?_
        rintro e w' ⟨rfl, rfl⟩
        go_wp2_with fail
        refine (sMax_any 0 (mn (j : Int) ((rq.length : Int) - 1)) _).mono ?_
        rintro e w' ⟨rfl, rfl⟩
        obtain ⟨q1, hq1, hq1l⟩ := mxn_idx (k := (j : Int)) hrq.1
        rw [hq1]
        obtain ⟨by_, oy, y, ey, qy, hgy⟩ := hrowq.at_ hq1l
        subst ey
        clear hq1 hwl hgy
        go_wp2_with fail
        refine (l1Min_any 9 y _).mono ?_
        rintro e w' ⟨rfl, rfl⟩
        go_wp2_with fail
        refine (sMax_any 0 (mn 9 y) _).mono ?_
        rintro e w' ⟨rfl, rfl⟩
        obtain ⟨z, hz, hz9⟩ := mx9 y
        rw [hz]
        obtain ⟨N, hN⟩ : ∃ N : Nat, 1 + (z : Int) = N := ⟨z + 1, by omega⟩
        have hN1 : 1 ≤ N := by omega
        have hN10 : N ≤ 10 := by omega
        clear hz
        go_wp2_with fail
        refine (l1Below_any _ _ N _ Hcu.out hN1 (by omega)).mono ?_
        rintro e w5 ⟨d, hd, rfl, hc5, hg5⟩
        have HO5 := Lib.hid (Hown.out.away hg5 (by omega))
        have HSN5 := Lib.hid (HSN.out.grow hg5 (fun g e => by injection e with e; omega) HSW.out)
        have Hc5 := Lib.hid hc5
        have Hg5 := Lib.hid (Hgr.out.trans hg5)
        have hs54 : w4.heap.size ≤ w5.heap.size := Nat.le_trans HSW.out hg5.size
        clear hc5 hg5 hN
        go_wp2_with (at_builtin; refine wpList_push_at w5 _ rfl (.tmp 46) (.tmp 61) rfl w4.heap.size _ j pt rfl HO5.out (by omega) hs54 _ rfl rfl ?_; intro v7 w7 ho7 hg7 hn7; have HO7 := Lib.hid ho7; have HSN7 := Lib.hid (HSN5.out.grow hg7 (fun g e => .inr (HO5.out.ownlt g e).1) hs54); have Hc7 := Lib.hid (Hc5.out.grown hg7 (fun g e => by have := (HO5.out.ownlt g e).1; omega)); have Hg7 := Lib.hid (grown_farV Hg5.out hg7 (fun g e => Nat.le_trans hs5 (HO5.out.ownlt g e).1)); clear ho7 hg7 hn7)
        go_roundw
        case rel => first | exact ⟨j + 1, _, hlt, by go_num, HO7.out, HSN7.out, Hc7.out, Hg7.out⟩ | ((repeat apply Exists.intro); exact ⟨⟨j + 1, _, hlt, by go_num, HO7.out, HSN7.out, Hc7.out, Hg7.out⟩, rfl⟩)
        case measure => simp [intOf]; omega
      · have hmm := hrj
        have hwl : IntKind.i64.wrap ((rj.length : Int) - 1) = (rj.length : Int) - 1 := by rw [wrap_i64_eq]; unfold wrap64; omega
        go_wp2_with fail
        refine (l1Min_any I ((rj.length : Int) - 1) _).mono ?_
        rintro e w' ⟨rfl, rfl⟩
        go_wp2_with fail
        refine (sMax_any 0 (mn I ((rj.length : Int) - 1)) _).mono ?_
        rintro e w' ⟨rfl, rfl⟩
        obtain ⟨q1, hq1, hq1l⟩ := mxn_idx (k := I) hrj.1
        rw [hq1]
        obtain ⟨by_, oy, y, ey, qy, hgy⟩ := hrowj.at_ hq1l
        subst ey
        clear hq1 hwl hgy
        go_wp2_with fail
        refine (l1Min_any 9 y _).mono ?_
        rintro e w' ⟨rfl, rfl⟩
        go_wp2_with fail
        refine (sMax_any 0 (mn 9 y) _).mono ?_
        rintro e w' ⟨rfl, rfl⟩
        obtain ⟨z, hz, hz9⟩ := mx9 y
        rw [hz]
        obtain ⟨N, hN⟩ : ∃ N : Nat, 1 + (z : Int) = N := ⟨z + 1, by omega⟩
        have hN1 : 1 ≤ N := by omega
        have hN10 : N ≤ 10 := by omega
        clear hz
        go_wp2_with fail
        refine (l1Below_any _ _ N _ Hcu.out hN1 (by omega)).mono ?_
        rintro e w5 ⟨d, hd, rfl, hc5, hg5⟩
        have HO5 := Lib.hid (Hown.out.away hg5 (by omega))
        have HSN5 := Lib.hid (HSN.out.grow hg5 (fun g e => by injection e with e; omega) HSW.out)
        have Hc5 := Lib.hid hc5
        have Hg5 := Lib.hid (Hgr.out.trans hg5)
        have hs54 : w4.heap.size ≤ w5.heap.size := Nat.le_trans HSW.out hg5.size
        clear hc5 hg5 hN
        go_wp2_with (at_builtin; refine wpList_push_at w5 _ rfl (.tmp 46) (.tmp 61) rfl w4.heap.size _ j pt rfl HO5.out (by omega) hs54 _ rfl rfl ?_; intro v7 w7 ho7 hg7 hn7; have HO7 := Lib.hid ho7; have HSN7 := Lib.hid (HSN5.out.grow hg7 (fun g e => .inr (HO5.out.ownlt g e).1) hs54); have Hc7 := Lib.hid (Hc5.out.grown hg7 (fun g e => by have := (HO5.out.ownlt g e).1; omega)); have Hg7 := Lib.hid (grown_farV Hg5.out hg7 (fun g e => Nat.le_trans hs5 (HO5.out.ownlt g e).1)); clear ho7 hg7 hn7)
        go_roundw
        case rel => first | exact ⟨j + 1, _, hlt, by go_num, HO7.out, HSN7.out, Hc7.out, Hg7.out⟩ | ((repeat apply Exists.intro); exact ⟨⟨j + 1, _, hlt, by go_num, HO7.out, HSN7.out, Hc7.out, Hg7.out⟩, rfl⟩)
        case measure => simp [intOf]; omega
    · have hdj : decide ((j : Int) < (T.length : Int)) = false := decide_eq_false (by omega)
      have hjn : j = T.length := by omega
      have hdj2 : decide (j < T.length) = false := decide_eq_false hlt
      have HJ := Lib.hid hjn
      clear hjn
      go_wp2_with fail
      refine (l1Once_any _ _ 12 _ Hcu.out (by omega) (by omega)).mono ?_
      rintro e w6 ⟨t2, rfl, hc6, hg6⟩
      have Ho6 := Lib.hid (Hown.out.away hg6 (by omega))
      have HSN6 := Lib.hid (HSN.out.grow hg6 (fun g e => by injection e with e; omega) HSW.out)
      have Hg6 := Lib.hid (Hgr.out.trans hg6)
      have hs64 : w4.heap.size ≤ w6.heap.size := Nat.le_trans HSW.out hg6.size
      clear hc6 hg6
      cases t2
      · have HB6 : Hid (Below w.heap.size w w6) := by
          show Below w.heap.size w w6
          rw [hB]
          exact Hb1.out.trans (below_of_grown Hg6.out (Nat.le_refl B) (by omega))
        have Hot6 := Lib.hid (Ho4.out.since HSN6.out)
        go_wp2_with fail
        go_ret3
        refine ⟨_, _, T, I, pt, rfl, Hot6.out.mono (by omega), ?_, ⟨HT.out, by rw [Ho6.out.len]; omega⟩, HB6.out⟩
        rw [Ho6.out.len]
        exact Ho6.out.mono (by omega)
      · go_wp2_with (at_builtin; refine wpList_push_at w6 _ rfl (.tmp 65) (.tmp 66) rfl w4.heap.size _ j pt rfl Ho6.out (by omega) hs64 _ rfl rfl ?_; intro v7 w7 ho7 hg7 hn7; obtain ⟨ao7, cap7, rfl, _⟩ := ho7.form; have HO7 := Lib.hid ho7; have HG7 := Lib.hid (grown_farV Hg6.out hg7 (fun g e => Nat.le_trans hs5 (Ho6.out.ownlt g e).1)); have HSN7 := Lib.hid (HSN6.out.grow hg7 (fun g e => .inr (Ho6.out.ownlt g e).1) hs64); clear ho7 hg7 hn7)
        have HB7 : Hid (Below w.heap.size w w7) := by
          show Below w.heap.size w w7
          rw [hB]
          exact Hb1.out.trans (below_of_grown HG7.out (Nat.le_refl B) (by omega))
        have Hot7 := Lib.hid (Ho4.out.since HSN7.out)
        go_ret3
        refine ⟨_, _, T, I, pt ++ [0], rfl, Hot7.out.mono (by omega), ?_, ⟨HT.out, by rw [HO7.out.len]; omega⟩, HB7.out⟩
        rw [HO7.out.len]
        exact HO7.out.mono (by omega)
end Go.Proofs.Ytblkgkgopneleaa

namespace Go.Proofs.Ytblkgkgopneleaa
open Go.RowKit
set_option linter.all false
set_option maxHeartbeats 1600000 in
theorem drawSplitOut_any (ao : Option Addr) (n c : Nat) (w : World) (h : Bytes w ao n) :
    Calls Try.prog 27 #[.slice ao n c] w fun e w' => ∃ (v u : Value) (T : List (List Int)) (i : Int) (pt : List Int), e = .returned (.tuple #[v, .int .i64 i, u]) ∧ OIntss w' w.heap.size v T.length T ∧ OInts w' w.heap.size u pt.length pt ∧ (Bent T ∧ pt.length ≤ 6) ∧ Below w.heap.size w w' := by
  have H := Lib.hid h
  clear h
  go_enter Try.func27, Try.ntmps27
  go_wp2_with fail
  refine (l17Case_any _ _ _ _ _ H.out).mono ?_
  rintro e w1 ⟨v, u, T, i, pt, rfl, ho, hu, hT, hb⟩
  go_wp2_with fail
  go_ret3
  exact ⟨_, _, T, i, pt, rfl, ho, hu, hT, hb⟩
set_option maxHeartbeats 1600000 in
theorem drawSplitIn_any (ao : Option Addr) (n c : Nat) (w : World) (h : Bytes w ao n) :
    Calls Try.prog 30 #[.slice ao n c] w fun e w' => ∃ (v u : Value) (T : List (List Int)) (i : Int) (pt : List Int), e = .returned (.tuple #[v, .int .i64 i, u]) ∧ OIntss w' w.heap.size v T.length T ∧ OInts w' w.heap.size u pt.length pt ∧ (Bent T ∧ pt.length ≤ 6) ∧ Below w.heap.size w w' := by
  have H := Lib.hid h
  clear h
  go_enter Try.func30, Try.ntmps30
  go_wp2_with fail
  refine (l17Case_any _ _ _ _ _ H.out).mono ?_
  rintro e w1 ⟨v, u, T, i, pt, rfl, ho, hu, hT, hb⟩
  go_wp2_with fail
  go_ret3
  exact ⟨_, _, T, i, pt, rfl, ho, hu, hT, hb⟩
theorem OInts.readO {w : World} {lo n c : Nat} {ao : Option Addr} {xs : List Int} (h : OInts w lo (.slice ao n c) n xs) : Ints w ao n xs := by
  obtain ⟨ao', cap', e, hi⟩ := h.form
  injection e with e1
  subst e1
  exact hi
def twoP (w : World) (e : Ending) (w' : World) : Prop := ∃ a1 n1 c1 a2 n2 c2, ∃ (A B : List (List Int)), e = .returned (.tuple #[.slice a1 n1 c1, .slice a2 n2 c2]) ∧ Intss w' a1 n1 A ∧ Intss w' a2 n2 B ∧ Below w.heap.size w w'
set_option maxRecDepth 20000 in
set_option maxHeartbeats 1600000 in
theorem drawTT_any (ao : Option Addr) (n c : Nat) (w : World) (h : Bytes w ao n) :
    Calls Try.prog 35 #[.slice ao n c] w (twoP w) := by
  have H := Lib.hid h
  clear h
  go_enter Try.func35, Try.ntmps35
  go_wp2_with fail
  refine (l17Case_any _ _ _ _ _ H.out).mono ?_
  rintro e w1 ⟨v, u, T, i, pt, rfl, ho, hu, hT, hb⟩
  obtain ⟨a1, c1, rfl, hi⟩ := ho.form
  obtain ⟨a2, c2, rfl, hi2⟩ := hu.form
  have HI := Lib.hid hi
  have HI2 := Lib.hid hi2
  have HCP : pt.length ≤ c2 := hu.capLe rfl
  have HB := Lib.hid hb
  have hpl := hT.2
  clear ho hu hT hb hi hi2
  go_wp2_with fail
  refine (sSplitPair_any _ _ _ T i _ _ _ pt _ HI.out HI2.out).mono ?_
  rintro e w2 ⟨v3, u3, rfl, ho3, hu3, hb3⟩
  obtain ⟨a3, c3, rfl, hi3⟩ := ho3.form
  obtain ⟨a4, c4, rfl, hi4⟩ := hu3.form
  have HI3 := Lib.hid hi3
  have HI4 := Lib.hid hi4
  have HB3 := Lib.hid (step2 HB.out hb3)
  have HI5 := Lib.hid (HI.out.keep hb3)
  have HI6 := Lib.hid (HI2.out.keep hb3)
  clear ho3 hu3 hi3 hi4 hb3
  cases hs : splOk T i pt
  · have HL : Hid (Intss (w2.alloc (.cells #[.slice a2 pt.length c2] 42)) (some ⟨w2.heap.size, 0, none⟩) 1 [pt]) := by
      refine ⟨rfl, by omega, fun k r hk => ?_⟩
      match k, hk with
      | 0, hk =>
        simp at hk
        subst hk
        exact ⟨w2.heap.size, 0, a2, c2, rfl, World.cell?_alloc_new _ _ _ _, HI6.out.keep ((Below.refl _ _).alloc (Nat.le_refl _) _), HCP⟩
    have HB4 := Lib.hid (step2 HB3.out ((Below.refl w2.heap.size w2).alloc (Nat.le_refl _) (.cells #[.slice a2 pt.length c2] 42)))
    have HI7 := Lib.hid (HI5.out.keep ((Below.refl w2.heap.size w2).alloc (Nat.le_refl _) (.cells #[.slice a2 pt.length c2] 42)))
    go_wp2_with fail
    go_ret2
    exact ⟨_, _, _, _, _, _, _, _, rfl, HI7.out, HL.out, HB4.out⟩
  · go_wp2_with fail
    go_ret2
    exact ⟨_, _, _, _, _, _, _, _, rfl, HI3.out, HI4.out, HB3.out⟩
def rowP (w : World) (e : Ending) (w' : World) : Prop := ∃ a1 n1 c1, ∃ (r : List Int), e = .returned (.slice a1 n1 c1) ∧ Ints w' a1 n1 r ∧ 1 ≤ n1 ∧ Below w.heap.size w w'
set_option maxRecDepth 20000 in
set_option maxHeartbeats 1600000 in
theorem drawParts_any (ao : Option Addr) (n c : Nat) (w : World) (h : Bytes w ao n) :
    Calls Try.prog 38 #[.slice ao n c] w (rowP w) := by
  have H := Lib.hid h
  clear h
  go_enter Try.func38, Try.ntmps38
  go_wp2_with fail
  refine (l1New_any _ _ _ _ H.out).mono ?_
  rintro e w1 ⟨rfl, hc1, hb1⟩
  have hbl := hc1.lt.2
  have Hc1 := Lib.hid hc1
  have Hb1 := Lib.hid hb1
  clear hc1 hb1
  go_wp2_with fail
  refine (l4Bent_any _ _ _ Hc1.out).mono ?_
  rintro e w2 ⟨v, T, rfl, ho, hT, hc2, hg2⟩
  obtain ⟨g, cap, rfl⟩ := ho.head (by have := hT.1; omega)
  have HT := Lib.hid hT
  have hT1 := hT.1
  have hT5 := hT.2.1
  have Ho2 := Lib.hid ho
  have Hc2 := Lib.hid hc2
  have Hg2 := Lib.hid hg2
  clear ho hT hc2 hg2
  go_wp2_with fail
  refine (l1Below_any _ _ T.length _ Hc2.out hT1 (by omega)).mono ?_
  rintro e w3 ⟨x, hx, rfl, hc3, hg3⟩
  have Ho3 := Lib.hid (Ho2.out.away hg3 hbl)
  have HB3 : Hid (Below w.heap.size w w3) := Hb1.out.trans (below_of_grown (Hg2.out.trans hg3) (Nat.le_refl _) Hb1.out.size)
  clear hc3 hg3
  obtain ⟨b1, o1, a1, c1, r, e1, q1, hrow, hget⟩ := Ho3.out.readI.at_ hx
  injection e1 with e1
  injection e1 with e2 e3
  subst e2
  subst e3
  simp only [Nat.zero_add] at q1
  have hr1 := (HT.out.2.2 r (List.mem_of_getElem? hget.out)).1
  have HR := Lib.hid hrow
  clear hrow hget
  go_wp2_with fail
  go_ret
  exact ⟨_, _, _, r, rfl, HR.out, hr1, HB3.out⟩
end Go.Proofs.Ytblkgkgopneleaa
