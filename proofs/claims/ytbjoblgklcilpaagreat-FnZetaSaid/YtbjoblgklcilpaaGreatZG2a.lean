/- Parts of the proof of a law, joined: D4b D21 NewtD NewtE NewtG ZetaN ZetaF SZetaN IZetaN. -/
import Derived.Deep.RegionLaw
import Derived.Test.YtbjoblgklcilpaaGreatProg
import Derived.BigQuiet
import Derived.Test.YtbjoblgklcilpaaGreatZD4
import Derived.Test.YtbjoblgklcilpaaGreatZG0a
import Derived.Test.YtbjoblgklcilpaaGreatZD3c
import Derived.Test.YtbjoblgklcilpaaGreatZNewtB
import Derived.Test.YtbjoblgklcilpaaGreatZG1a
import Derived.Test.YtbjoblgklcilpaaGreatZThA
import Derived.Test.YtbjoblgklcilpaaGreatZG1b
namespace Go.Proofs.YtbjoblgklcilpaaGreat
open Go.RowKit
set_option linter.all false
theorem bent_set {T : List (List Int)} {i j : Nat} {x : Int} (h : Bent T) (hi : i < T.length) : Bent (T.set i (T[i].set j x)) := by
  refine ⟨by rw [List.length_set]; exact h.1, by rw [List.length_set]; exact h.2.1, fun r hr => ?_⟩
  rcases List.mem_or_eq_of_mem_set hr with hr | rfl
  · exact h.2.2 r hr
  · rw [List.length_set]; exact h.2.2 _ (List.getElem_mem _)
theorem grown_far {w W w' : World} {b g : Nat} (h : w.grownBy W (some b)) (k : W.grownBy w' (some g)) (hg : w.heap.size ≤ g) : w.grownBy w' (some b) := by
  refine ⟨k.os.trans h.os, ?_, k.output.trans h.output, Nat.le_trans h.size k.size, fun i hi hne => (k.block i (Nat.lt_of_lt_of_le hi h.size) (by intro e; injection e; omega)).trans (h.block i hi hne)⟩
  first | exact k.tape.trans h.tape | exact Nat.le_trans h.tape k.tape | exact h.tape.trans k.tape
theorem bent_push {T : List (List Int)} (h : Bent T) (h4 : T.length ≤ 4) : Bent (T ++ [[1]]) := by
  refine ⟨by simp, by simp; omega, fun r hr => ?_⟩
  rcases List.mem_append.1 hr with hr | hr
  · exact h.2.2 r hr
  · simp at hr; subst hr; simp
set_option maxRecDepth 20000 in
set_option maxHeartbeats 6400000 in
theorem l4Bent_any (b lo : Nat) (w : World) (h : Cur w b lo) :
    Calls Tryz.prog 54 #[.pointer (some ⟨b, 0, none⟩)] w fun e w' => ∃ v T, e = .returned v ∧ OIntss w' w.heap.size v T.length T ∧ Bent T ∧ Cur w' b lo ∧ w.grownBy w' (some b) := by
  have hbl := h.lt.2
  have H := Lib.hid h
  clear h
  go_enter Tryz.func54, Tryz.ntmps54
  go_wp2_with (go_at_call 79; refine (l4Draw_any b lo 4 _ H.out (by omega) (by omega)).mono ?_; rintro e w1 ⟨v1, T, rfl, ho1, hT, hc1, hg1⟩; obtain ⟨g, cap, rfl⟩ := ho1.head (by have := hT.1.1; omega); have Ho1 := Lib.hid ho1; have HT := Lib.hid hT.1; have hT4 := hT.2; have Hc1 := Lib.hid hc1; have Hg1 := Lib.hid hg1; clear ho1 hc1 hg1 hT)
  refine (l1Below_any b lo 16 _ Hc1.out (by omega) (by omega)).mono ?_
  rintro e w2 ⟨x, hx, rfl, hc2, hg2⟩
  have Hc2 := Lib.hid hc2
  have Hg2 := Lib.hid (Hg1.out.trans hg2)
  have Ho2 := Lib.hid (Ho1.out.away hg2 hbl)
  have hs2 := Hg2.out.size
  clear hc2 hg2
  have hT1 := HT.out.1
  by_cases hx0 : x = 0
  · subst hx0
    have hti : 0 < T.length := by omega
    obtain ⟨nr, hnr⟩ : ∃ nr, T[0].length = nr := ⟨_, rfl⟩
    have hri := hnr
    have hnr1 : 0 < nr := by have := (HT.out.2.2 T[0] (List.getElem_mem _)).1; omega
    obtain ⟨gk, ck, h5, ho, hne, hlo⟩ := Ho2.out.rowAt (List.getElem?_eq_getElem hti) (by omega)
    rw [hri] at h5
    have h6 := ho.cell 0 (by omega)
    have h7 := ho.frozen 0
    have hgn : g < w2.heap.size := Ho2.out.lt.2
    have hgne : some g ≠ some b := by have := Ho2.out.lt.1; intro e; injection e; omega
    have hgk : gk < w2.heap.size := ho.lt.2
    have HO := Lib.hid ho
    have hset := fun (W : World) (hw : OIntss W w.heap.size (.slice (some ⟨g, 0, none⟩) T.length cap) T.length T) (hc : W.cell? ⟨g, 0, none⟩ = some (.slice (some ⟨gk, 0, none⟩) T[0].length ck)) (ho : OInts W w.heap.size (.slice (some ⟨gk, 0, none⟩) T[0].length ck) T[0].length T[0]) (x : Int) => hw.setIn (List.getElem?_eq_getElem hti) hc ho 0 x
    rw [hri] at hset
    have HSet := Lib.hid hset
    have HB4 := Lib.hid (((Below.refl w2.heap.size w2).alloc (Nat.le_refl _) (.cells #[.int .i64 (-1), .int .i64 1000000, .int .i64 1000001, .int .i64 9] 3)).drew)
    have Hri := Lib.hid hri
    have HLit : Hid (OInts (w2.alloc (.cells #[.int .i64 (-1), .int .i64 1000000, .int .i64 1000001, .int .i64 9] 3)).drew w2.heap.size (.slice (some ⟨w2.heap.size, 0, none⟩) 4 4) 4 [-1, 1000000, 1000001, 9]) := (OInts.lit_ (w := w2) (arr := #[.int .i64 (-1), .int .i64 1000000, .int .i64 1000001, .int .i64 9]) (n := 4) (xs := [-1, 1000000, 1000001, 9]) (Nat.le_refl _) rfl rfl (by omega)).drewN 1
    have HRS := Lib.hid (fun x => bent_set (j := 0) (x := x) HT.out hti)
    clear hset ho h7 hri hnr
    go_wp2_with fail
    go_region_law (first
      | (go_simp; go_at_call 30; refine (l1PickInt_any b lo w2.heap.size 4 4 _ [-1, 1000000, 1000001, 9] _ (Hc2.out.keep HB4.out) HLit.out Hc2.out.lt.2 (by omega) (by omega)).mono ?_; rintro e w5 ⟨d0, hd0, rfl, hc5, hg5⟩; have Hc5 := Lib.hid hc5; have Hg5 := Lib.hid (Hg2.out.trans ((grown_of_below HB4.out).trans hg5)); have Ho5 := Lib.hid ((Ho2.out.keep HB4.out).away hg5 hbl); have HOk := Lib.hid ((HO.out.keep HB4.out).away hg5 hbl); have q5 := hg5.cell ((HB4.out.cell (p := ⟨g, 0, none⟩) hgn).trans h5) hgne; have q6 := HOk.out.cell 0 (by rw [Hri.out]; exact hnr1); have q7 := HOk.out.frozen 0; clear hc5 hg5 hd0))
    all_goals
      have Ht := Lib.hid (HSet.out _ Ho5.out q5 (by have h9 := HOk.out; rw [Hri.out] at h9; exact h9) d0)
      have HRT := Lib.hid (HRS.out d0)
      have HUL : Hid ((T.set 0 (T[0].set 0 d0)).length = T.length) := by show _ = _; rw [List.length_set]
      have Hc6 := Lib.hid (Hc5.out.grown (only_setCell (World.grownBy.refl w5 (some gk)) rfl (p := ⟨gk, 0, none⟩) (.int .i64 d0)) (fun g e => by injection e; omega))
      have Hg6 := Lib.hid (grown_new Hg5.out (p := ⟨gk, 0, none⟩) (by show _ ≤ gk; omega) (.int .i64 d0))
      generalize w5.setCell ⟨gk, 0, none⟩ (.int .i64 d0) = w6 at Ht Hc6 Hg6 ⊢
      generalize T.set 0 (T[0].set 0 d0) = U at Ht HRT HUL
      clear q5 q6 q7 Ho5 HOk Hc5 Hg5 HSet h5 h6 HRS
      go_wp2_with fail
      go_ret
      exact ⟨_, U, rfl, by rw [HUL.out]; exact Ht.out, HRT.out, Hc6.out, Hg6.out⟩
  have d0 : ((x : Int) == 0) = false := beq_eq_false_iff_ne.2 (by omega)
  by_cases hx1 : x = 1
  · subst hx1
    have HR := Lib.hid (OInts.lit_ (w := w2) (lo := w2.heap.size) (arr := #[.int .i64 1]) (n := 1) (xs := [1]) (Nat.le_refl _) rfl rfl (by omega))
    have HB3 := Lib.hid ((Below.refl w2.heap.size w2).alloc (Nat.le_refl _) (.cells #[.int .i64 1] 3))
    have HRT := Lib.hid (bent_push HT.out hT4)
    go_wp2_with (at_builtin; refine wpList_push_rowC _ _ w2 rfl (.tmp 19) (.tmp 21) rfl w.heap.size _ T.length T rfl Ho2.out (by omega) hs2 HB3.out 1 [1] HR.out _ ?_ rfl ?_; (first | rfl | simp); intro v6 w6 ho6 hg6 hn6; have hg7 : (w2.alloc (.cells #[.int .i64 1] 3)).grownBy w6 (some g) := hg6; have HO6 := Lib.hid ho6; have HG6 := Lib.hid (grown_far (Hg2.out.trans (grown_of_below HB3.out)) hg7 Ho2.out.lt.1); have HC6 := Lib.hid ((Hc2.out.keep HB3.out).grown hg7 (fun q e => (by have h1 := Ho2.out.lt.1; injection e; omega))); clear hg7; clear ho6 hg6 hn6)
    go_ret
    exact ⟨_, T ++ [[1]], rfl, by simpa using HO6.out, HRT.out, HC6.out, HG6.out⟩
  · have d1 : ((x : Int) == 1) = false := beq_eq_false_iff_ne.2 (by omega)
    go_wp2_with fail
    go_ret
    exact ⟨_, T, rfl, Ho2.out, HT.out, Hc2.out, Hg2.out⟩
end Go.Proofs.YtbjoblgklcilpaaGreat

namespace Go.Proofs.YtbjoblgklcilpaaGreat
open Go.RowKit
set_option linter.all false
/- What the law of zeta numbers draws. -/
set_option maxRecDepth 20000 in
set_option maxHeartbeats 3200000 in
theorem l21Case_any (ao : Option Addr) (n c : Nat) (w : World) (h : Bytes w ao n) :
    Calls Tryz.prog 26 #[.slice ao n c] w fun e w' => ∃ (v : Value) (T : List (List Int)) (a : Int), e = .returned (.tuple #[v, .int .i64 a]) ∧ OIntss w' w.heap.size v T.length T ∧ (a ≤ 6 ∨ 25 ≤ a) ∧ Below w.heap.size w w' := by
  have H := Lib.hid h
  clear h
  go_enter Tryz.func26, Tryz.ntmps26
  go_wp2_with (first
    | (go_at_call 30; refine (l1PickInt_any _ _ w3.heap.size 6 6 _ [0, 0, 0, 0, 25, -7] _ (Hc3.out.keep ((Below.refl _ _).alloc (Nat.le_refl _) _)) (OInts.lit_ (Nat.le_refl _) rfl rfl (by omega)) hbl3 (by omega) (by omega)).mono ?_; rintro e w4 ⟨p, hp, rfl, hc4, hg4'⟩; have hg4 := (gr_alloc (World.grownBy.refl w3 (some w.heap.size)) _).trans hg4'; clear hg4'; have hbl4 := hc4.lt.2; have Hc4 := Lib.hid hc4; have Hg4 := Lib.hid (Hg3.out.trans hg4); have HoX_4 := Lib.hid (HoX_3.out.away hg4 hbl1); clear hc4 hg4)
    | (go_at_call 31; refine (l1Below_any _ _ 7 _ Hc2.out (by omega) (by omega)).mono ?_; rintro e w3 ⟨x, hx, rfl, hc3, hg3⟩; have hbl3 := hc3.lt.2; have Hc3 := Lib.hid hc3; have Hg3 := Lib.hid (Hg2.out.trans hg3); have HoX_3 := Lib.hid (HoX_2.out.away hg3 hbl1); clear hc3 hg3)
    | (go_at_call 54; refine (l4Bent_any _ _ _ Hc1.out).mono ?_; rintro e w2 ⟨vX, TX, rfl, hoX, hBX, hc2, hg2⟩; obtain ⟨gX, capX, rfl⟩ := hoX.head (by have := hBX.1; omega); have HBX := Lib.hid hBX; have hbl2 := hc2.lt.2; have Hc2 := Lib.hid hc2; have Hg2 := Lib.hid (Hg1.out.trans hg2); have HoX_2 := Lib.hid hoX; clear hoX hBX hc2 hg2)
    | (go_at_call 29; refine (l1New_any _ _ _ _ H.out).mono ?_; rintro e w1 ⟨rfl, hc1, hb1⟩; have hbl1 := hc1.lt.2; have Hc1 := Lib.hid hc1; have Hb1 := Lib.hid hb1; have Hg1 : Hid (w1.grownBy w1 (some w.heap.size)) := World.grownBy.refl _ _; clear hc1 hb1))
  have HBL := Lib.hid (Hb1.out.trans (below_of_grown Hg4.out (Nat.le_refl _) Hb1.out.size))
  have HS1 := Hb1.out.size
  have hpp : p = 0 ∨ p = 25 ∨ p = -7 := by simpa using hp
  go_ret2
  exact ⟨_, _, _, rfl, HoX_4.out.mono HS1, by (rcases hpp with rfl | rfl | rfl <;> first | omega | (unfold wrap64; omega)), HBL.out⟩
set_option maxHeartbeats 800000 in
theorem drawZeta_any (ao : Option Addr) (n c : Nat) (w : World) (h : Bytes w ao n) :
    Calls Tryz.prog 5 #[.slice ao n c] w fun e w' => ∃ (v : Value) (T : List (List Int)) (a : Int), e = .returned (.tuple #[v, .int .i64 a]) ∧ OIntss w' w.heap.size v T.length T ∧ (a ≤ 6 ∨ 25 ≤ a) ∧ Below w.heap.size w w' := by
  have H := Lib.hid h
  clear h
  go_enter Tryz.func5, Tryz.ntmps5
  go_wp2_with fail
  refine (l21Case_any _ _ _ _ H.out).mono ?_
  rintro e w1 ⟨v, T, a, rfl, ho, ha, hb⟩
  have HO := Lib.hid ho
  have HB := Lib.hid hb
  clear ho hb
  go_wp2_with fail
  go_ret2
  exact ⟨_, _, _, rfl, HO.out, ha, HB.out⟩
set_option maxHeartbeats 800000 in
theorem drawClosed_any (ao : Option Addr) (n c : Nat) (w : World) (h : Bytes w ao n) :
    Calls Tryz.prog 7 #[.slice ao n c] w fun e w' => ∃ (v : Value) (T : List (List Int)) (a : Int), e = .returned (.tuple #[v, .int .i64 a]) ∧ OIntss w' w.heap.size v T.length T ∧ (a ≤ 6 ∨ 25 ≤ a) ∧ Below w.heap.size w w' := by
  have H := Lib.hid h
  clear h
  go_enter Tryz.func7, Tryz.ntmps7
  go_wp2_with fail
  refine (l21Case_any _ _ _ _ H.out).mono ?_
  rintro e w1 ⟨v, T, a, rfl, ho, ha, hb⟩
  have HO := Lib.hid ho
  have HB := Lib.hid hb
  clear ho hb
  go_wp2_with fail
  go_ret2
  exact ⟨_, _, _, rfl, HO.out, ha, HB.out⟩
set_option maxHeartbeats 800000 in
theorem drawLp_any (ao : Option Addr) (n c : Nat) (w : World) (h : Bytes w ao n) :
    Calls Tryz.prog 8 #[.slice ao n c] w fun e w' => ∃ (v : Value) (T : List (List Int)) (a : Int), e = .returned (.tuple #[v, .int .i64 a]) ∧ OIntss w' w.heap.size v T.length T ∧ (a ≤ 6 ∨ 25 ≤ a) ∧ Below w.heap.size w w' := by
  have H := Lib.hid h
  clear h
  go_enter Tryz.func8, Tryz.ntmps8
  go_wp2_with fail
  refine (l21Case_any _ _ _ _ H.out).mono ?_
  rintro e w1 ⟨v, T, a, rfl, ho, ha, hb⟩
  have HO := Lib.hid ho
  have HB := Lib.hid hb
  clear ho hb
  go_wp2_with fail
  go_ret2
  exact ⟨_, _, _, rfl, HO.out, ha, HB.out⟩
set_option maxHeartbeats 800000 in
theorem drawCntO_any (ao : Option Addr) (n c : Nat) (w : World) (h : Bytes w ao n) :
    Calls Tryz.prog 9 #[.slice ao n c] w fun e w' => ∃ (v : Value) (T : List (List Int)) (a : Int), e = .returned (.tuple #[v, .int .i64 a]) ∧ OIntss w' w.heap.size v T.length T ∧ (a ≤ 6 ∨ 25 ≤ a) ∧ Below w.heap.size w w' := by
  have H := Lib.hid h
  clear h
  go_enter Tryz.func9, Tryz.ntmps9
  go_wp2_with fail
  refine (l21Case_any _ _ _ _ H.out).mono ?_
  rintro e w1 ⟨v, T, a, rfl, ho, ha, hb⟩
  have HO := Lib.hid ho
  have HB := Lib.hid hb
  clear ho hb
  go_wp2_with fail
  go_ret2
  exact ⟨_, _, _, rfl, HO.out, ha, HB.out⟩
set_option maxHeartbeats 1600000 in
theorem l1Below_big (b lo n : Nat) (w : World) (h : Cur w b lo) (hn : 256 < n) (hm : n ≤ 65536) :
    Calls Tryz.prog 31 #[.pointer (some ⟨b, 0, none⟩), .int .i64 n] w fun e w' => ∃ x : Int, e = .returned (.int .i64 x) ∧ Cur w' b lo ∧ w.grownBy w' (some b) := by
  have H := Lib.hid h
  clear h
  have hd1 : decide ((n : Int) ≤ 0) = false := by simp; omega
  have hd2 : decide ((n : Int) ≤ 256) = false := by simp; omega
  have hd3 : ((n : Int) == 0) = false := by simp; omega
  go_enter Tryz.func31, Tryz.ntmps31
  go_wp2_with (first
    | (go_at_call 58; refine (l1Byte_any b lo _ Hc3.out).mono ?_; rintro e w4 ⟨x4, hx4, rfl, hc4, hg4⟩; have Hc4 := Lib.hid hc4; have Hg4 := Lib.hid (Hg3.out.trans hg4); clear hc4 hg4)
    | (go_at_call 58; refine (l1Byte_any b lo _ Hc2.out).mono ?_; rintro e w3 ⟨x3, hx3, rfl, hc3, hg3⟩; have Hc3 := Lib.hid hc3; have Hg3 := Lib.hid (Hg2.out.trans hg3); clear hc3 hg3)
    | (go_at_call 58; refine (l1Byte_any b lo _ Hc1.out).mono ?_; rintro e w2 ⟨x2, hx2, rfl, hc2, hg2⟩; have Hc2 := Lib.hid hc2; have Hg2 := Lib.hid (Hg1.out.trans hg2); clear hc2 hg2)
    | (go_at_call 58; refine (l1Byte_any b lo _ H.out).mono ?_; rintro e w1 ⟨x1, hx1, rfl, hc1, hg1⟩; have Hc1 := Lib.hid hc1; have Hg1 := Lib.hid hg1; clear hc1 hg1))
  go_ret
  exact ⟨_, rfl, Hc4.out, Hg4.out⟩
set_option maxRecDepth 20000 in
set_option maxHeartbeats 3200000 in
theorem drawMoeb_any (ao : Option Addr) (n c : Nat) (w : World) (h : Bytes w ao n) :
    Calls Tryz.prog 10 #[.slice ao n c] w fun e w' => ∃ a : Int, e = .returned (.int .i64 a) ∧ Below w.heap.size w w' := by
  have H := Lib.hid h
  clear h
  go_enter Tryz.func10, Tryz.ntmps10
  go_wp2_with (first
    | (go_at_call 30; refine (l1PickInt_any _ _ w3.heap.size 8 8 _ [(x : Int), y, 0, -1, 1000, 1001, 30, 1] _ (Hc3.out.keep ((Below.refl _ _).alloc (Nat.le_refl _) _)) (OInts.lit_ (Nat.le_refl _) rfl rfl (by omega)) hbl3 (by omega) (by omega)).mono ?_; rintro e w5 ⟨p, hp, rfl, hc5, hg5'⟩; have hg5 := (gr_alloc (World.grownBy.refl w3 (some w.heap.size)) _).trans hg5'; clear hg5'; have Hg5 := Lib.hid (Hg3.out.trans hg5); clear hc5 hg5)
    | (go_at_call 31; refine (l1Below_big _ _ 1002 _ Hc2.out (by omega) (by omega)).mono ?_; rintro e w3 ⟨y, rfl, hc3, hg3⟩; have hbl3 := hc3.lt.2; have Hc3 := Lib.hid hc3; have Hg3 := Lib.hid (Hg2.out.trans hg3); clear hc3 hg3)
    | (go_at_call 31; refine (l1Below_any _ _ 40 _ Hc1.out (by omega) (by omega)).mono ?_; rintro e w2 ⟨x, hx, rfl, hc2, hg2⟩; have hbl2 := hc2.lt.2; have Hc2 := Lib.hid hc2; have Hg2 := Lib.hid (Hg1.out.trans hg2); clear hc2 hg2)
    | (go_at_call 29; refine (l1New_any _ _ _ _ H.out).mono ?_; rintro e w1 ⟨rfl, hc1, hb1⟩; have hbl1 := hc1.lt.2; have Hc1 := Lib.hid hc1; have Hb1 := Lib.hid hb1; have Hg1 : Hid (w1.grownBy w1 (some w.heap.size)) := World.grownBy.refl _ _; clear hc1 hb1))
  have HBL := Lib.hid (Hb1.out.trans (below_of_grown Hg5.out (Nat.le_refl _) Hb1.out.size))
  go_ret
  exact ⟨_, rfl, HBL.out⟩
set_option maxRecDepth 20000 in
set_option maxHeartbeats 3200000 in
theorem drawOrbW_any (ao : Option Addr) (n c : Nat) (w : World) (h : Bytes w ao n) :
    Calls Tryz.prog 11 #[.slice ao n c] w fun e w' => ∃ (K : Int) (v : Value) (F : List ByteArray) (a : Nat), e = .returned (.tuple #[.agg #[.int .i64 K, v], .int .i64 a]) ∧ OStrs w' w.heap.size v F.length F ∧ (∀ f ∈ F, f.size ≤ 4) ∧ a < 7 ∧ Below w.heap.size w w' := by
  have hne : ∀ W : World, w.heap.size < W.heap.size → some w.heap.size ≠ some W.heap.size := fun W h e => by injection e; omega
  have HZ0 := Lib.hid (Blk.new w 32 #[.int .i64 0, .slice none 0 0])
  have HB0 := Lib.hid (belowA w (.cells #[.int .i64 0, .slice none 0 0] 32))
  have H := Lib.hid (h.keep HB0.out)
  have HNE := Lib.hid hne
  clear h hne
  go_enter Tryz.func11, Tryz.ntmps11
  go_wp2_with fail
  generalize w.alloc (.cells #[.int .i64 0, .slice none 0 0] 32) = w0 at HZ0 HB0 H ⊢
  refine (l1New_any _ _ _ _ H.out).mono ?_
  rintro e w1 ⟨rfl, hc1, hb1⟩
  have hz0 : w.heap.size < w0.heap.size := HZ0.out.lt
  have HNE0 := Lib.hid (HNE.out w0 hz0)
  have Hc1 := Lib.hid hc1
  have HB1 := Lib.hid (HB0.out.trans (hb1.mono (Nat.le_of_lt hz0)))
  have HZ1 := Lib.hid (HZ0.out.keep hb1)
  have hbl1 := hc1.lt.2
  clear hc1 hb1
  go_wp2_with fail
  refine (l3Bent_any _ _ _ Hc1.out).mono ?_
  rintro e w2 ⟨K, v, F, rfl, ho, hF, hc2, hg2⟩
  obtain ⟨av, cv, rfl, _⟩ := ho.form
  have Hc2 := Lib.hid hc2
  have HG2 := Lib.hid hg2
  have HZ2 := Lib.hid (HZ1.out.grown hg2 HNE0.out)
  have HO2 := Lib.hid ho
  have HF := Lib.hid hF
  have hs2 := hg2.size
  clear ho hF hc2 hg2
  go_wp2_with fail
  refine (l1Below_any _ _ 7 _ Hc2.out (by omega) (by omega)).mono ?_
  rintro e w3 ⟨a, ha, rfl, hc3, hg3⟩
  have HG3 := Lib.hid (HG2.out.trans hg3)
  have HZ3 := Lib.hid (HZ2.out.grown hg3 HNE0.out)
  have HO3 := Lib.hid (HO2.out.away hg3 hbl1)
  have hw1 : w.heap.size < w1.heap.size := HZ1.out.lt
  have HNR := Lib.hid (strs_ne HO3.out hw1)
  have HB3 := Lib.hid (HB1.out.trans (below_of_grown HG3.out (Nat.le_of_lt hz0) HB1.out.size))
  have z0 := HZ3.out.cell 0
  have z1 := HZ3.out.cell 1
  change _ = some _ at z0
  change _ = some _ at z1
  have f0 := HZ3.out.frozen 0
  have f1 := HZ3.out.frozen 1
  clear hc3 hg3
  go_wp2_with fail
  refine bodyPost_ret (v := .tuple #[.agg #[.int .i64 K, .slice av F.length cv], .int .i64 a]) (by simp [results, Tryz.results11, go_sem, *]) rfl ?_
  exact ⟨K, _, F, a, rfl, ((HO3.out.mono (Nat.le_of_lt hw1)).setFar' HNR.out _).setFar' HNR.out _, HF.out, ha, below_sh2 HB3.out (Nat.le_refl _) _ _⟩
end Go.Proofs.YtbjoblgklcilpaaGreat

namespace Go.Proofs.YtbjoblgklcilpaaGreat
open Go.RowKit
set_option linter.all false
theorem tr_ch {n k : Nat} {A : Nat → Nat → Int} {b : Nat → Int} (h : ∀ j l, j < n → l < n → Sm (k + 1) (fun i => b i * TT n j A i l) = 0) (r : Nat) : Sm (k + 1) (fun t => b t * tr n A (r + t)) = 0 := by
  have e1 : Sm (k + 1) (fun t => b t * tr n A (r + t)) = Sm (k + 1) (fun t => Sm n (fun i => Sm n (fun j => TT n i A r j * (b t * TT n j A t i)))) := Sm_congr _ _ _ fun t _ => by
    unfold tr
    rw [← Sm_mul]
    refine Sm_congr _ _ _ fun i hi => ?_
    rw [TT_plus n A i r t i hi, ← Sm_mul]
    refine Sm_congr _ _ _ fun j _ => ?_
    rw [Int.mul_left_comm]
  rw [e1, Sm_comm]
  have e2 : Sm n (fun i => Sm (k + 1) (fun t => Sm n (fun j => TT n i A r j * (b t * TT n j A t i)))) = Sm n (fun _ => 0) := Sm_congr _ _ _ fun i hi => by
    rw [Sm_comm]
    have e3 : Sm n (fun j => Sm (k + 1) (fun t => TT n i A r j * (b t * TT n j A t i))) = Sm n (fun _ => 0) := Sm_congr _ _ _ fun j hj => by
      rw [Sm_mul, h j i hj hi, Int.mul_zero]
    rw [e3, Sm_zero]
  rw [e2, Sm_zero]
/-- The numbers of the polynomial. -/
def cfN (n : Nat) (A : Nat → Nat → Int) : List Int := match n with
  | 1 => [1, -A 0 0]
  | 2 => [1, -(A 0 0 + A 1 1), D2f A 0 1]
  | 3 => [1, -(A 0 0 + A 1 1 + A 2 2), D2f A 0 1 + D2f A 0 2 + D2f A 1 2, -D3f A 0 1 2]
  | 4 => [1, -(A 0 0 + A 1 1 + A 2 2 + A 3 3), D2f A 0 1 + D2f A 0 2 + D2f A 0 3 + D2f A 1 2 + D2f A 1 3 + D2f A 2 3, -(D3f A 0 1 2 + D3f A 0 1 3 + D3f A 0 2 3 + D3f A 1 2 3), D4f A]
  | _ => []
theorem tr_zero (n : Nat) (A : Nat → Nat → Int) : tr n A 0 = n := by
  have e : tr n A 0 = Sm n (fun _ => 1) := Sm_congr _ _ _ fun i _ => by show (if i = i then (1 : Int) else 0) = 1; rw [if_pos rfl]
  rw [e]
  clear e
  induction n with
  | zero => rfl
  | succ n ih => show Sm n _ + 1 = _; rw [ih]; omega
theorem tr_of1 (A : Nat → Nat → Int) (r : Nat) : tr 1 A (r + 1) - A 0 0 * tr 1 A r = 0 := by
  have h := tr_ch (n := 1) (k := 1) (A := A) (b := fun i => ([-A 0 0, 1] : List Int).getD i 0) (fun j l hj hl => by have := ch1 A j l hj hl; simp only [Sm, List.getD_cons_zero, List.getD_cons_succ]; grind) r
  simp only [Sm, List.getD_cons_zero, List.getD_cons_succ, Nat.add_zero] at h
  grind
theorem tr_of2 (A : Nat → Nat → Int) (r : Nat) : tr 2 A (r + 2) - (A 0 0 + A 1 1) * tr 2 A (r + 1) + D2f A 0 1 * tr 2 A r = 0 := by
  have h := tr_ch (n := 2) (k := 2) (A := A) (b := fun i => ([D2f A 0 1, -(A 0 0 + A 1 1), 1] : List Int).getD i 0) (fun j l hj hl => by have := ch2 A j l hj hl; simp only [Sm, List.getD_cons_zero, List.getD_cons_succ]; grind) r
  simp only [Sm, List.getD_cons_zero, List.getD_cons_succ, Nat.add_zero] at h
  grind
theorem tr_of3 (A : Nat → Nat → Int) (r : Nat) : tr 3 A (r + 3) - (A 0 0 + A 1 1 + A 2 2) * tr 3 A (r + 2) + (D2f A 0 1 + D2f A 0 2 + D2f A 1 2) * tr 3 A (r + 1) - D3f A 0 1 2 * tr 3 A r = 0 := by
  have h := tr_ch (n := 3) (k := 3) (A := A) (b := fun i => ([-D3f A 0 1 2, D2f A 0 1 + D2f A 0 2 + D2f A 1 2, -(A 0 0 + A 1 1 + A 2 2), 1] : List Int).getD i 0) (fun j l hj hl => by have := ch3 A j l hj hl; simp only [Sm, List.getD_cons_zero, List.getD_cons_succ]; grind) r
  simp only [Sm, List.getD_cons_zero, List.getD_cons_succ, Nat.add_zero] at h
  grind
theorem tr_of4 (A : Nat → Nat → Int) (r : Nat) : tr 4 A (r + 4) - (A 0 0 + A 1 1 + A 2 2 + A 3 3) * tr 4 A (r + 3) + (D2f A 0 1 + D2f A 0 2 + D2f A 0 3 + D2f A 1 2 + D2f A 1 3 + D2f A 2 3) * tr 4 A (r + 2) - (D3f A 0 1 2 + D3f A 0 1 3 + D3f A 0 2 3 + D3f A 1 2 3) * tr 4 A (r + 1) + D4f A * tr 4 A r = 0 := by
  have h := tr_ch (n := 4) (k := 4) (A := A) (b := fun i => ([D4f A, -(D3f A 0 1 2 + D3f A 0 1 3 + D3f A 0 2 3 + D3f A 1 2 3), D2f A 0 1 + D2f A 0 2 + D2f A 0 3 + D2f A 1 2 + D2f A 1 3 + D2f A 2 3, -(A 0 0 + A 1 1 + A 2 2 + A 3 3), 1] : List Int).getD i 0) (fun j l hj hl => by have := ch4 A j l hj hl; simp only [Sm, List.getD_cons_zero, List.getD_cons_succ]; grind) r
  simp only [Sm, List.getD_cons_zero, List.getD_cons_succ, Nat.add_zero] at h
  grind
end Go.Proofs.YtbjoblgklcilpaaGreat

namespace Go.Proofs.YtbjoblgklcilpaaGreat
open Go.RowKit
set_option linter.all false
def cN (n : Nat) (A : Nat → Nat → Int) (k : Nat) : Int := (cfN n A).getD k 0
theorem newt1 (A : Nat → Nat → Int) : ∀ k, k < 6 → tr 1 A (k + 1) + Sm k (fun i => cN 1 A (i + 1) * tr 1 A (k - i)) + ((k + 1 : Nat) : Int) * cN 1 A (k + 1) = 0 := by
  have h0 := tr_zero 1 A
  have h1 := tr_of1 A 0
  have h2 := tr_of1 A 1
  have h3 := tr_of1 A 2
  have h4 := tr_of1 A 3
  have h5 := tr_of1 A 4
  have h6 := tr_of1 A 5
  intro k hk
  have h : k = 0 ∨ k = 1 ∨ k = 2 ∨ k = 3 ∨ k = 4 ∨ k = 5 := by omega
  rcases h with rfl | rfl | rfl | rfl | rfl | rfl <;> simp [Sm, cN, cfN] at * <;> grind
theorem newt2 (A : Nat → Nat → Int) : ∀ k, k < 6 → tr 2 A (k + 1) + Sm k (fun i => cN 2 A (i + 1) * tr 2 A (k - i)) + ((k + 1 : Nat) : Int) * cN 2 A (k + 1) = 0 := by
  have h0 := tr_zero 2 A
  have h1 := nt2a A
  have h2 := tr_of2 A 0
  have h3 := tr_of2 A 1
  have h4 := tr_of2 A 2
  have h5 := tr_of2 A 3
  have h6 := tr_of2 A 4
  intro k hk
  have h : k = 0 ∨ k = 1 ∨ k = 2 ∨ k = 3 ∨ k = 4 ∨ k = 5 := by omega
  rcases h with rfl | rfl | rfl | rfl | rfl | rfl <;> simp [Sm, cN, cfN] at * <;> grind
theorem newt3 (A : Nat → Nat → Int) : ∀ k, k < 6 → tr 3 A (k + 1) + Sm k (fun i => cN 3 A (i + 1) * tr 3 A (k - i)) + ((k + 1 : Nat) : Int) * cN 3 A (k + 1) = 0 := by
  have h0 := tr_zero 3 A
  have h1 := nt3a A
  have h2 := nt3b A
  have h3 := tr_of3 A 0
  have h4 := tr_of3 A 1
  have h5 := tr_of3 A 2
  have h6 := tr_of3 A 3
  intro k hk
  have h : k = 0 ∨ k = 1 ∨ k = 2 ∨ k = 3 ∨ k = 4 ∨ k = 5 := by omega
  rcases h with rfl | rfl | rfl | rfl | rfl | rfl <;> simp [Sm, cN, cfN] at * <;> grind
theorem newt4 (A : Nat → Nat → Int) : ∀ k, k < 6 → tr 4 A (k + 1) + Sm k (fun i => cN 4 A (i + 1) * tr 4 A (k - i)) + ((k + 1 : Nat) : Int) * cN 4 A (k + 1) = 0 := by
  have h0 := tr_zero 4 A
  have h1 := nt4a A
  have h2 := nt4b A
  have h3 := nt4c A
  have h4 := tr_of4 A 0
  have h5 := tr_of4 A 1
  have h6 := tr_of4 A 2
  intro k hk
  have h : k = 0 ∨ k = 1 ∨ k = 2 ∨ k = 3 ∨ k = 4 ∨ k = 5 := by omega
  rcases h with rfl | rfl | rfl | rfl | rfl | rfl <;> simp [Sm, cN, cfN] at * <;> grind
end Go.Proofs.YtbjoblgklcilpaaGreat

namespace Go.Proofs.YtbjoblgklcilpaaGreat
open Go.RowKit
set_option linter.all false
theorem minTo_sum (t : List (List Int)) (n k : Nat) : ∀ m, Cg (minTo t n k m) (((setsTo n k m).map fun cs => det k (someT t cs cs)).sum)
  | 0 => Cg.refl _
  | m + 1 => by
    have ih := minTo_sum t n k m
    by_cases h : (setTo m n).length = k
    · rw [setsTo_yes h, minTo_yes h, List.map_append, List.sum_append]
      refine (Cg.wrap _).trans (ih.add (Cg.of_eq ?_))
      simp
    · rw [setsTo_no h, minTo_no h]
      exact ih
theorem sm_bnd {t : List (List Int)} (h : isSmallM t = true) : Bnd 100 t := by
  intro r hr x hx
  obtain ⟨i, hi, e⟩ := List.getElem_of_mem hr
  obtain ⟨j, hj, e2⟩ := List.getElem_of_mem hx
  have := isSmallM_get h ((List.getElem?_eq_getElem hi).trans (congrArg some e)) ((List.getElem?_eq_getElem hj).trans (congrArg some e2))
  omega
theorem det_some2 {t : List (List Int)} (h : Bnd 100 t) {k : Nat} (hk : k ≤ 4) {rs cs : List Int} (h1 : rs.length = k) (h2 : cs.length = k) : det k (someT t rs cs) = detI k (someT t rs cs) :=
  det_eqI (B := 100) (by omega) (by omega) k _ (by rw [someT_len, h1]) (by rw [← h2]; exact someT_rowsLen t rs cs) (h.pick (by omega) rs cs) (fun m hm => dmaxC m (by omega))
theorem sm0 {t : List (List Int)} : det 0 (someT t [] []) = 1 := rfl
theorem sm1 {t : List (List Int)} (h : Bnd 100 t) (r : Nat) : det 1 (someT t [(r : Int)] [(r : Int)]) = entA t r r := by
  rw [det_some2 (k := 1) h (by omega) rfl rfl]
  have e : someT t [(r : Int)] [(r : Int)] = [[entA t r r]] := by simp [someT, pickRow, entA]
  rw [e, detI1]
theorem sm2 {t : List (List Int)} (h : Bnd 100 t) (r s : Nat) : det 2 (someT t [(r : Int), (s : Int)] [(r : Int), (s : Int)]) = D2f (entA t) r s := by
  rw [det_some2 (k := 2) h (by omega) rfl rfl]
  have e : someT t [(r : Int), (s : Int)] [(r : Int), (s : Int)] = [[entA t r r, entA t r s], [entA t s r, entA t s s]] := by simp [someT, pickRow, entA]
  rw [e, detI2]
  rfl
theorem sm3 {t : List (List Int)} (h : Bnd 100 t) (r s u : Nat) : det 3 (someT t [(r : Int), (s : Int), (u : Int)] [(r : Int), (s : Int), (u : Int)]) = D3f (entA t) r s u := by
  rw [det_some2 (k := 3) h (by omega) rfl rfl]
  have e : someT t [(r : Int), (s : Int), (u : Int)] [(r : Int), (s : Int), (u : Int)] = [[entA t r r, entA t r s, entA t r u], [entA t s r, entA t s s, entA t s u], [entA t u r, entA t u s, entA t u u]] := by simp [someT, pickRow, entA]
  rw [e, detI3]
  rfl
theorem sm4 {t : List (List Int)} (h : Bnd 100 t) : det 4 (someT t [0, 1, 2, 3] [0, 1, 2, 3]) = D4f (entA t) := by
  rw [det_some2 (k := 4) h (by omega) rfl rfl]
  have e : someT t [0, 1, 2, 3] [0, 1, 2, 3] = [[entA t 0 0, entA t 0 1, entA t 0 2, entA t 0 3], [entA t 1 0, entA t 1 1, entA t 1 2, entA t 1 3], [entA t 2 0, entA t 2 1, entA t 2 2, entA t 2 3], [entA t 3 0, entA t 3 1, entA t 3 2, entA t 3 3]] := by simp [someT, pickRow, entA]
  rw [e, detI4, detI3, detI3, detI3, detI3]
  rfl
theorem cg_min {t : List (List Int)} {n k : Nat} {x : Int} (h : ((sets n k).map fun cs => det k (someT t cs cs)).sum = x) : Cg (pE t n k) (sg k * x) := by
  unfold pE
  refine (Cg.wrap _).trans ((Cg.refl _).mul ?_)
  rw [← h]
  exact minTo_sum t n k (2 ^ n)
theorem pE_cN {t : List (List Int)} (h : isSmallM t = true) {k : Nat} (hk : k ≤ t.length) : Cg (pE t t.length k) (cN t.length (entA t) k) := by
  obtain ⟨_, h4, h1⟩ := isSmallM_mat h
  have hb := sm_bnd h
  have a0 := fun r : Nat => sm1 hb r
  have a1 := fun r s : Nat => sm2 hb r s
  have a2 := fun r s u : Nat => sm3 hb r s u
  have a3 := sm4 hb
  generalize t.length = n at *
  have hn : n = 1 ∨ n = 2 ∨ n = 3 ∨ n = 4 := by omega
  have hk4 : k = 0 ∨ k = 1 ∨ k = 2 ∨ k = 3 ∨ k = 4 := by omega
  rcases hn with rfl | rfl | rfl | rfl <;> rcases hk4 with rfl | rfl | rfl | rfl | rfl <;> first | omega | skip
  all_goals refine (cg_min rfl).trans (Cg.of_eq ?_)
  · rw [show sets 1 0 = [[]] by decide]; simp [sm0, sg, cN, cfN]
  · rw [show sets 1 1 = [[((0 : Nat) : Int)]] by decide]; simp only [List.map, a0, sg, cN, cfN]; simp; try omega
  · rw [show sets 2 0 = [[]] by decide]; simp [sm0, sg, cN, cfN]
  · rw [show sets 2 1 = [[((0 : Nat) : Int)], [((1 : Nat) : Int)]] by decide]; simp only [List.map, a0, sg, cN, cfN]; simp; try omega
  · rw [show sets 2 2 = [[((0 : Nat) : Int), ((1 : Nat) : Int)]] by decide]; simp only [List.map, a1, sg, cN, cfN]; simp; try omega
  · rw [show sets 3 0 = [[]] by decide]; simp [sm0, sg, cN, cfN]
  · rw [show sets 3 1 = [[((0 : Nat) : Int)], [((1 : Nat) : Int)], [((2 : Nat) : Int)]] by decide]; simp only [List.map, a0, sg, cN, cfN]; simp; try omega
  · rw [show sets 3 2 = [[((0 : Nat) : Int), ((1 : Nat) : Int)], [((0 : Nat) : Int), ((2 : Nat) : Int)], [((1 : Nat) : Int), ((2 : Nat) : Int)]] by decide]; simp only [List.map, a1, sg, cN, cfN]; simp; try omega
  · rw [show sets 3 3 = [[((0 : Nat) : Int), ((1 : Nat) : Int), ((2 : Nat) : Int)]] by decide]; simp only [List.map, a2, sg, cN, cfN]; simp; try omega
  · rw [show sets 4 0 = [[]] by decide]; simp [sm0, sg, cN, cfN]
  · rw [show sets 4 1 = [[((0 : Nat) : Int)], [((1 : Nat) : Int)], [((2 : Nat) : Int)], [((3 : Nat) : Int)]] by decide]; simp only [List.map, a0, sg, cN, cfN]; simp; try omega
  · rw [show sets 4 2 = [[((0 : Nat) : Int), ((1 : Nat) : Int)], [((0 : Nat) : Int), ((2 : Nat) : Int)], [((1 : Nat) : Int), ((2 : Nat) : Int)], [((0 : Nat) : Int), ((3 : Nat) : Int)], [((1 : Nat) : Int), ((3 : Nat) : Int)], [((2 : Nat) : Int), ((3 : Nat) : Int)]] by decide]; simp only [List.map, a1, sg, cN, cfN]; simp; try omega
  · rw [show sets 4 3 = [[((0 : Nat) : Int), ((1 : Nat) : Int), ((2 : Nat) : Int)], [((0 : Nat) : Int), ((1 : Nat) : Int), ((3 : Nat) : Int)], [((0 : Nat) : Int), ((2 : Nat) : Int), ((3 : Nat) : Int)], [((1 : Nat) : Int), ((2 : Nat) : Int), ((3 : Nat) : Int)]] by decide +kernel]; simp only [List.map, a2, sg, cN, cfN]; simp; try omega
  · rw [show sets 4 4 = [[0, 1, 2, 3]] by decide +kernel]; simp only [List.map, a3, sg, cN, cfN]; simp
end Go.Proofs.YtbjoblgklcilpaaGreat

namespace Go.Proofs.YtbjoblgklcilpaaGreat
open Go.RowKit
set_option linter.all false
def zSum (p out : List Int) (k : Nat) : Nat → Nat → Int → Int
  | 0, _, s => s
  | f + 1, i, s => if i ≤ k ∧ i < p.length then zSum p out k f (i + 1) (wrap64 (s - wrap64 (p.getD i 0 * out.getD (k - i) 0))) else s
def zRow (p : List Int) : Nat → List Int
  | 0 => [1]
  | k + 1 => zRow p k ++ [zSum p (zRow p k) (k + 1) (k + 1) 1 0]
def zetaV (m : List (List Int)) (n : Int) : List Int := if isSmallM m && inR n 0 8 then zRow (turnedP m) n.toNat else []
theorem getD_over {p : List Int} {i : Nat} (h : p.length ≤ i) : p.getD i 0 = 0 := by simp [List.getD, List.getElem?_eq_none h]
theorem zSum_cg {p out : List Int} {k : Nat} : ∀ (f i : Nat) (s : Int), i + f = k + 1 → Cg (zSum p out k f i s) (s - Sm f (fun t => p.getD (i + t) 0 * out.getD (k - (i + t)) 0))
  | 0, i, s, _ => Cg.of_eq (by simp [zSum, Sm])
  | f + 1, i, s, h => by
    rw [zSum]
    by_cases hi : i < p.length
    · rw [if_pos ⟨by omega, hi⟩]
      refine (zSum_cg f (i + 1) _ (by omega)).trans ?_
      rw [Sm_first]
      have e : Sm f (fun j => p.getD (i + (j + 1)) 0 * out.getD (k - (i + (j + 1))) 0) = Sm f (fun t => p.getD (i + 1 + t) 0 * out.getD (k - (i + 1 + t)) 0) := Sm_congr _ _ _ fun j _ => by rw [show i + (j + 1) = i + 1 + j by omega]
      rw [e]
      refine (((Cg.wrap _).trans ((Cg.refl s).sub (Cg.wrap _))).sub (Cg.refl _)).trans (Cg.of_eq ?_)
      simp only [Nat.add_zero]
      omega
    · rw [if_neg (fun e => hi e.2)]
      have e : Sm (f + 1) (fun t => p.getD (i + t) 0 * out.getD (k - (i + t)) 0) = Sm (f + 1) (fun _ => 0) := Sm_congr _ _ _ fun j _ => by rw [getD_over (p := p) (by omega), Int.zero_mul]
      rw [e, Sm_zero]
      exact Cg.of_eq (by omega)
theorem zRow_len (p : List Int) : ∀ k, (zRow p k).length = k + 1
  | 0 => rfl
  | k + 1 => by rw [zRow, List.length_append, zRow_len p k]; rfl
theorem zRow_pre {p : List Int} {i : Nat} : ∀ k, i ≤ k → (zRow p k).getD i 0 = (zRow p i).getD i 0
  | 0, h => by rw [show i = 0 by omega]
  | k + 1, h => by
    by_cases e : i = k + 1
    · rw [e]
    · rw [← zRow_pre k (by omega), zRow]
      simp [List.getD, List.getElem?_append_left (show i < (zRow p k).length by rw [zRow_len]; omega)]
def zE (c : Nat → Int) : Nat → List Int
  | 0 => [1]
  | k + 1 => zE c k ++ [-Sm (k + 1) (fun i => c (i + 1) * (zE c k).getD (k - i) 0)]
def zex (c : Nat → Int) (k : Nat) : Int := (zE c k).getD k 0
theorem zE_len (c : Nat → Int) : ∀ k, (zE c k).length = k + 1
  | 0 => rfl
  | k + 1 => by rw [zE, List.length_append, zE_len c k]; rfl
theorem zE_pre {c : Nat → Int} {i : Nat} : ∀ k, i ≤ k → (zE c k).getD i 0 = zex c i
  | 0, h => by rw [show i = 0 by omega]; rfl
  | k + 1, h => by
    by_cases e : i = k + 1
    · rw [e]; rfl
    · rw [← zE_pre k (by omega), zE]
      simp [List.getD, List.getElem?_append_left (show i < (zE c k).length by rw [zE_len]; omega)]
theorem zex_next (c : Nat → Int) (k : Nat) : zex c (k + 1) = -Sm (k + 1) (fun i => c (i + 1) * zex c (k - i)) := by
  unfold zex
  rw [zE]
  have e : (zE c k ++ [-Sm (k + 1) (fun i => c (i + 1) * (zE c k).getD (k - i) 0)]).getD (k + 1) 0 = -Sm (k + 1) (fun i => c (i + 1) * (zE c k).getD (k - i) 0) := by
    simp [List.getD, List.getElem?_append_right (show (zE c k).length ≤ k + 1 by rw [zE_len]; omega), zE_len]
  rw [e]
  congr 1
  exact Sm_congr _ _ _ fun i _ => by rw [zE_pre k (by omega)]; rfl
theorem zRow_cg {p : List Int} {c : Nat → Int} (h : ∀ i, Cg (p.getD i 0) (c i)) : ∀ k, Cg ((zRow p k).getD k 0) (zex c k) := by
  intro k
  induction k using Nat.strongRecOn with
  | _ k ih =>
    cases k with
    | zero => exact Cg.refl _
    | succ k =>
      have e : (zRow p (k + 1)).getD (k + 1) 0 = zSum p (zRow p k) (k + 1) (k + 1) 1 0 := by
        rw [zRow]
        simp [List.getD, List.getElem?_append_right (show (zRow p k).length ≤ k + 1 by rw [zRow_len]; omega), zRow_len]
      rw [e, zex_next]
      refine (zSum_cg (k + 1) 1 0 (by omega)).trans ?_
      have hc : Cg (Sm (k + 1) (fun t => p.getD (1 + t) 0 * (zRow p k).getD (k + 1 - (1 + t)) 0)) (Sm (k + 1) (fun i => c (i + 1) * zex c (k - i))) := Sm_Cg _ _ _ fun j hj => by
        rw [show k + 1 - (1 + j) = k - j by omega, zRow_pre k (by omega), Nat.add_comm 1 j]
        exact (h (j + 1)).mul (ih (k - j) (by omega))
      exact ((Cg.refl 0).sub hc).trans (Cg.of_eq (by omega))
theorem cut_getD (p : List Int) : ∀ n i, p.length ≤ n → (p.take (cutN p n)).getD i 0 = p.getD i 0 := by
  have key : ∀ n i, cutN p n ≤ i → i < n → p.getD i 0 = 0 := by
    intro n
    induction n with
    | zero => intro i _ h; omega
    | succ n ih =>
      intro i h1 h2
      rw [cutN] at h1
      split at h1
      · rename_i h0
        by_cases e : i = n
        · rw [e]; exact h0
        · exact ih i h1 (by omega)
      · omega
  intro n i hn
  by_cases hi : i < cutN p n
  · simp [List.getD, List.getElem?_take_of_lt hi]
  · rw [getD_over (p := p.take (cutN p n)) (by rw [List.length_take]; omega)]
    by_cases h2 : i < n
    · exact (key n i (by omega) h2).symm
    · exact (getD_over (by omega)).symm
theorem cfN_len {n : Nat} (h1 : 1 ≤ n) (h4 : n ≤ 4) (A : Nat → Nat → Int) : (cfN n A).length = n + 1 := by
  have hn : n = 1 ∨ n = 2 ∨ n = 3 ∨ n = 4 := by omega
  rcases hn with rfl | rfl | rfl | rfl <;> rfl
theorem turned_cg {m : List (List Int)} (h : isSmallM m = true) (i : Nat) : Cg ((turnedP m).getD i 0) (cN m.length (entA m) i) := by
  obtain ⟨_, h4, h1⟩ := isSmallM_mat h
  unfold turnedP
  rw [if_pos h, cutZ, cut_getD _ _ _ (Nat.le_refl _)]
  by_cases hi : i ≤ m.length
  · rw [getD_get (polyL_get (by omega))]
    exact pE_cN h hi
  · rw [getD_over (by rw [polyL_len]; omega)]
    unfold cN
    rw [getD_over (by rw [cfN_len h1 h4]; omega)]
    exact Cg.refl _
/-- Newton: the sums of powers and the zeta numbers. -/
theorem zeta_law {m : List (List Int)} (h : isSmallM m = true) {n x : Nat} (hx : x < n) (hn : n ≤ 6) :
    Cg (Sm (x + 1) (fun y => tr m.length (entA m) (y + 1) * (zRow (turnedP m) n).getD (x - y) 0)) (((x + 1 : Nat) : Int) * (zRow (turnedP m) n).getD (x + 1) 0) := by
  obtain ⟨_, h4, h1⟩ := isSmallM_mat h
  have hz := zRow_cg (turned_cg h)
  have hnw : ∀ k, k < 6 → tr m.length (entA m) (k + 1) + Sm k (fun i => cN m.length (entA m) (i + 1) * tr m.length (entA m) (k - i)) + ((k + 1 : Nat) : Int) * cN m.length (entA m) (k + 1) = 0 := by
    generalize entA m = A
    generalize m.length = l at *
    have hl : l = 1 ∨ l = 2 ∨ l = 3 ∨ l = 4 := by omega
    rcases hl with rfl | rfl | rfl | rfl
    · exact newt1 A
    · exact newt2 A
    · exact newt3 A
    · exact newt4 A
  have hcv := conv6 hnw (z := zex (cN m.length (entA m))) rfl (fun k _ => zex_next _ k) x (by omega)
  have e1 : Cg (Sm (x + 1) (fun y => tr m.length (entA m) (y + 1) * (zRow (turnedP m) n).getD (x - y) 0)) (Sm (x + 1) (fun y => tr m.length (entA m) (y + 1) * zex (cN m.length (entA m)) (x - y))) := Sm_Cg _ _ _ fun y hy => by
    rw [zRow_pre n (by omega)]
    exact (Cg.refl _).mul (hz _)
  refine e1.trans ?_
  rw [hcv, zRow_pre n (by omega)]
  exact (Cg.refl _).mul (hz _).symm
theorem zSum_step {p out : List Int} {k i : Nat} {s R : Int} (hi : i ≤ k) (hl : i < p.length) (h : zSum p out k (k + 1 - i) i s = R) : zSum p out k (k + 1 - (i + 1)) (i + 1) (wrap64 (s - wrap64 (p.getD i 0 * out.getD (k - i) 0))) = R := by
  rw [show k + 1 - i = (k + 1 - (i + 1)) + 1 by omega, zSum, if_pos ⟨hi, hl⟩] at h
  exact h
theorem zSum_end {p out : List Int} {k i : Nat} {s R : Int} (hi : ¬ (i ≤ k ∧ i < p.length)) (h : zSum p out k (k + 1 - i) i s = R) : s = R := by
  cases hf : k + 1 - i with
  | zero => rw [hf] at h; exact h
  | succ f => rw [hf, zSum, if_neg hi] at h; exact h
theorem zRow_push (p : List Int) (k : Nat) : zRow p k ++ [zSum p (zRow p k) (k + 1) (k + 1) 1 0] = zRow p (k + 1) := rfl
end Go.Proofs.YtbjoblgklcilpaaGreat

namespace Go.Proofs.YtbjoblgklcilpaaGreat
open Go.RowKit
set_option linter.all false
def zL (m : List (List Int)) (z : List Int) (x : Nat) : Nat → Nat → Int → Bool → Int × Bool
  | 0, _, s, k => (s, k)
  | f + 1, y, s, k => zL m z x f (y + 1) (wrap64 (s + wrap64 (closed m y * z.getD (x - y) 0))) (k && decide (0 ≤ closed m y))
theorem zL_step {m : List (List Int)} {z : List Int} {x y : Nat} {s : Int} {k : Bool} {R : Int × Bool} (hy : y ≤ x) (h : zL m z x (x + 1 - y) y s k = R) :
    zL m z x (x + 1 - (y + 1)) (y + 1) (wrap64 (s + wrap64 (closed m y * z.getD (x - y) 0))) (k && decide (0 ≤ closed m y)) = R := by
  rw [show x + 1 - y = (x + 1 - (y + 1)) + 1 by omega, zL] at h
  exact h
theorem zL_end {m : List (List Int)} {z : List Int} {x y : Nat} {s : Int} {k : Bool} {R : Int × Bool} (hy : ¬ y ≤ x) (h : zL m z x (x + 1 - y) y s k = R) : (s, k) = R := by
  rw [show x + 1 - y = 0 by omega, zL] at h
  exact h
theorem zL_get {m : List (List Int)} {z : List Int} {x : Nat} : ∀ (f y : Nat) (s : Int) (k : Bool), (zL m z x f y s k).2 = true → k = true ∧ (∀ t, t < f → 0 ≤ closed m ((y + t : Nat) : Int)) ∧
    Cg (zL m z x f y s k).1 (s + Sm f (fun t => closed m ((y + t : Nat) : Int) * z.getD (x - (y + t)) 0))
  | 0, y, s, k, h => ⟨h, fun t ht => absurd ht (Nat.not_lt_zero _), Cg.of_eq (by simp [zL, Sm])⟩
  | f + 1, y, s, k, h => by
    rw [zL] at h ⊢
    obtain ⟨h1, h2, h3⟩ := zL_get f (y + 1) _ _ h
    rw [Bool.and_eq_true, decide_eq_true_eq] at h1
    refine ⟨h1.1, fun t ht => ?_, ?_⟩
    · rcases t with _ | t
      · exact h1.2
      · have := h2 t (by omega)
        rw [show y + 1 + t = y + (t + 1) by omega] at this
        exact this
    · refine h3.trans ?_
      rw [Sm_first, ← Int.add_assoc]
      have e : Sm f (fun t => closed m ((y + 1 + t : Nat) : Int) * z.getD (x - (y + 1 + t)) 0) = Sm f (fun j => closed m ((y + (j + 1) : Nat) : Int) * z.getD (x - (y + (j + 1))) 0) := Sm_congr _ _ _ fun j _ => by rw [show y + 1 + j = y + (j + 1) by omega]
      rw [e]
      refine Cg.add ?_ (Cg.refl _)
      refine (Cg.wrap _).trans ((Cg.refl s).add ?_)
      exact Cg.wrap _
theorem zL_canon {m : List (List Int)} {z : List Int} {x : Nat} : ∀ (f y : Nat) (s : Int) (k : Bool), wrap64 s = s → wrap64 (zL m z x f y s k).1 = (zL m z x f y s k).1
  | 0, _, _, _, h => h
  | f + 1, y, s, k, h => by
    rw [zL]
    refine zL_canon f (y + 1) _ _ ?_
    generalize s + wrap64 (closed m y * z.getD (x - y) 0) = u
    unfold wrap64
    omega
theorem zL_law {m : List (List Int)} {n : Int} (hn : n ≤ 6 ∨ 25 ≤ n) {x : Nat} (h1 : 1 ≤ x) (hx : x < (zetaV m n).length) (h : (zL m (zetaV m n) x x 1 0 true).2 = true) :
    (zL m (zetaV m n) x x 1 0 true).1 = wrap64 ((x : Int) * (zetaV m n).getD x 0) := by
  unfold zetaV at hx h ⊢
  split at hx
  · rename_i hs
    rw [if_pos hs] at h ⊢
    rw [Bool.and_eq_true] at hs
    have hr := inR_true hs.2
    obtain ⟨n0, rfl⟩ := Int.eq_ofNat_of_zero_le (show 0 ≤ n by omega)
    rw [Int.toNat_natCast] at hx h ⊢
    rw [zRow_len] at hx
    obtain ⟨_, h2, h3⟩ := zL_get _ _ _ _ h
    refine Cg.same (h3.trans ?_) (zL_canon _ _ _ _ (wrap_id (by omega))) (by generalize (x : Int) * (zRow (turnedP m) n0).getD x 0 = u; unfold wrap64; omega)
    obtain ⟨q, rfl⟩ : ∃ q, x = q + 1 := ⟨x - 1, by omega⟩
    rw [Int.zero_add]
    have e : Sm (q + 1) (fun t => closed m ((1 + t : Nat) : Int) * (zRow (turnedP m) n0).getD (q + 1 - (1 + t)) 0) = Sm (q + 1) (fun y => tr m.length (entA m) (y + 1) * (zRow (turnedP m) n0).getD (q - y) 0) := Sm_congr _ _ _ fun t ht => by
      have hc := h2 t ht
      rw [(closed_down hc (by omega) (Nat.le_refl _)).1, show q + 1 - (1 + t) = q - t by omega, Nat.add_comm 1 t]
    rw [e]
    exact (zeta_law hs.1 (by omega) (by omega)).trans (Cg.wrap _).symm
  · simp at hx
theorem cnt_law {m : List (List Int)} {o : Int} (h1 : 1 ≤ o) (h12 : o ≤ 12) (h : 0 ≤ cntO m o) : wrap64 (cntO m o * o) = lp m o := by
  have hl : ¬ lp m o < 0 := fun e => by unfold cntO at h; rw [if_pos e] at h; omega
  have hb := lp_big hl
  have hr := lp_range hl
  obtain ⟨n, rfl⟩ := Int.eq_ofNat_of_zero_le (show 0 ≤ o by omega)
  have hp := lp_prim (m := m) (n := n) (by omega) (by omega) (by omega)
  obtain ⟨q, hq⟩ := prim_dvd m (n := n) (by omega)
  have e : cntO m n * n = lp m n := by
    unfold cntO
    rw [if_neg hl, hp, hq, Int.natCast_mul, Int.mul_ediv_cancel_left _ (by omega), Int.mul_comm]
  rw [e]
  exact wrap_id (by omega)
theorem dvS_step {m : List (List Int)} {l d : Nat} {s R : Int} (hd : d ≤ l) (h : dvS m l (l + 1 - d) d s = R) : (l % d = 0 → dvS m l (l + 1 - (d + 1)) (d + 1) (wrap64 (s + lp m d)) = R) ∧ (l % d ≠ 0 → dvS m l (l + 1 - (d + 1)) (d + 1) s = R) := by
  rw [show l + 1 - d = (l + 1 - (d + 1)) + 1 by omega, dvS] at h
  exact ⟨fun e => by rw [if_pos e] at h; exact h, fun e => by rw [if_neg e] at h; exact h⟩
theorem dvS_end {m : List (List Int)} {l d : Nat} {s R : Int} (hd : ¬ d ≤ l) (h : dvS m l (l + 1 - d) d s = R) : s = R := by
  rw [show l + 1 - d = 0 by omega, dvS] at h
  exact h
theorem closed_isMat {m : List (List Int)} {k : Int} (hc : 0 ≤ closed m k) : isMat m = true := by
  cases hq : isMat m
  · rw [closed_none (powM_none1 hq)] at hc; omega
  · rfl
theorem words_law {K : Int} {F : List ByteArray} (hne : (lang K F 2).isEmpty = false) {n : Nat} (h1 : 1 ≤ n) (h6 : n ≤ 6) : ((orbWV K F n).length : Int) = cntO (graphL F (lang K F 2)) n := by
  have h : isSh K F = true := by
    cases hq : isSh K F
    · unfold lang at hne
      simp [hq] at hne
    · rfl
  obtain ⟨h2, h3⟩ := orbits_graph h hne h1 h6
  unfold cntO
  rw [h3, if_neg (by omega), Int.natCast_mul, Int.mul_ediv_cancel_left _ (by omega)]
theorem Ints.cellK {w : World} {b o n k : Nat} {xs : List Int} (h : Ints w (some ⟨b, o, none⟩) n xs) (hk : k < n) : w.cell? ⟨b, o + k, none⟩ = some (.int .i64 (xs.getD k 0)) := by
  obtain ⟨b', o', e, hc⟩ := h.2.2 k (by rw [h.1]; exact hk)
  injection e with e
  injection e with e1 e2
  subst e1
  subst e2
  exact hc
end Go.Proofs.YtbjoblgklcilpaaGreat

namespace Go.Proofs.YtbjoblgklcilpaaGreat
open Go.RowKit
set_option linter.all false
set_option maxRecDepth 20000 in
set_option maxHeartbeats 3200000 in
theorem sZeta_any (pm : Option Addr) (nm cm : Nat) (m : List (List Int)) (n : Int) (w : World) (h : Intss w pm nm m) :
    Calls Tryz.prog 14 #[.slice pm nm cm, .int .i64 n] w fun e w' => ∃ v, e = .returned v ∧ OInts w' w.heap.size v (zetaV m n).length (zetaV m n) ∧ Below w.heap.size w w' := by
  have H := Lib.hid h
  clear h
  cases hs : isSmallM m
  · have hg : Hid (zetaV m n = []) := by show _ = _; simp [zetaV, hs]
    go_enter Tryz.func14, Tryz.ntmps14
    go_wp2_with (first | (go_at_call 39; refine (sIsSmall_any _ _ _ m _ H.out).mono ?_; rintro e w' ⟨rfl, rfl⟩) | (go_at_call 40; refine (l1In_any _ _ _ _).mono ?_; rintro e w' ⟨rfl, rfl⟩))
    go_ret
    rw [hg.out]
    exact ⟨_, rfl, OInts.empty _ _ (Nat.le_refl _), (Below.refl _ _).alloc (Nat.le_refl _) _⟩
  cases h1 : inR n 0 8
  · have hg : Hid (zetaV m n = []) := by show _ = _; simp [zetaV, h1]
    go_enter Tryz.func14, Tryz.ntmps14
    go_wp2_with (first | (go_at_call 39; refine (sIsSmall_any _ _ _ m _ H.out).mono ?_; rintro e w' ⟨rfl, rfl⟩) | (go_at_call 40; refine (l1In_any _ _ _ _).mono ?_; rintro e w' ⟨rfl, rfl⟩))
    go_ret
    rw [hg.out]
    exact ⟨_, rfl, OInts.empty _ _ (Nat.le_refl _), (Below.refl _ _).alloc (Nat.le_refl _) _⟩
  have hr := inR_true h1
  obtain ⟨n0, rfl⟩ := Int.eq_ofNat_of_zero_le (show 0 ≤ n by omega)
  have hn0 : n0 ≤ 8 := by omega
  have HG : Hid (zetaV m (n0 : Int) = zRow (turnedP m) n0) := by show _ = _; simp [zetaV, h1, hs]
  clear hr
  go_enter Tryz.func14, Tryz.ntmps14
  go_wp2_with (first | (go_at_call 39; refine (sIsSmall_any _ _ _ m _ H.out).mono ?_; rintro e w' ⟨rfl, rfl⟩) | (go_at_call 40; refine (l1In_any _ _ _ _).mono ?_; rintro e w' ⟨rfl, rfl⟩))
  clear h1 hs
  refine (sTurned_any _ _ _ m _ H.out).mono ?_
  rintro e w1 ⟨vp, rfl, hop, hb1⟩
  obtain ⟨ap, cp, rfl, hip⟩ := hop.form
  have HB1 := Lib.hid hb1
  have HP := Lib.hid hip
  have hpb := hip.2.1
  have hpl : (turnedP m).length < 1099511627777 := by omega
  clear hop hip hb1 H
  go_wp2_with fail
  have HO1 : Hid (OInts (w1.alloc (.cells #[.int .i64 1] 3)) w1.heap.size (.slice (some ⟨w1.heap.size, 0, none⟩) 1 1) 1 [1]) := OInts.lit_ (Nat.le_refl _) rfl rfl (by omega)
  have HBE := Lib.hid ((Below.refl w1.heap.size w1).alloc (Nat.le_refl _) (.cells #[.int .i64 1] 3))
  go_loopw [6, 7] (fun v x wr => ∃ (k : Nat), k ≤ n0 ∧ x = .int .i64 (k + 1 : Nat) ∧ OInts wr w1.heap.size v (k + 1) (zRow (turnedP m) k) ∧ Below w1.heap.size w1 wr) (fun _ x _ => n0 + 1 - (intOf x).toNat)
  case atStart => exact ⟨0, by omega, rfl, HO1.out, HBE.out⟩
  case round =>
    obtain ⟨k, hk, rfl, hown, hbl⟩ := hrel
    obtain ⟨av, cv, rfl, hiv⟩ := hown.form
    obtain ⟨kk, hkk⟩ : ∃ kk : Nat, kk = k + 1 := ⟨_, rfl⟩
    rw [← hkk] at hown hiv ⊢
    have HO := Lib.hid hown
    have HB := Lib.hid hbl
    have HPo := Lib.hid (HP.out.keep hbl)
    have HIv := Lib.hid hiv
    clear hown hbl hiv HO1 HBE
    have hkk1 : 1 ≤ kk := by omega
    have hkk9 : kk ≤ 9 := by omega
    have hkn : kk ≤ n0 + 1 := by omega
    have HKK := Lib.hid hkk
    clear hkk
    by_cases hle : kk ≤ n0
    · obtain ⟨wo, rfl⟩ : ∃ wo : World, wo = wr := ⟨_, rfl⟩
      go_wp2_with fail
      go_loopw [8, 9] (fun s x wr => ∃ (i : Nat) (y : Int), 1 ≤ i ∧ i ≤ kk + 1 ∧ x = .int .i64 i ∧ s = .int .i64 y ∧ Drew wo wr ∧ Hid (zSum (turnedP m) (zRow (turnedP m) k) kk (kk + 1 - i) i y = zSum (turnedP m) (zRow (turnedP m) k) kk kk 1 0)) (fun _ x _ => kk + 1 - (intOf x).toNat)
      case atStart => exact ⟨1, 0, by omega, by omega, rfl, rfl, Drew.refl _, (by show _ = _; rw [Nat.add_sub_cancel])⟩
      case round =>
        obtain ⟨i, y, hi1, hik, rfl, rfl, hdr, hz⟩ := hrel
        obtain ⟨dn, rfl⟩ := hdr
        by_cases hi : i ≤ kk
        · by_cases hl : i < (turnedP m).length
          · have HN := Lib.hid (zSum_step hi hl hz.out)
            obtain ⟨bp, op, xp, rfl, hcp, hgp⟩ := HPo.out.at_ hl
            obtain ⟨q, hq⟩ : ∃ q : Nat, q = kk - i := ⟨_, rfl⟩
            have hql : q < kk := by omega
            have hqw : IntKind.i64.wrap ((kk : Int) - (i : Int)) = (q : Int) := by rw [IntKind.wrap_i64]; omega
            obtain ⟨bv, ov, xv, rfl, hcv, hgv⟩ := HIv.out.at_ hql
            have hql2 : ((q : Nat) : Int) < ((kk : Nat) : Int) := by omega
            have HE : Hid ((turnedP m).getD i 0 = xp ∧ (zRow (turnedP m) k).getD (kk - i) 0 = xv) := ⟨getD_get hgp.out, by rw [← hq]; exact getD_get hgv.out⟩
            have HE2 : Hid (zSum (turnedP m) (zRow (turnedP m) k) kk (kk + 1 - (i + 1)) (i + 1) (wrap64 (y - wrap64 (xp * xv))) = zSum (turnedP m) (zRow (turnedP m) k) kk kk 1 0) := by
              have h1 := HN.out
              rw [HE.out.1, HE.out.2] at h1
              exact h1
            clear hz HN hgp hgv HE hq
            go_wp2_with fail
            go_quiet (fail)
            go_wp2_with fail
            go_roundw
            case rel => exact ⟨i + 1, _, by omega, by omega, by go_num, rfl, ⟨_, rfl⟩, HE2.out⟩
            case measure => (simp [intOf] <;> omega)
          · have HN := Lib.hid (zSum_end (fun e => hl e.2) hz.out)
            clear hz
            go_wp2_with (at_builtin; refine wpList_push_one _ _ rfl _ _ rfl w1.heap.size _ _ _ rfl (HO.out.drewN dn) (by omega) HB.out.size _ rfl rfl ?_; intro v1 w3 ho1 hb3; have Ho1 := Lib.hid ho1; have Hb3 := Lib.hid hb3; clear ho1 hb3)
            go_roundw
            case rel => exact ⟨kk, by omega, by go_num, by have h9 := Ho1.out; rw [HN.out, HKK.out, zRow_push] at h9; rw [HKK.out]; exact h9, (below_drewN HB.out dn).trans Hb3.out⟩
            case measure => (simp [intOf] <;> omega)
        · have HN := Lib.hid (zSum_end (fun e => hi e.1) hz.out)
          clear hz
          go_wp2_with (at_builtin; refine wpList_push_one _ _ rfl _ _ rfl w1.heap.size _ _ _ rfl (HO.out.drewN dn) (by omega) HB.out.size _ rfl rfl ?_; intro v1 w3 ho1 hb3; have Ho1 := Lib.hid ho1; have Hb3 := Lib.hid hb3; clear ho1 hb3)
          go_roundw
          case rel => exact ⟨kk, by omega, by go_num, by have h9 := Ho1.out; rw [HN.out, HKK.out, zRow_push] at h9; rw [HKK.out]; exact h9, (below_drewN HB.out dn).trans Hb3.out⟩
          case measure => (simp [intOf] <;> omega)
    · have hkn2 : k = n0 := by have := HKK.out; omega
      subst hkn2
      go_wp2_with fail
      go_ret
      rw [HG.out, zRow_len, ← HKK.out]
      exact ⟨_, rfl, HO.out.mono HB1.out.size, step2 HB1.out HB.out⟩
end Go.Proofs.YtbjoblgklcilpaaGreat

namespace Go.Proofs.YtbjoblgklcilpaaGreat
open Go.RowKit
set_option linter.all false
set_option maxRecDepth 20000 in
set_option maxHeartbeats 3200000 in
theorem iZeta_any (pm : Option Addr) (nm cm : Nat) (m : List (List Int)) (n : Int) (w : World) (h : Intss w pm nm m) :
    Calls Tryz.prog 6 #[.slice pm nm cm, .int .i64 n] w fun e w' => ∃ v, e = .returned v ∧ OInts w' w.heap.size v (zetaV m n).length (zetaV m n) ∧ Below w.heap.size w w' := by
  have H := Lib.hid h
  clear h
  cases hs : isSmallM m
  · have hg : Hid (zetaV m n = []) := by show _ = _; simp [zetaV, hs]
    go_enter Tryz.func6, Tryz.ntmps6
    go_wp2_with (first | (go_at_call 27; refine (iIsSmall_any _ _ _ m _ H.out).mono ?_; rintro e w' ⟨rfl, rfl⟩))
    go_ret
    rw [hg.out]
    exact ⟨_, rfl, OInts.none_ _ _, Below.refl _ _⟩
  by_cases hl : n < 0
  · have hg : Hid (zetaV m n = []) := by show _ = _; simp [zetaV, inR_no (x := n) (lo := 0) (hi := 8) (.inl hl)]
    go_enter Tryz.func6, Tryz.ntmps6
    go_wp2_with (first | (go_at_call 27; refine (iIsSmall_any _ _ _ m _ H.out).mono ?_; rintro e w' ⟨rfl, rfl⟩))
    go_ret
    rw [hg.out]
    exact ⟨_, rfl, OInts.none_ _ _, Below.refl _ _⟩
  by_cases hh : 8 < n
  · have hg : Hid (zetaV m n = []) := by show _ = _; simp [zetaV, inR_no (x := n) (lo := 0) (hi := 8) (.inr hh)]
    have hd1 : decide (n < 0) = false := by simpa using hl
    go_enter Tryz.func6, Tryz.ntmps6
    go_wp2_with (first | (go_at_call 27; refine (iIsSmall_any _ _ _ m _ H.out).mono ?_; rintro e w' ⟨rfl, rfl⟩))
    go_ret
    rw [hg.out]
    exact ⟨_, rfl, OInts.none_ _ _, Below.refl _ _⟩
  have h1 : inR n 0 8 = true := inR_mk ⟨by omega, by omega⟩
  have hd1 : decide (n < 0) = false := by simpa using hl
  have hd2 : decide (8 < n) = false := by simpa using hh
  have hr := inR_true h1
  obtain ⟨n0, rfl⟩ := Int.eq_ofNat_of_zero_le (show 0 ≤ n by omega)
  have hn0 : n0 ≤ 8 := by omega
  have HG : Hid (zetaV m (n0 : Int) = zRow (turnedP m) n0) := by show _ = _; simp [zetaV, h1, hs]
  clear hr
  go_enter Tryz.func6, Tryz.ntmps6
  go_wp2_with (first | (go_at_call 27; refine (iIsSmall_any _ _ _ m _ H.out).mono ?_; rintro e w' ⟨rfl, rfl⟩))
  clear h1 hs hl hh
  refine (iTurned_any _ _ _ m _ H.out).mono ?_
  rintro e w1 ⟨vp, rfl, hop, hb1⟩
  obtain ⟨ap, cp, rfl, hip⟩ := hop.form
  have HB1 := Lib.hid hb1
  have HP := Lib.hid hip
  have hpb := hip.2.1
  have hpl : (turnedP m).length < 1099511627777 := by omega
  clear hop hip hb1 H
  go_wp2_with fail
  have HO1 : Hid (OInts (w1.alloc (.cells #[.int .i64 1] 3)) w1.heap.size (.slice (some ⟨w1.heap.size, 0, none⟩) 1 1) 1 [1]) := OInts.lit_ (Nat.le_refl _) rfl rfl (by omega)
  have HBE := Lib.hid ((Below.refl w1.heap.size w1).alloc (Nat.le_refl _) (.cells #[.int .i64 1] 3))
  go_loopw [6, 7] (fun v x wr => ∃ (k : Nat), k ≤ n0 ∧ x = .int .i64 (k + 1 : Nat) ∧ OInts wr w1.heap.size v (k + 1) (zRow (turnedP m) k) ∧ Below w1.heap.size w1 wr) (fun _ x _ => n0 + 1 - (intOf x).toNat)
  case atStart => exact ⟨0, by omega, rfl, HO1.out, HBE.out⟩
  case round =>
    obtain ⟨k, hk, rfl, hown, hbl⟩ := hrel
    obtain ⟨av, cv, rfl, hiv⟩ := hown.form
    obtain ⟨kk, hkk⟩ : ∃ kk : Nat, kk = k + 1 := ⟨_, rfl⟩
    rw [← hkk] at hown hiv ⊢
    have HO := Lib.hid hown
    have HB := Lib.hid hbl
    have HPo := Lib.hid (HP.out.keep hbl)
    have HIv := Lib.hid hiv
    clear hown hbl hiv HO1 HBE
    have hkk1 : 1 ≤ kk := by omega
    have hkk9 : kk ≤ 9 := by omega
    have hkn : kk ≤ n0 + 1 := by omega
    have HKK := Lib.hid hkk
    clear hkk
    by_cases hle : kk ≤ n0
    · obtain ⟨wo, rfl⟩ : ∃ wo : World, wo = wr := ⟨_, rfl⟩
      go_wp2_with fail
      go_loopw [8, 9] (fun s x wr => ∃ (i : Nat) (y : Int), 1 ≤ i ∧ i ≤ kk + 1 ∧ x = .int .i64 i ∧ s = .int .i64 y ∧ Drew wo wr ∧ Hid (zSum (turnedP m) (zRow (turnedP m) k) kk (kk + 1 - i) i y = zSum (turnedP m) (zRow (turnedP m) k) kk kk 1 0)) (fun _ x _ => kk + 1 - (intOf x).toNat)
      case atStart => exact ⟨1, 0, by omega, by omega, rfl, rfl, Drew.refl _, (by show _ = _; rw [Nat.add_sub_cancel])⟩
      case round =>
        obtain ⟨i, y, hi1, hik, rfl, rfl, hdr, hz⟩ := hrel
        obtain ⟨dn, rfl⟩ := hdr
        by_cases hi : i ≤ kk
        · by_cases hl : i < (turnedP m).length
          · have HN := Lib.hid (zSum_step hi hl hz.out)
            obtain ⟨bp, op, xp, rfl, hcp, hgp⟩ := HPo.out.at_ hl
            obtain ⟨q, hq⟩ : ∃ q : Nat, q = kk - i := ⟨_, rfl⟩
            have hql : q < kk := by omega
            have hqw : IntKind.i64.wrap ((kk : Int) - (i : Int)) = (q : Int) := by rw [IntKind.wrap_i64]; omega
            obtain ⟨bv, ov, xv, rfl, hcv, hgv⟩ := HIv.out.at_ hql
            have hql2 : ((q : Nat) : Int) < ((kk : Nat) : Int) := by omega
            have HE : Hid ((turnedP m).getD i 0 = xp ∧ (zRow (turnedP m) k).getD (kk - i) 0 = xv) := ⟨getD_get hgp.out, by rw [← hq]; exact getD_get hgv.out⟩
            have HE2 : Hid (zSum (turnedP m) (zRow (turnedP m) k) kk (kk + 1 - (i + 1)) (i + 1) (wrap64 (y - wrap64 (xp * xv))) = zSum (turnedP m) (zRow (turnedP m) k) kk kk 1 0) := by
              have h1 := HN.out
              rw [HE.out.1, HE.out.2] at h1
              exact h1
            clear hz HN hgp hgv HE hq
            go_wp2_with fail
            go_quiet (fail)
            go_wp2_with fail
            go_roundw
            case rel => exact ⟨i + 1, _, by omega, by omega, by go_num, rfl, ⟨_, rfl⟩, HE2.out⟩
            case measure => (simp [intOf] <;> omega)
          · have HN := Lib.hid (zSum_end (fun e => hl e.2) hz.out)
            clear hz
            go_wp2_with (at_builtin; refine wpList_push_one _ _ rfl _ _ rfl w1.heap.size _ _ _ rfl (HO.out.drewN dn) (by omega) HB.out.size _ rfl rfl ?_; intro v1 w3 ho1 hb3; have Ho1 := Lib.hid ho1; have Hb3 := Lib.hid hb3; clear ho1 hb3)
            go_roundw
            case rel => exact ⟨kk, by omega, by go_num, by have h9 := Ho1.out; rw [HN.out, HKK.out, zRow_push] at h9; rw [HKK.out]; exact h9, (below_drewN HB.out dn).trans Hb3.out⟩
            case measure => (simp [intOf] <;> omega)
        · have HN := Lib.hid (zSum_end (fun e => hi e.1) hz.out)
          clear hz
          go_wp2_with (at_builtin; refine wpList_push_one _ _ rfl _ _ rfl w1.heap.size _ _ _ rfl (HO.out.drewN dn) (by omega) HB.out.size _ rfl rfl ?_; intro v1 w3 ho1 hb3; have Ho1 := Lib.hid ho1; have Hb3 := Lib.hid hb3; clear ho1 hb3)
          go_roundw
          case rel => exact ⟨kk, by omega, by go_num, by have h9 := Ho1.out; rw [HN.out, HKK.out, zRow_push] at h9; rw [HKK.out]; exact h9, (below_drewN HB.out dn).trans Hb3.out⟩
          case measure => (simp [intOf] <;> omega)
    · have hkn2 : k = n0 := by have := HKK.out; omega
      subst hkn2
      go_wp2_with fail
      go_ret
      rw [HG.out, zRow_len, ← HKK.out]
      exact ⟨_, rfl, HO.out.mono HB1.out.size, step2 HB1.out HB.out⟩
end Go.Proofs.YtbjoblgklcilpaaGreat
