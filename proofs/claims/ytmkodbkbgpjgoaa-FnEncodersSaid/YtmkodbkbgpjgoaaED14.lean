/- D14: a part of the proofs of this seat. -/
import Derived.BigQuiet
import Derived.Deep.RegionLaw
import Derived.Test.YtmkodbkbgpjgoaaProg
import Derived.Test.YtmkodbkbgpjgoaaED3b
import Derived.Test.YtmkodbkbgpjgoaaESLabelsOf
namespace Go.Proofs.Ytmkodbkbgpjgoaa
open Go.RowKit
set_option linter.all false
/- The draws of labelled graphs. -/
def labD (m b lo : Nat) (w w' : World) (e : Ending) : Prop := ∃ (L S : Int) (v : Value) (xs : List Ar), e = .returned (.agg #[.int .i64 L, .int .i64 S, v]) ∧ OArcs w' w.heap.size v xs.length xs ∧ xs.length ≤ m ∧ Cur w' b lo ∧ w.grownBy w' (some b)
theorem OArcs.lit_ (w : World) (lo : Nat) (xs : List Ar) (hlo : lo ≤ w.heap.size) (hn : xs.length ≤ 1000) : OArcs (w.alloc (.cells (arCells xs).toArray 55)) lo (.slice (some ⟨w.heap.size, 0, none⟩) xs.length xs.length) xs.length xs := by
  refine ⟨by omega, ?_⟩
  have h := World.ownsRow_lit (base := lo) (e := 55) (size := 3) w (arCells xs).toArray xs.length hlo (by unfold maxLen; omega) (by simp [arCells_len])
  simpa using h
theorem OArcs.away {w w' : World} {lo n b : Nat} {v : Value} {xs : List Ar} (h : OArcs w lo v n xs) (hg : w.grownBy w' (some b)) (hb : b < lo) : OArcs w' lo v n xs := by
  refine h.grown hg ?_
  cases hv : v.ownBlock with
  | none => exact .inl rfl
  | some g => right; intro e; injection e with e; have := h.ownlt g hv; omega
theorem arcs_ne {w : World} {lo n g : Nat} {v : Value} {xs : List Ar} (h : OArcs w lo v n xs) (hg : g < lo ∨ w.heap.size ≤ g) : v.ownBlock ≠ some g := fun e => by
  have := h.ownlt g e
  omega
theorem OArcs.empty2 {w w' : World} {o : Obj} {b : Nat} (hg : ((w.alloc o).alloc (.cells #[] 55)).grownBy w' (some b)) (hb : b < w.heap.size + 1) : OArcs w' (w.heap.size + 1) (.slice (some ⟨w.heap.size + 1, 0, none⟩) 0 0) 0 [] := by
  have h := OArcs.empty (w.alloc o) (w.alloc o).heap.size (Nat.le_refl _)
  rw [show (w.alloc o).heap.size = w.heap.size + 1 by simp] at h
  exact h.away hg hb
theorem arcs_below {w w' : World} {lo n : Nat} {v : Value} {xs : List Ar} (h : OArcs w lo v n xs) (hg : w.grownBy w' v.ownBlock) (hlo : lo ≤ w.heap.size) : Below lo w w' :=
  (Below.refl lo w).grown hg hlo (fun b hb => (h.ownlt b hb).1)
theorem Gr.away {w w' : World} {lo b g : Nat} {L S : Int} {v : Value} {xs : List Ar} (h : Gr w lo g L S v xs) (hg : w.grownBy w' (some b)) (hb : b < lo) : Gr w' lo g L S v xs :=
  ⟨h.kb.grown hg (some_ne (by have := h.lb; omega)), h.o.away hg hb, h.nb, h.lb⟩
/-- What the draws put into the result's block. -/
theorem lab_put {m b lo : Nat} {w W : World} {L S : Int} {v : Value} {xs : List Ar} (hb : b < w.heap.size) (ho : OArcs W (w.heap.size + 1) v xs.length xs) (hx : xs.length ≤ m) (hc : Cur W b lo) (hg : w.grownBy W (some b)) (u0 u1 u2 : Value) :
    labD m b lo w (((W.setCell ⟨w.heap.size, 0, none⟩ u0).setCell ⟨w.heap.size, 1, none⟩ u1).setCell ⟨w.heap.size, 2, none⟩ u2) (.returned (.agg #[.int .i64 L, .int .i64 S, v])) := by
  have hne := arcs_ne ho (.inl (Nat.lt_succ_self _))
  refine ⟨L, S, v, xs, rfl, (((ho.mono (Nat.le_succ _)).setFar hne _).setFar hne _).setFar hne _, hx, ?_, ?_⟩
  · exact ((hc.put (p := ⟨w.heap.size, 0, none⟩) hb _).put (p := ⟨w.heap.size, 1, none⟩) hb _).put (p := ⟨w.heap.size, 2, none⟩) hb _
  · exact grown_new (grown_new (grown_new hg (p := ⟨w.heap.size, 0, none⟩) (Nat.le_refl _) _) (p := ⟨w.heap.size, 1, none⟩) (Nat.le_refl _) _) (p := ⟨w.heap.size, 2, none⟩) (Nat.le_refl _) _
set_option maxRecDepth 20000 in
set_option maxHeartbeats 12800000 in
theorem l14Draw_any (b lo : Nat) (w : World) (h : Cur w b lo) :
    Calls Try.prog 51 #[.pointer (some ⟨b, 0, none⟩)] w fun e w' => labD 100 b lo w w' e := by
  have hbl := h.lt.2
  have HZ1 := Lib.hid (Blk.new w 26 #[.int .i64 0, .int .i64 0, .slice none 0 0])
  have H1 := Lib.hid (h.keep (belowA w (.cells #[.int .i64 0, .int .i64 0, .slice none 0 0] 26)))
  have HG1 := Lib.hid (grown_alloc w (.cells #[.int .i64 0, .int .i64 0, .slice none 0 0] 26) (some b))
  have hne : some w.heap.size ≠ some b := some_ne (by omega)
  have HNE := Lib.hid hne
  clear h hne
  go_enter Try.func51, Try.ntmps51
  go_wp2_with fail
  generalize w.alloc (.cells #[.int .i64 0, .int .i64 0, .slice none 0 0] 26) = w1 at HZ1 H1 HG1 ⊢
  refine (l1Once_any b lo 4 _ H1.out (by omega) (by omega)).mono ?_
  rintro e w2 ⟨t, rfl, hc2, hg2⟩
  have HC2 := Lib.hid hc2
  have HG2 := Lib.hid (HG1.out.trans hg2)
  have HZ2 := Lib.hid (HZ1.out.grown hg2 HNE.out)
  clear hc2 hg2 HZ1 H1 HG1
  go_upto_if 9 with fail
  go_cut [3, 4] (fun s3 s4 wx => Cur wx b lo ∧ w.grownBy wx (some b) ∧ Blk wx w.heap.size 26 #[.int .i64 0, .int .i64 0, .slice none 0 0])
  case first =>
    cases t
    · go_wp2_with fail
      go_meet
      exact ⟨HC2.out, HG2.out, HZ2.out⟩
    · go_wp2_with fail
      refine (l3Draw_any b lo _ HC2.out).mono ?_
      rintro e w3 ⟨K, v3, F, rfl, ho3, hF, hc3, hg3⟩
      obtain ⟨a3, c3, rfl, _⟩ := ho3.form
      have HC3 := Lib.hid hc3
      have HG3 := Lib.hid (HG2.out.trans hg3)
      have HZ3 := Lib.hid (HZ2.out.grown hg3 HNE.out)
      have HO3 := Lib.hid ho3.read
      have HFS : Hid (∀ f ∈ F, f.size ≤ 1048576) := fun f hf => by have := hF.1 f hf; omega
      clear hc3 hg3 ho3 hF HC2 HG2 HZ2
      go_wp2_with fail
      refine (sLabelsOf_any K a3 F.length c3 F _ HO3.out HFS.out).mono ?_
      rintro e w4 ⟨L, S, v4, xs, ok, rfl, ho4, hx4, hb4⟩
      obtain ⟨a4, c4, rfl, _⟩ := ho4.form
      have HC4 := Lib.hid ((HC3.out.keep hb4).keep (belowA w4 (.cells #[.int .i64 L, .int .i64 S, .slice a4 xs.length c4] 26)))
      have HG4 := Lib.hid ((HG3.out.trans (grown_of_below hb4)).trans (grown_alloc w4 (.cells #[.int .i64 L, .int .i64 S, .slice a4 xs.length c4] 26) (some b)))
      have HZ4 := Lib.hid ((HZ3.out.keep hb4).alloc (.cells #[.int .i64 L, .int .i64 S, .slice a4 xs.length c4] 26))
      have HO4 := Lib.hid ((ho4.alloc (.cells #[.int .i64 L, .int .i64 S, .slice a4 xs.length c4] 26)).mono (show w.heap.size + 1 ≤ w3.heap.size from HZ3.out.lt))
      have HX4 := Lib.hid (Blk.new w4 26 #[.int .i64 L, .int .i64 S, .slice a4 xs.length c4])
      clear ho4 hb4 HC3 HG3 HZ3 HO3
      cases ok
      · go_wp2_with fail
        go_meet
        exact ⟨HC4.out, HG4.out, HZ4.out⟩
      · have k0 := HX4.out.c0
        have k1 := HX4.out.c1
        have k2 := HX4.out.c2
        by_cases hS : S ≤ 4
        · have dS : decide (S ≤ 4) = true := decide_eq_true hS
          have z0 := HZ4.out.c0
          have z1 := HZ4.out.c1
          have z2 := HZ4.out.c2
          have f0 := HZ4.out.frozen 0
          have f1 := HZ4.out.frozen 1
          have f2 := HZ4.out.frozen 2
          clear hS
          go_wp2_with fail
          refine bodyPost_ret (v := .agg #[.int .i64 L, .int .i64 S, .slice a4 xs.length c4]) (by simp [results, Try.results51, go_sem, *]) rfl ?_
          exact lab_put hbl HO4.out (by omega) HC4.out HG4.out _ _ _
        · have dS : decide (S ≤ 4) = false := decide_eq_false hS
          clear hS
          go_wp2_with fail
          go_meet
          exact ⟨HC4.out, HG4.out, HZ4.out⟩
  case rest =>
  obtain ⟨hc5, hg5, hz5⟩ := hcut
  have HC5 := Lib.hid hc5
  have HG5 := Lib.hid hg5
  have HZ5 := Lib.hid hz5
  clear hc5 hg5 hz5 HC2 HG2 HZ2
  go_wp2_with fail
  refine (l1Once_any b lo 4 _ HC5.out (by omega) (by omega)).mono ?_
  rintro e w6 ⟨t, rfl, hc6, hg6⟩
  have HC6 := Lib.hid hc6
  have HG6 := Lib.hid (HG5.out.trans hg6)
  have HZ6 := Lib.hid (HZ5.out.grown hg6 HNE.out)
  clear hc6 hg6 HC5 HG5 HZ5
  cases t
  · have HX := Lib.hid (fun (k : Nat) (W : World) => Blk.new W 26 #[.int .i64 2, .int .i64 k, .slice none 0 0])
    go_wp2_with (first
      | (go_at_call 28; refine (l1Below_any b lo 8 _ ((HC7.out.keep (belowA w7 _)).keep (belowA _ _)) (by omega) (by omega)).mono ?_; rintro e w8 ⟨n, hn, rfl, hc8, hg8⟩; have HC8 := Lib.hid hc8; have HO8 := Lib.hid (OArcs.empty2 hg8 (by omega)); have HX8 := Lib.hid (((HX.out k w7).alloc _).grown hg8 HNE7.out); have HZ8 := Lib.hid (((HZ7.out.alloc _).alloc _).grown hg8 HNE.out); have HG8 := Lib.hid (((HG7.out.trans (grown_alloc w7 _ (some b))).trans (grown_alloc _ _ (some b))).trans hg8); clear hc8 hg8)
      | (go_at_call 28; refine (l1Below_any b lo 4 _ HC6.out (by omega) (by omega)).mono ?_; rintro e w7 ⟨d, hd, rfl, hc7, hg7⟩; obtain ⟨k, hk⟩ : ∃ k : Nat, 1 + (d : Int) = k := ⟨d + 1, (by omega)⟩; have hk1 : 1 ≤ k := (by omega); have hk4 : k ≤ 4 := (by omega); have HC7 := Lib.hid hc7; have HG7 := Lib.hid (HG6.out.trans hg7); have HZ7 := Lib.hid (HZ6.out.grown hg7 HNE.out); have hbl7 := hc7.lt.2; have hlr7 : w.heap.size < w7.heap.size := HZ7.out.lt; have HNE7 := Lib.hid (some_ne (a := w7.heap.size) (b := b) (by omega)); clear hc7 hg7))
    clear hk HC6 HG6 HZ6 HC7 HG7 HZ7 HX
    go_loopw [6, 7] (fun v x wr => ∃ (i : Nat) (xs : List Ar), i + xs.length ≤ 8 ∧ x = .int .i64 i ∧ OArcs wr (w7.heap.size + 1) v xs.length xs ∧ Blk wr w7.heap.size 26 #[.int .i64 2, .int .i64 k, .slice none 0 0] ∧ Blk wr w.heap.size 26 #[.int .i64 0, .int .i64 0, .slice none 0 0] ∧ Cur wr b lo ∧ w.grownBy wr (some b)) (fun _ x _ => (intOf x).toNat)
    case atStart => exact ⟨n, [], by simp; omega, rfl, HO8.out, HX8.out, HZ8.out, HC8.out, HG8.out⟩
    case round =>
      obtain ⟨i, xs, hil, rfl, hown, hx, hz, hcu, hgr⟩ := hrel
      obtain ⟨av, cv, rfl, _⟩ := hown.form
      have HX := Lib.hid hx
      have HO := Lib.hid hown
      have HZ := Lib.hid hz
      have HC := Lib.hid hcu
      have HG := Lib.hid hgr
      clear hx hown hz hcu hgr HO8 HX8 HZ8 HC8 HG8
      by_cases hi0 : 0 < i
      · obtain ⟨wo, rfl⟩ : ∃ wo : World, wo = wr := ⟨_, rfl⟩
        have k0 : wo.cell? ⟨w7.heap.size, 1, none⟩ = some (.int .i64 k) := HX.out.c1
        go_wp2_with fail
        go_region_law (first
          | (refine step_of_wp rfl (wp_push_arc wz ((x : Int), (y : Int), (z : Int)) (.tmp 41) (.tmp 53) rfl (w7.heap.size + 1) (.slice av xs.length cv) xs.length xs rfl (by exact HOz.out) (by omega) (by exact HLz.out) _ rfl rfl ?_); intro v9 w9 ho hg hn; have hb9 := arcs_below HOz.out hg HLz.out; have HO9 := Lib.hid ho; have HX9 := Lib.hid (HXz.out.below hb9 (Nat.lt_succ_self _)); have HZ9 := Lib.hid (HZz.out.below hb9 (by omega)); have HC9 := Lib.hid (HCz.out.below hb9 (by omega)); have HG9 := Lib.hid (grown_belowB HGz.out hb9 (by omega)); clear ho hg hn hb9)
          | (go_simp; go_at_call 28; refine (l1Below_any b lo 2 _ HCy.out (by omega) (by omega)).mono ?_; rintro e wz ⟨z, hz, rfl, hcz, hgz⟩; have HCz := Lib.hid hcz; have HGz := Lib.hid (HGy.out.trans hgz); have HXz := Lib.hid (HXy.out.grown hgz HNE7.out); have HZz := Lib.hid (HZy.out.grown hgz HNE.out); have HOz := Lib.hid (HOy.out.away hgz (by omega)); have HLz : Hid (w7.heap.size + 1 ≤ wz.heap.size) := HXz.out.lt; clear hcz hgz hz)
          | (go_simp; go_at_call 28; refine (l1Below_any b lo k _ HCx.out hk1 (by omega)).mono ?_; rintro e wy ⟨y, hy, rfl, hcy, hgy⟩; have HCy := Lib.hid hcy; have HGy := Lib.hid (HGx.out.trans hgy); have HXy := Lib.hid (HXx.out.grown hgy HNE7.out); have HZy := Lib.hid (HZx.out.grown hgy HNE.out); have HOy := Lib.hid (HOx.out.away hgy (by omega)); clear hcy hgy hy)
          | (go_simp; go_at_call 28; refine (l1Below_any b lo k _ (HC.out.drewN 1) hk1 (by omega)).mono ?_; rintro e wx ⟨x, hx, rfl, hcx, hgx⟩; have hgx' : wo.grownBy wx (some b) := (grown_drewN (World.grownBy.refl wo _) 1).trans hgx; have HCx := Lib.hid hcx; have HGx := Lib.hid (HG.out.trans hgx'); have HXx := Lib.hid (HX.out.grown hgx' HNE7.out); have HZx := Lib.hid (HZ.out.grown hgx' HNE.out); have HOx := Lib.hid (HO.out.away hgx' (by omega)); have kx := HXx.out.c1; clear hcx hgx hgx' hx))
        all_goals
          go_wp2_with fail
          go_roundw
        all_goals first
          | exact ⟨i - 1, xs ++ [((x : Int), (y : Int), (z : Int))], by simp; omega, by go_num, by simpa using HO9.out, HX9.out, HZ9.out, HC9.out, HG9.out⟩
          | (simp [intOf] <;> omega)
      · have hxm : xs.length ≤ 8 := by omega
        have HLs : Hid (w7.heap.size + 1 ≤ wr.heap.size) := HX.out.lt
        go_wp2_with fail
        refine (sSort_any _ _ _ xs _ HO.out.read (by omega)).mono ?_
        rintro e w6 ⟨v6, rfl, ho6, hb6⟩
        have hl6 := sortS_len xs
        generalize sortS xs = ys at hl6 ho6
        obtain ⟨a6, c6, rfl, _⟩ := ho6.form
        have HX6 := Lib.hid (HX.out.keep hb6)
        have q2 := HX6.out.c2
        have f2 := HX6.out.frozen 2
        have HO6 := Lib.hid (ho6.mono (show w.heap.size + 1 ≤ wr.heap.size from HZ.out.lt))
        have HNX : Hid ((Value.slice a6 ys.length c6).ownBlock ≠ some w7.heap.size) := arcs_ne ho6 (.inl (show w7.heap.size < wr.heap.size from HX.out.lt))
        have HX7 : Hid (Blk (w6.setCell ⟨w7.heap.size, 2, none⟩ (.slice a6 ys.length c6)) w7.heap.size 26 #[.int .i64 2, .int .i64 k, .slice a6 ys.length c6]) := HX6.out.set 2 _
        have HO7 := Lib.hid (HO6.out.setFar (p := ⟨w7.heap.size, 2, none⟩) HNX.out (.slice a6 ys.length c6))
        have HZ7 := Lib.hid ((HZ.out.keep hb6).other (p := ⟨w7.heap.size, 2, none⟩) (by show w.heap.size ≠ w7.heap.size; omega) (.slice a6 ys.length c6))
        have HC7 := Lib.hid ((HC.out.keep hb6).put (p := ⟨w7.heap.size, 2, none⟩) (by show b < w7.heap.size; omega) (.slice a6 ys.length c6))
        have HG7 := Lib.hid (grown_new (HG.out.trans (grown_of_below hb6)) (p := ⟨w7.heap.size, 2, none⟩) (by show w.heap.size ≤ w7.heap.size; omega) (.slice a6 ys.length c6))
        have k0 := HX7.out.c0
        have k1 := HX7.out.c1
        have k2 := HX7.out.c2
        have z0 := HZ7.out.c0
        have z1 := HZ7.out.c1
        have z2 := HZ7.out.c2
        have f0 := HZ7.out.frozen 0
        have f1 := HZ7.out.frozen 1
        have f2' := HZ7.out.frozen 2
        clear ho6 hb6
        go_wp2_with fail
        refine bodyPost_ret (v := .agg #[.int .i64 2, .int .i64 k, .slice a6 ys.length c6]) (by simp [results, Try.results51, go_sem, *]) rfl ?_
        exact lab_put hbl HO7.out (by omega) HC7.out HG7.out _ _ _
  · have HL := Lib.hid (OArcs.lit_ w6 (w.heap.size + 1) [(0, 0, 0), (0, 1, 1), (1, 0, 1)] HZ6.out.lt (by simp))
    have HZ7 := Lib.hid (HZ6.out.alloc (.cells (arCells [(0, 0, 0), (0, 1, 1), (1, 0, 1)]).toArray 55))
    have HC7 := Lib.hid (HC6.out.keep (belowA w6 (.cells (arCells [(0, 0, 0), (0, 1, 1), (1, 0, 1)]).toArray 55)))
    have HG7 := Lib.hid (HG6.out.trans (grown_alloc w6 (.cells (arCells [(0, 0, 0), (0, 1, 1), (1, 0, 1)]).toArray 55) (some b)))
    have e : (arCells [(0, 0, 0), (0, 1, 1), (1, 0, 1)]).toArray = #[.int .i64 0, .int .i64 0, .int .i64 0, .int .i64 0, .int .i64 1, .int .i64 1, .int .i64 1, .int .i64 0, .int .i64 1] := rfl
    rw [e] at HL HZ7 HC7 HG7
    have z0 := HZ7.out.c0
    have z1 := HZ7.out.c1
    have z2 := HZ7.out.c2
    have f0 := HZ7.out.frozen 0
    have f1 := HZ7.out.frozen 1
    have f2 := HZ7.out.frozen 2
    clear e
    go_wp2_with fail
    refine bodyPost_ret (v := .agg #[.int .i64 2, .int .i64 2, .slice (some ⟨w6.heap.size, 0, none⟩) 3 3]) (by simp [results, Try.results51, go_sem, *]) rfl ?_
    exact lab_put hbl HL.out (by simp) HC7.out HG7.out _ _ _
end Go.Proofs.Ytmkodbkbgpjgoaa
