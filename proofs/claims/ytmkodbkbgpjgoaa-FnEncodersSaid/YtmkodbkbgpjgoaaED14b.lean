/- D14b: a part of the proofs of this seat. -/
import Derived.BigQuiet
import Derived.Deep.RegionLaw
import Derived.Test.YtmkodbkbgpjgoaaProg
import Derived.Test.YtmkodbkbgpjgoaaED14
namespace Go.Proofs.Ytmkodbkbgpjgoaa
open Go.RowKit
set_option linter.all false
set_option maxRecDepth 20000 in
set_option maxHeartbeats 12800000 in
theorem l14Bent_any (b lo : Nat) (w : World) (h : Cur w b lo) :
    Calls Try.prog 37 #[.pointer (some ⟨b, 0, none⟩)] w fun e w' => labD 101 b lo w w' e := by
  have hbl := h.lt.2
  have HZ1 := Lib.hid (Blk.new w 26 #[.int .i64 0, .int .i64 0, .slice none 0 0])
  have H1 := Lib.hid (h.keep (belowA w (.cells #[.int .i64 0, .int .i64 0, .slice none 0 0] 26)))
  have HG1 := Lib.hid (grown_alloc w (.cells #[.int .i64 0, .int .i64 0, .slice none 0 0] 26) (some b))
  have hne : some w.heap.size ≠ some b := some_ne (by omega)
  have HNE := Lib.hid hne
  have HS1 : Hid ((w.alloc (.cells #[.int .i64 0, .int .i64 0, .slice none 0 0] 26)).heap.size = w.heap.size + 1) := by show _ = _; simp
  clear h hne
  go_enter Try.func37, Try.ntmps37
  go_wp2_with fail
  generalize w.alloc (.cells #[.int .i64 0, .int .i64 0, .slice none 0 0] 26) = w1 at HZ1 H1 HG1 HS1 ⊢
  refine (l14Draw_any b lo _ H1.out).mono ?_
  rintro e w2 ⟨L, S, v2, xs, rfl, ho2, hx2, hc2, hg2⟩
  obtain ⟨a2, c2, rfl, _⟩ := ho2.form
  rw [HS1.out] at ho2
  have HC3 := Lib.hid (hc2.keep (belowA w2 (.cells #[.int .i64 L, .int .i64 S, .slice a2 xs.length c2] 26)))
  have HG3 := Lib.hid ((HG1.out.trans hg2).trans (grown_alloc w2 (.cells #[.int .i64 L, .int .i64 S, .slice a2 xs.length c2] 26) (some b)))
  have HZ3 := Lib.hid ((HZ1.out.grown hg2 HNE.out).alloc (.cells #[.int .i64 L, .int .i64 S, .slice a2 xs.length c2] 26))
  have hlr : w.heap.size < w2.heap.size := (HZ1.out.grown hg2 HNE.out).lt
  have HR3 : Hid (Gr (w2.alloc (.cells #[.int .i64 L, .int .i64 S, .slice a2 xs.length c2] 26)) (w.heap.size + 1) w2.heap.size L S (.slice a2 xs.length c2) xs) :=
    ⟨Blk.new w2 _ _, ho2.alloc _, arcs_ne ho2 (.inr (Nat.le_refl _)), hlr⟩
  clear ho2 hc2 hg2 HZ1 H1 HG1
  go_wp2_with fail
  generalize w2.alloc (.cells #[.int .i64 L, .int .i64 S, .slice a2 xs.length c2] 26) = w3 at HC3 HG3 HZ3 HR3 ⊢
  generalize w2.heap.size = g3 at hlr HR3 ⊢
  refine (l1Below_any b lo 18 _ HC3.out (by omega) (by omega)).mono ?_
  rintro e w4 ⟨x, hx, rfl, hc4, hg4⟩
  have HC4 := Lib.hid hc4
  have HG4 := Lib.hid (HG3.out.trans hg4)
  have HZ4 := Lib.hid (HZ3.out.grown hg4 HNE.out)
  have HR4 := Lib.hid (HR3.out.away hg4 (by omega))
  clear hc4 hg4 HC3 HG3 HZ3 HR3
  by_cases hx0 : x = 0
  · subst hx0
    have q2 : w4.cell? ⟨g3, 2, none⟩ = some (.slice a2 xs.length c2) := HR4.out.kb.c2
    go_wp2_with fail
    go_region_law (first
      | (refine step_of_wp rfl (wp_push_arc wy ((p : Int), 0, (z : Int)) (.tmp 11) (.tmp 18) rfl (w.heap.size + 1) (.slice a2 xs.length c2) xs.length xs rfl (by exact HRy.out.o) (by omega) (by exact HLy.out) _ rfl rfl ?_); intro v9 w9 ho hg hn; have hk := HRy.out.grownB hg; have q9 := hk.c2; have f9 := hk.frozen 2; have HR9 := Lib.hid (HRy.out.pushed ho rfl hg hn); have hb9 := HRy.out.belowP (Below.refl (w.heap.size + 1) wy) hg (by exact HLy.out) (Nat.le_refl _) v9; have HZ9 := Lib.hid (HZy.out.below hb9 (Nat.lt_succ_self _)); have HC9 := Lib.hid (HCy.out.below hb9 (by omega)); have HG9 := Lib.hid (grown_belowB HGy.out hb9 (Nat.le_succ _)); obtain ⟨a9, c9, rfl, _⟩ := ho.form; clear ho hg hn hk hb9)
      | (go_simp; go_at_call 28; refine (l1Below_any b lo 3 _ HCx.out (by omega) (by omega)).mono ?_; rintro e wy ⟨z, hz, rfl, hcy, hgy⟩; have HCy := Lib.hid hcy; have HGy := Lib.hid (HGx.out.trans hgy); have HZy := Lib.hid (HZx.out.grown hgy HNE.out); have HRy := Lib.hid (HRx.out.away hgy (by omega)); have HLy : Hid (w.heap.size + 1 ≤ wy.heap.size) := HZy.out.lt; have qy := HRy.out.kb.c2; have qz : (wy.alloc (.cells #[.int .i64 p, .int .i64 0, .int .i64 z] 55)).cell? ⟨g3, 2, none⟩ = some (.slice a2 xs.length c2) := (HRy.out.kb.alloc _).c2; clear hcy hgy hz)
      | (go_simp; go_at_call 28; refine (l1Below_any b lo 4 _ (HC4.out.drewN 1) (by omega) (by omega)).mono ?_; rintro e wx ⟨y, hy, rfl, hcx, hgx⟩; have hgx' : w4.grownBy wx (some b) := (grown_drewN (World.grownBy.refl w4 _) 1).trans hgx; obtain ⟨p, hp⟩ : ∃ p : Int, IntKind.i64.wrap ((y : Int) - 1) = p := ⟨_, rfl⟩; have HCx := Lib.hid hcx; have HGx := Lib.hid (HG4.out.trans hgx'); have HZx := Lib.hid (HZ4.out.grown hgx' HNE.out); have HRx := Lib.hid (HR4.out.away hgx' (by omega)); have qx := HRx.out.kb.c2; clear hcx hgx hgx' hy))
    all_goals
      have k0 := HR9.out.kb.c0
      have k1 := HR9.out.kb.c1
      have k2 := HR9.out.kb.c2
      have z0 := HZ9.out.c0
      have z1 := HZ9.out.c1
      have z2 := HZ9.out.c2
      have f0 := HZ9.out.frozen 0
      have f1 := HZ9.out.frozen 1
      have f2 := HZ9.out.frozen 2
      have HO9 : Hid (OArcs (w9.setCell ⟨g3, 2, none⟩ (.slice a9 (xs.length + 1) c9)) (w.heap.size + 1) (.slice a9 (xs.length + 1) c9) (xs ++ [((p : Int), 0, (z : Int))]).length (xs ++ [((p : Int), 0, (z : Int))])) := HR9.out.o
      clear q9 f9 q2
      go_wp2_with fail
      refine bodyPost_ret (v := .agg #[.int .i64 L, .int .i64 S, .slice a9 (xs.length + 1) c9]) (by simp [results, Try.results37, go_sem, *]) rfl ?_
      exact lab_put hbl HO9.out (by simp; omega) HC9.out HG9.out _ _ _
  have d0 : ((x : Int) == 0) = false := beq_eq_false_iff_ne.2 (by omega)
  by_cases hx1 : x = 1
  · subst hx1
    have hbl4 := HC4.out.lt.2
    go_wp2_with (go_at_call 52; refine (l1PickInt_any b lo w4.heap.size 4 4 _ [0, 4, 1, 3] _ (HC4.out.keep ((Below.refl _ _).alloc (Nat.le_refl _) _)) (OInts.lit_ (Nat.le_refl _) rfl rfl (by omega)) hbl4 (by omega) (by omega)).mono ?_; rintro e w5 ⟨d, hd, rfl, hc5, hg5⟩; have hg5' := (grown_alloc w4 (.cells #[.int .i64 0, .int .i64 4, .int .i64 1, .int .i64 3] 3) (some b)).trans hg5; have HR5 := Lib.hid (HR4.out.away hg5' (by omega)); have HZ5 := Lib.hid (HZ4.out.grown hg5' HNE.out); have HC5 := Lib.hid (hc5.put (p := ⟨g3, 0, none⟩) (by show b < g3; omega) (.int .i64 d)); have HG5 := Lib.hid (grown_new (HG4.out.trans hg5') (p := ⟨g3, 0, none⟩) (by show w.heap.size ≤ g3; omega) (.int .i64 d)); have q0 := HR5.out.kb.c0; have g0 := HR5.out.kb.frozen 0; have HB6 : Hid (Blk (w5.setCell ⟨g3, 0, none⟩ (.int .i64 d)) g3 26 #[.int .i64 d, .int .i64 S, .slice a2 xs.length c2]) := HR5.out.kb.set 0 _; have HO6 := Lib.hid (HR5.out.o.setFar (p := ⟨g3, 0, none⟩) HR5.out.nb (.int .i64 d)); have HZ6 := Lib.hid (HZ5.out.other (p := ⟨g3, 0, none⟩) (by show w.heap.size ≠ g3; omega) (.int .i64 d)); have k0 := HB6.out.c0; have k1 := HB6.out.c1; have k2 := HB6.out.c2; have z0 := HZ6.out.c0; have z1 := HZ6.out.c1; have z2 := HZ6.out.c2; have f0 := HZ6.out.frozen 0; have f1 := HZ6.out.frozen 1; have f2 := HZ6.out.frozen 2; clear hc5 hg5 hg5' hd)
    refine bodyPost_ret (v := .agg #[.int .i64 d, .int .i64 S, .slice a2 xs.length c2]) (by simp [results, Try.results37, go_sem, *]) rfl ?_
    exact lab_put hbl HO6.out (by omega) HC5.out HG5.out _ _ _
  · have d1 : ((x : Int) == 1) = false := beq_eq_false_iff_ne.2 (by omega)
    have k0 := HR4.out.kb.c0
    have k1 := HR4.out.kb.c1
    have k2 := HR4.out.kb.c2
    have z0 := HZ4.out.c0
    have z1 := HZ4.out.c1
    have z2 := HZ4.out.c2
    have f0 := HZ4.out.frozen 0
    have f1 := HZ4.out.frozen 1
    have f2 := HZ4.out.frozen 2
    go_wp2_with fail
    refine bodyPost_ret (v := .agg #[.int .i64 L, .int .i64 S, .slice a2 xs.length c2]) (by simp [results, Try.results37, go_sem, *]) rfl ?_
    exact lab_put hbl HR4.out.o (by omega) HC4.out HG4.out _ _ _
end Go.Proofs.Ytmkodbkbgpjgoaa
