/- D27c: a part of the proofs of this seat. -/
import Derived.BigQuiet
import Derived.Deep.RegionLaw
import Derived.Test.YtmkodbkbgpjgoaaProg
import Derived.Test.YtmkodbkbgpjgoaaED27b
namespace Go.Proofs.Ytmkodbkbgpjgoaa
open Go.RowKit
set_option linter.all false
theorem OArcs.awayFrom {w w' : World} {lo n b : Nat} {v : Value} {xs : List Ar} (h : OArcs w lo v n xs) (hg : w.grownBy w' (some b)) (hb : v.ownBlock ≠ some b) : OArcs w' lo v n xs := h.grown hg (.inr hb)
set_option maxRecDepth 20000 in
set_option maxHeartbeats 6400000 in
theorem drawDec_any (ao : Option Addr) (n c : Nat) (w : World) (h : Bytes w ao n) :
    Calls Try.prog 8 #[.slice ao n c] w fun e w' => encD w w' e := by
  have HZ1 := Lib.hid (Blk.new w 26 #[.int .i64 0, .int .i64 0, .slice none 0 0])
  have HB1 := Lib.hid (belowA w (.cells #[.int .i64 0, .int .i64 0, .slice none 0 0] 26))
  have H1 := Lib.hid (h.keep HB1.out)
  have HS1 : Hid ((w.alloc (.cells #[.int .i64 0, .int .i64 0, .slice none 0 0] 26)).heap.size = w.heap.size + 1) := by show _ = _; simp
  clear h
  go_enter Try.func8, Try.ntmps8
  go_wp2_with fail
  generalize w.alloc (.cells #[.int .i64 0, .int .i64 0, .slice none 0 0] 26) = w1 at HZ1 HB1 H1 HS1 ⊢
  refine (drawEnc_any ao n c _ H1.out).mono ?_
  rintro e w2 ⟨L, S, v2, xs, p, s, rfl, ho2, hx2, hs2, hb2⟩
  obtain ⟨a2, c2, rfl, _⟩ := ho2.form
  rw [HS1.out] at ho2
  have hss : s.size ≤ 1048576 := by omega
  have HB2 := Lib.hid ((HB1.out.trans (hb2.mono HB1.out.size)).trans ((belowA w2 (.cells #[.int .i64 L, .int .i64 S, .slice a2 xs.length c2] 26)).mono (Nat.le_trans HB1.out.size hb2.size)))
  have HZ2 := Lib.hid ((HZ1.out.keep hb2).alloc (.cells #[.int .i64 L, .int .i64 S, .slice a2 xs.length c2] 26))
  have HX2 := Lib.hid (Blk.new w2 26 #[.int .i64 L, .int .i64 S, .slice a2 xs.length c2])
  have HO2 := Lib.hid (ho2.alloc (.cells #[.int .i64 L, .int .i64 S, .slice a2 xs.length c2] 26))
  have H2 := Lib.hid ((H1.out.keep hb2).keep (belowA w2 (.cells #[.int .i64 L, .int .i64 S, .slice a2 xs.length c2] 26)))
  clear ho2 hb2 H1 HZ1 HB1
  go_wp2_with fail
  generalize w2.alloc (.cells #[.int .i64 L, .int .i64 S, .slice a2 xs.length c2] 26) = w3 at HB2 HZ2 HX2 HO2 H2 ⊢
  generalize w2.heap.size = g5 at HX2 ⊢
  refine (l1New_any ao n c _ H2.out).mono ?_
  rintro e w4 ⟨rfl, hc4, hb4⟩
  have hl5 : g5 < w3.heap.size := HX2.out.lt
  have hlz : w.heap.size < w3.heap.size := HZ2.out.lt
  have HNO : Hid ((Value.slice a2 xs.length c2).ownBlock ≠ some w3.heap.size) := arcs_ne HO2.out (.inr (Nat.le_refl _))
  have HB4 := Lib.hid (HB2.out.trans (hb4.mono HB2.out.size))
  have HZ4 := Lib.hid (HZ2.out.keep hb4)
  have HX4 := Lib.hid (HX2.out.keep hb4)
  have HO4 := Lib.hid (HO2.out.keep hb4)
  generalize w3.heap.size = b at hl5 hlz HNO hc4 ⊢
  have HC4 := Lib.hid hc4
  have HNE : Hid (some w.heap.size ≠ some b) := some_ne (by omega)
  have HNE5 : Hid (some g5 ≠ some b) := some_ne (by omega)
  have k0 := HX4.out.c0
  have k1 := HX4.out.c1
  have k2 := HX4.out.c2
  have HE := sEncodeBits_any L S a2 xs.length c2 xs p s w4 HO4.out.read hss
  have hes := encS_size L S xs p s
  have hws : (encS L S xs p s).size ≤ 20 := by omega
  generalize encOk L S xs p s = ok at HE
  generalize encS L S xs p s = ws at HE hws
  generalize encQ L S xs p s = qq at HE
  have HE := Lib.hid HE
  clear hc4 hb4 hes HB2 HZ2 HX2 HO2 H2
  go_wp2_with fail
  refine HE.out.mono ?_
  rintro e wo ⟨rfl, hb5⟩
  have HB5 := Lib.hid (HB4.out.trans (hb5.mono HB4.out.size))
  have HZ5 := Lib.hid (HZ4.out.keep hb5)
  have HX5 := Lib.hid (HX4.out.keep hb5)
  have HO5 := Lib.hid (HO4.out.keep hb5)
  have HC5 := Lib.hid (HC4.out.keep hb5)
  clear hb5 k0 k1 k2 HB4 HZ4 HX4 HO4 HC4
  cases ok
  · go_wp2_with fail
    have kk0 := HX5.out.c0
    have kk1 := HX5.out.c1
    have kk2 := HX5.out.c2
    go_region_with (go_at_call 31; refine (l2Draw_35 b b _ (HC5.out.drewN 1)).mono ?_; rintro e wz ⟨s5, hs5, rfl, hcz, hgz⟩; have hgz' : wo.grownBy wz (some b) := (grown_drewN (World.grownBy.refl wo _) 1).trans hgz; have HGz := Lib.hid (HB5.out.trans (below_of_grown hgz' (by omega) HB5.out.size)); have HXz := Lib.hid (HX5.out.grown hgz' HNE5.out); have HZz := Lib.hid (HZ5.out.grown hgz' HNE.out); have HOz := Lib.hid (HO5.out.awayFrom hgz' HNO.out); have kk0 := HXz.out.c0; have kk1 := HXz.out.c1; have kk2 := HXz.out.c2; have z0 := HZz.out.c0; have z1 := HZz.out.c1; have z2 := HZz.out.c2; have f0 := HZz.out.frozen 0; have f1 := HZz.out.frozen 1; have f2 := HZz.out.frozen 2; clear hcz hgz hgz')
    all_goals
      go_wp2_with fail
      refine bodyPost_ret (v := .tuple #[.agg #[.int .i64 L, .int .i64 S, .slice a2 xs.length c2], .int .i64 p, .string s5]) (by simp [results, Try.results8, go_sem, *]) rfl ?_
      exact ⟨L, S, _, xs, p, s5, rfl, arcs_out HOz.out (Nat.lt_succ_self _) _ _ _, hx2, by omega, below_lab HGz.out (Nat.le_refl _) _ _ _⟩
  · go_wp2_with fail
    refine (l1Once_any b b 3 _ HC5.out (by omega) (by omega)).mono ?_
    rintro e w6 ⟨t, rfl, hc6, hg6⟩
    have HB6 := Lib.hid (HB5.out.trans (below_of_grown hg6 (by omega) HB5.out.size))
    have HZ6 := Lib.hid (HZ5.out.grown hg6 HNE.out)
    have HX6 := Lib.hid (HX5.out.grown hg6 HNE5.out)
    have HO6 := Lib.hid (HO5.out.awayFrom hg6 HNO.out)
    have HC6 := Lib.hid hc6
    clear hc6 hg6 HB5 HZ5 HX5 HO5 HC5
    cases t
    · have kk0 := HX6.out.c0
      have kk1 := HX6.out.c1
      have kk2 := HX6.out.c2
      have z0 := HZ6.out.c0
      have z1 := HZ6.out.c1
      have z2 := HZ6.out.c2
      have f0 := HZ6.out.frozen 0
      have f1 := HZ6.out.frozen 1
      have f2 := HZ6.out.frozen 2
      go_wp2_with fail
      refine bodyPost_ret (v := .tuple #[.agg #[.int .i64 L, .int .i64 S, .slice a2 xs.length c2], .int .i64 p, .string ws]) (by simp [results, Try.results8, go_sem, *]) rfl ?_
      exact ⟨L, S, _, xs, p, ws, rfl, arcs_out HO6.out (Nat.lt_succ_self _) _ _ _, hx2, hws, below_lab HB6.out (Nat.le_refl _) _ _ _⟩
    · go_wp2_with fail
      have kk0 := HX6.out.c0
      have kk1 := HX6.out.c1
      have kk2 := HX6.out.c2
      go_region_with (go_at_call 31; refine (l2Draw_35 b b _ (HC6.out.drewN 1)).mono ?_; rintro e wz ⟨s5, hs5, rfl, hcz, hgz⟩; have hgz' : w6.grownBy wz (some b) := (grown_drewN (World.grownBy.refl w6 _) 1).trans hgz; have HGz := Lib.hid (HB6.out.trans (below_of_grown hgz' (by omega) HB6.out.size)); have HXz := Lib.hid (HX6.out.grown hgz' HNE5.out); have HZz := Lib.hid (HZ6.out.grown hgz' HNE.out); have HOz := Lib.hid (HO6.out.awayFrom hgz' HNO.out); have kk0 := HXz.out.c0; have kk1 := HXz.out.c1; have kk2 := HXz.out.c2; have z0 := HZz.out.c0; have z1 := HZz.out.c1; have z2 := HZz.out.c2; have f0 := HZz.out.frozen 0; have f1 := HZz.out.frozen 1; have f2 := HZz.out.frozen 2; clear hcz hgz hgz')
      all_goals
        go_wp2_with fail
        refine bodyPost_ret (v := .tuple #[.agg #[.int .i64 L, .int .i64 S, .slice a2 xs.length c2], .int .i64 p, .string s5]) (by simp [results, Try.results8, go_sem, *]) rfl ?_
        exact ⟨L, S, _, xs, p, s5, rfl, arcs_out HOz.out (Nat.lt_succ_self _) _ _ _, hx2, by omega, below_lab HGz.out (Nat.le_refl _) _ _ _⟩
def spM (r g b : Nat) (w2 wx : World) : Prop := ∃ (L S : Int) (v : Value) (xs : List Ar), xs.length ≤ 101 ∧ Blk wx g 26 #[.int .i64 L, .int .i64 S, v] ∧ OArcs wx w2.heap.size v xs.length xs ∧ Blk wx r 26 #[.int .i64 0, .int .i64 0, .slice none 0 0] ∧ Cur wx b b ∧ w2.grownBy wx (some b)
set_option maxRecDepth 20000 in
set_option maxHeartbeats 6400000 in
theorem drawSpl_any (ao : Option Addr) (n c : Nat) (w : World) (h : Bytes w ao n) :
    Calls Try.prog 14 #[.slice ao n c] w fun e w' => splD w w' e := by
  have HZ1 := Lib.hid (Blk.new w 26 #[.int .i64 0, .int .i64 0, .slice none 0 0])
  have HB1 := Lib.hid (belowA w (.cells #[.int .i64 0, .int .i64 0, .slice none 0 0] 26))
  have H1 := Lib.hid (h.keep HB1.out)
  clear h
  go_enter Try.func14, Try.ntmps14
  go_wp2_with fail
  generalize w.alloc (.cells #[.int .i64 0, .int .i64 0, .slice none 0 0] 26) = w1 at HZ1 HB1 H1 ⊢
  have hlr : w.heap.size < w1.heap.size := HZ1.out.lt
  refine (l1New_any ao n c _ H1.out).mono ?_
  rintro e w2 ⟨rfl, hc2, hb2⟩
  have HB2 := Lib.hid (HB1.out.trans (hb2.mono HB1.out.size))
  have HZ2 := Lib.hid (HZ1.out.keep hb2)
  generalize w1.heap.size = b at hlr hc2 ⊢
  have HC2 := Lib.hid hc2
  have hbl := hc2.lt.2
  clear hc2 hb2 HZ1 HB1 H1
  go_wp2_with fail
  refine (l14Bent_any b b _ HC2.out).mono ?_
  rintro e w3 ⟨L, S, v3, xs, rfl, ho3, hx3, hc3, hg3⟩
  obtain ⟨a3, c3, rfl, _⟩ := ho3.form
  have hne : some w.heap.size ≠ some b := some_ne (by omega)
  have HNE := Lib.hid hne
  have hl3 : w2.heap.size ≤ w3.heap.size := hg3.size
  have HNE6 : Hid (some w3.heap.size ≠ some b) := some_ne (by omega)
  have HX4 := Lib.hid (Blk.new w3 26 #[.int .i64 L, .int .i64 S, .slice a3 xs.length c3])
  have HC4 := Lib.hid (hc3.keep (belowA w3 (.cells #[.int .i64 L, .int .i64 S, .slice a3 xs.length c3] 26)))
  have HG4 := Lib.hid (hg3.trans (grown_alloc w3 (.cells #[.int .i64 L, .int .i64 S, .slice a3 xs.length c3] 26) (some b)))
  have HO4 := Lib.hid (ho3.alloc (.cells #[.int .i64 L, .int .i64 S, .slice a3 xs.length c3] 26))
  have HZ4 := Lib.hid ((HZ2.out.grown hg3 hne).alloc (.cells #[.int .i64 L, .int .i64 S, .slice a3 xs.length c3] 26))
  clear hne ho3 hc3 hg3 HC2
  go_wp2_with fail
  generalize w3.alloc (.cells #[.int .i64 L, .int .i64 S, .slice a3 xs.length c3] 26) = w4 at HX4 HC4 HG4 HO4 HZ4 ⊢
  generalize w3.heap.size = g6 at HX4 HNE6 hl3 ⊢
  refine (l1Once_any b b 2 _ HC4.out (by omega) (by omega)).mono ?_
  rintro e w5 ⟨t, rfl, hc5, hg5⟩
  have HX5 := Lib.hid (HX4.out.grown hg5 HNE6.out)
  have HC5 := Lib.hid hc5
  have HG5 := Lib.hid (HG4.out.trans hg5)
  have HO5 := Lib.hid (HO4.out.away hg5 hbl)
  have HZ5 := Lib.hid (HZ4.out.grown hg5 HNE.out)
  clear hc5 hg5 HX4 HC4 HG4 HO4 HZ4
  go_upto_if 12 with fail
  go_cut [3] (fun s3 wx => s3 = .int .i64 0 ∧ spM w.heap.size g6 b w2 wx)
  case first =>
    cases t
    · go_wp2_with fail
      go_meet
      exact ⟨rfl, L, S, _, xs, hx3, HX5.out, HO5.out, HZ5.out, HC5.out, HG5.out⟩
    · go_wp2_with fail
      refine (l27Draw_any b b _ HC5.out).mono ?_
      rintro e w6 ⟨L6, S6, v6, ys, rfl, ho6, hx6, hc6, hg6⟩
      obtain ⟨a6, c6, rfl, _⟩ := ho6.form
      have HX6 := Lib.hid (HX5.out.grown hg6 HNE6.out)
      have hl6 : g6 < w5.heap.size := HX5.out.lt
      have HNX : Hid ((Value.slice a6 ys.length c6).ownBlock ≠ some g6) := arcs_ne ho6 (.inl hl6)
      have k0 := HX6.out.c0
      have k1 := HX6.out.c1
      have k2 := HX6.out.c2
      have f0 := HX6.out.frozen 0
      have f1 := HX6.out.frozen 1
      have f2 := HX6.out.frozen 2
      have HX7 : Hid (Blk (((w6.setCell ⟨g6, 0, none⟩ (.int .i64 L6)).setCell ⟨g6, 1, none⟩ (.int .i64 S6)).setCell ⟨g6, 2, none⟩ (.slice a6 ys.length c6)) g6 26 #[.int .i64 L6, .int .i64 S6, .slice a6 ys.length c6]) := ((HX6.out.set 0 (.int .i64 L6)).set 1 (.int .i64 S6)).set 2 (.slice a6 ys.length c6)
      have HO7 := Lib.hid ((((ho6.mono HG5.out.size).setFar (p := ⟨g6, 0, none⟩) HNX.out (.int .i64 L6)).setFar (p := ⟨g6, 1, none⟩) HNX.out (.int .i64 S6)).setFar (p := ⟨g6, 2, none⟩) HNX.out (.slice a6 ys.length c6))
      have hrg : w.heap.size ≠ g6 := by have := HB2.out.size; omega
      have HZ7 := Lib.hid ((((HZ5.out.grown hg6 HNE.out).other (p := ⟨g6, 0, none⟩) hrg (.int .i64 L6)).other (p := ⟨g6, 1, none⟩) hrg (.int .i64 S6)).other (p := ⟨g6, 2, none⟩) hrg (.slice a6 ys.length c6))
      have hbg : b < g6 := by omega
      have HC7 := Lib.hid (((hc6.put (p := ⟨g6, 0, none⟩) hbg (.int .i64 L6)).put (p := ⟨g6, 1, none⟩) hbg (.int .i64 S6)).put (p := ⟨g6, 2, none⟩) hbg (.slice a6 ys.length c6))
      have HG7 := Lib.hid (grown_new (grown_new (grown_new (HG5.out.trans hg6) (p := ⟨g6, 0, none⟩) hl3 (.int .i64 L6)) (p := ⟨g6, 1, none⟩) hl3 (.int .i64 S6)) (p := ⟨g6, 2, none⟩) hl3 (.slice a6 ys.length c6))
      clear ho6 hc6 hg6
      go_wp2_with fail
      go_meet
      exact ⟨rfl, L6, S6, _, ys, hx6, HX7.out, HO7.out, HZ7.out, HC7.out, HG7.out⟩
  case rest =>
  obtain ⟨rfl, hsp⟩ := hcut
  clear HX5 HC5 HG5 HO5 HZ5 hx3
  generalize wc = wo at hsp ⊢
  obtain ⟨L, S, v, xs, hx3, hX, hO, hZ, hC, hG⟩ := hsp
  obtain ⟨a3, c3, rfl, _⟩ := hO.form
  have HX4 := Lib.hid hX
  have HO4 := Lib.hid hO
  have HZ4 := Lib.hid hZ
  have HC4 := Lib.hid hC
  have HG4 := Lib.hid hG
  have k0 := HX4.out.c0
  have k1 := HX4.out.c1
  have k2 := HX4.out.c2
  clear hX hO hZ hC hG
  go_wp2_with fail
  go_region_with (first
    | (go_at_call 28; refine (l1Below_any b b 5 _ HCy.out (by omega) (by omega)).mono ?_; rintro e wz ⟨s, hs, rfl, hcz, hgz⟩; have HGz := Lib.hid (HGy.out.trans hgz); have HXz := Lib.hid (HXy.out.grown hgz HNE6.out); have HZz := Lib.hid (HZy.out.grown hgz HNE.out); have HOz := Lib.hid (HOy.out.away hgz hbl); have k0 := HXz.out.c0; have k1 := HXz.out.c1; have k2 := HXz.out.c2; have z0 := HZz.out.c0; have z1 := HZz.out.c1; have z2 := HZz.out.c2; have f0 := HZz.out.frozen 0; have f1 := HZz.out.frozen 1; have f2 := HZz.out.frozen 2; clear hcz hgz)
    | (go_at_call 29; refine (l1Bit_any t5 _).mono ?_; rintro e w' ⟨rfl, rfl⟩; obtain ⟨P, hP⟩ : ∃ P : Int, IntKind.i64.wrap ((y : Int) - bit t5) = P := ⟨_, rfl⟩)
    | (go_at_call 30; refine (l1Once_any b b 12 _ HCx.out (by omega) (by omega)).mono ?_; rintro e wy ⟨t5, rfl, hcy, hgy⟩; have HCy := Lib.hid hcy; have HGy := Lib.hid (HGx.out.trans hgy); have HXy := Lib.hid (HXx.out.grown hgy HNE6.out); have HZy := Lib.hid (HZx.out.grown hgy HNE.out); have HOy := Lib.hid (HOx.out.away hgy hbl); have k0 := HXy.out.c0; have k1 := HXy.out.c1; have k2 := HXy.out.c2; clear hcy hgy)
    | (go_at_call 28; refine (l1Below_any b b 4 _ (HC4.out.drewN 1) (by omega) (by omega)).mono ?_; rintro e wx ⟨y, hy, rfl, hcx, hgx⟩; have hgx' : wo.grownBy wx (some b) := (grown_drewN (World.grownBy.refl wo _) 1).trans hgx; have HCx := Lib.hid hcx; have HGx := Lib.hid (HG4.out.trans hgx'); have HXx := Lib.hid (HX4.out.grown hgx' HNE6.out); have HZx := Lib.hid (HZ4.out.grown hgx' HNE.out); have HOx := Lib.hid (HO4.out.away hgx' hbl); have k0 := HXx.out.c0; have k1 := HXx.out.c1; have k2 := HXx.out.c2; clear hcx hgx hgx'))
  all_goals
    go_wp2_with fail
    refine bodyPost_ret (v := .tuple #[.agg #[.int .i64 L, .int .i64 S, .slice a3 xs.length c3], .int .i64 P, .int .i64 s]) (by simp [results, Try.results14, go_sem, *]) rfl ?_
    exact ⟨L, S, _, xs, P, s, rfl, arcs_out HOz.out (by omega) _ _ _, hx3, below_lab (HB2.out.trans (below_of_grown HGz.out (Nat.le_of_lt hlr) (by omega))) (Nat.le_refl _) _ _ _⟩
end Go.Proofs.Ytmkodbkbgpjgoaa
