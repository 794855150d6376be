/- IPrune: a part of the proofs of this seat. -/
import Derived.StillTailTactics
import Derived.Deep.RegionLaw
import Derived.Deep.RegionHeld3
import Derived.Test.YtaomoahcdlkifaaProg
import Derived.Test.YtaomoahcdlkifaaPrunT
import Derived.Test.YtaomoahcdlkifaaBase
import Derived.Test.YtaomoahcdlkifaaLastOp
import Derived.Test.YtaomoahcdlkifaaIIsEnc
import Derived.Test.YtaomoahcdlkifaaIFrom
namespace Go.Proofs.Ytaomoahcdlkifaa
open Go.RowKit
set_option linter.all false
set_option maxRecDepth 40000 in
set_option maxHeartbeats 12800000 in
theorem iPruneLabels_any (L S : Int) (ao : Option Addr) (n cap : Nat) (xs : List Ar) (w : World) (h : Arcs w ao n xs) :
    Calls Try.prog 34 #[.agg #[.int .i64 L, .int .i64 S, .slice ao n cap]] w fun e w' => ∃ v, e = .returned (.tuple #[.agg #[.int .i64 (prL L S xs), .int .i64 (prS L S xs), v], .bool (isEnc L S xs)]) ∧ OArcs w' w.heap.size v (prX L S xs).length (prX L S xs) ∧ Below w.heap.size w w' := by
  have hm := h.2.1
  have HB1 := Lib.hid (below1 w (.cells #[.int .i64 L, .int .i64 S, .slice ao n cap] 26))
  have HB2 := Lib.hid (below1 (w.alloc (.cells #[.int .i64 L, .int .i64 S, .slice ao n cap] 26)) (.cells #[.int .i64 0, .int .i64 0, .slice none 0 0] 26))
  have HA1 := Lib.hid (h.keep HB1.out)
  have HK1b := Lib.hid (Blk.new w 26 #[.int .i64 L, .int .i64 S, .slice ao n cap])
  have H2 := Lib.hid (HA1.out.keep HB2.out)
  have HK2 := Lib.hid (HK1b.out.keep HB2.out)
  have HR2 := Lib.hid (Blk.new (w.alloc (.cells #[.int .i64 L, .int .i64 S, .slice ao n cap] 26)) 26 #[.int .i64 0, .int .i64 0, .slice none 0 0])
  have HZ : Hid ((w.alloc (.cells #[.int .i64 L, .int .i64 S, .slice ao n cap] 26)).heap.size = w.heap.size + 1) := by show _ = _; simp
  rw [HZ.out] at HR2
  have HBx : Hid (Below w.heap.size w ((w.alloc (.cells #[.int .i64 L, .int .i64 S, .slice ao n cap] 26)).alloc (.cells #[.int .i64 0, .int .i64 0, .slice none 0 0] 26))) := step2 HB1.out HB2.out
  clear h
  cases b1 : isEnc L S xs
  · have e1 : prL L S xs = 0 := by simp [prL, b1]
    have e2 : prS L S xs = 0 := by simp [prS, b1]
    have e3 : prX L S xs = [] := by simp [prX, b1]
    rw [e1, e2, e3]
    have B1 := Lib.hid b1
    clear b1 e1 e2 e3
    go_enter Try.func34, Try.ntmps34
    go_wp2_with fail
    generalize (w.alloc (.cells #[.int .i64 L, .int .i64 S, .slice ao n cap] 26)).alloc (.cells #[.int .i64 0, .int .i64 0, .slice none 0 0] 26) = w2 at HBx H2 HK2 HR2 HB2 ⊢
    clear HA1 HK1b HZ
    refine (iIsEncoder_any _ _ _ _ _ xs _ H2.out).mono ?_
    rw [B1.out]
    rintro e w3 ⟨rfl, hb3⟩
    have q := HR2.out.keep hb3
    have q0 := q.c0
    have q1 := q.c1
    have q2 := q.c2
    have f0 := q.frozen 0
    have f1 := q.frozen 1
    have f2 := q.frozen 2
    have HB3 := Lib.hid (step2 HBx.out hb3)
    clear q hb3
    go_wp2_with fail
    refine bodyPost_ret (v := .tuple #[.agg #[.int .i64 0, .int .i64 0, .slice none 0 0], .bool false]) (by simp [results, Try.results34, go_sem, *]) rfl ?_
    exact ⟨_, rfl, OArcs.none_ _ _, below_lab HB3.out (Nat.le_succ _) _ _ _⟩
  · obtain ⟨hlab, _, hmany⟩ := isEnc_get b1
    obtain ⟨_, hSr, _⟩ := isLab_get hlab
    obtain ⟨m, rfl⟩ : ∃ m : Nat, S = m := ⟨S.toNat, by omega⟩
    have e1 : prL L m xs = L := by simp [prL, b1]
    have e2 : prS L m xs = m := by simp [prS, b1]
    have e3 : prX L m xs = prn xs m := by simp [prX, b1]
    rw [e1, e2, e3]
    have B1 := Lib.hid b1
    have HM := Lib.hid hmany
    have hm12 : m ≤ 12 := by omega
    clear b1 e1 e2 e3 hlab hmany
    go_enter Try.func34, Try.ntmps34
    go_wp2_with fail
    generalize (w.alloc (.cells #[.int .i64 L, .int .i64 m, .slice ao n cap] 26)).alloc (.cells #[.int .i64 0, .int .i64 0, .slice none 0 0] 26) = w2 at HBx H2 HK2 HR2 HB2 ⊢
    generalize w.alloc (.cells #[.int .i64 L, .int .i64 m, .slice ao n cap] 26) = w1 at HB1 HB2 HZ HA1 HK1b
    refine (iIsEncoder_any _ _ _ _ _ xs _ H2.out).mono ?_
    rw [B1.out]
    rintro e w3 ⟨rfl, hb3⟩
    have HBb := Lib.hid (step2 HB2.out hb3)
    have HK3 := Lib.hid (HK2.out.keep hb3)
    have HR3 := Lib.hid (HR2.out.keep hb3)
    have H3 := Lib.hid (H2.out.keep hb3)
    have q0 := HK3.out.c0
    have q1 := HK3.out.c1
    have q2 := HK3.out.c2
    have HB4 := Lib.hid (below1 w3 (.cells #[.int .i64 L, .int .i64 m, .slice none 0 0] 26))
    have H4 := Lib.hid (H3.out.keep HB4.out)
    have HK4 := Lib.hid (HK3.out.keep HB4.out)
    have HBc := Lib.hid (step2 HBb.out HB4.out)
    have hsz3 : w.heap.size + 1 < w3.heap.size := HR3.out.lt
    have HD := Lib.hid (show Bld (w3.alloc (.cells #[.int .i64 L, .int .i64 m, .slice none 0 0] 26)) w1.heap.size (w.heap.size + 1) w3.heap.size L m (.slice none 0 0) [] from ⟨Blk.new w3 _ _, HR3.out.keep HB4.out, OArcs.none_ _ _, by simp [Value.ownBlock], by simp [Value.ownBlock], by omega, HBb.out.size, Nat.le_of_eq HZ.out⟩)
    have r0 := HK4.out.c1
    clear hb3
    go_wp2_with fail
    clear q0 q1 q2 r0
    obtain ⟨b, hbn⟩ : ∃ b, w3.heap.size = b := ⟨_, rfl⟩
    rw [hbn] at HD
    simp only [hbn]
    generalize w3.alloc (.cells #[.int .i64 L, .int .i64 m, .slice none 0 0] 26) = w4 at HB4 H4 HK4 HBc HD ⊢
    clear hbn hsz3
    go_loopw [17] (fun x wr => ∃ (p : Nat) (v : Value), p ≤ m ∧ x = .int .i64 p ∧ Bld wr w1.heap.size (w.heap.size + 1) b L m v (prn xs p) ∧ Below w1.heap.size w1 wr) (fun x _ => m - (intOf x).toNat)
    case atStart => exact ⟨0, _, Nat.zero_le _, rfl, HD.out, HBc.out⟩
    case round =>
      obtain ⟨p, v, hp, rfl, hd, hbl⟩ := hrel
      obtain ⟨aa, ca, rfl, _⟩ := hd.o.form
      have HD1 := Lib.hid hd
      have HK := Lib.hid (HK1b.out.keep hbl)
      have HAr := Lib.hid (HA1.out.keep hbl)
      have HB := Lib.hid hbl
      have hsz := hbl.size
      have hl := prn_len xs p
      clear hd hbl HD HBc HK4 H4
      by_cases hlt : p < m
      · have h2 := HM.out p (by omega)
        obtain ⟨x1, x2, hx1, hx2, ht2⟩ := two_of h2
        have HT : Hid (prn xs (p + 1) = prn xs p ++ [x1, x2]) := by show _ = _; rw [prn, ht2]
        have HArd : Hid (Arcs wr.drew ao n xs) := HAr.out.drewN 1
        have HD1d : Hid (Bld wr.drew w1.heap.size (w.heap.size + 1) b L m (.slice aa (prn xs p).length ca) (prn xs p)) := HD1.out.keep (below_drewN (Below.refl _ wr) 1)
        have HBd : Hid (Below w1.heap.size w1 wr.drew) := below_drewN HB.out 1
        have q0 : wr.drew.cell? ⟨w.heap.size, 0, none⟩ = _ := HK.out.c0
        have q1 : wr.drew.cell? ⟨w.heap.size, 1, none⟩ = _ := HK.out.c1
        have q2 : wr.drew.cell? ⟨w.heap.size, 2, none⟩ = _ := HK.out.c2
        have p2 : wr.drew.cell? ⟨b, 2, none⟩ = _ := HD1.out.kb.c2
        clear hx1 hx2
        go_wp2_with fail
        go_region_law (first
          | (refine step_of_wp rfl (wp_app_arcs w5 (.tmp 21) (.tmp 25) rfl w1.heap.size _ _ _ rfl HD5.out.o _ _ _ _ rfl HSl.out (by omega) (by omega) ?_); intro v7 w7 ho hg hn; have f := (HD5.out.grownB hg).frozen 2; have r := (HD5.out.grownB hg).c2; have E := Lib.hid (HD5.out.pushed ho rfl hg hn); have F := Lib.hid (HD5.out.belowP HB5.out hg (by omega) v7); obtain ⟨a7, c7, rfl, _⟩ := ho.form; clear ho hg hn)
          | (go_simp; go_at_call 56; refine (iFrom_any _ _ _ _ _ xs p _ HArd.out).mono ?_; rintro e w5 ⟨v5, rfl, ho5, hb5⟩; obtain ⟨a5, c5, rfl, hi5⟩ := ho5.form; have hcap := ho5.capLe rfl; obtain ⟨g5, rfl⟩ : ∃ g, a5 = some ⟨g, 0, none⟩ := (by rcases ho5.two with h | h; exact absurd h.2 (by omega); exact h); have HD5 := Lib.hid (HD1d.out.keep hb5); have HSl := Lib.hid (hi5.take h2); rw [ht2] at HSl; have HB5 := Lib.hid (HBd.out.trans (hb5.mono HBd.out.size)); have hsz5 := HB5.out.size; have p5 := HD5.out.kb.c2; have hc2 : 2 ≤ c5 := (by omega); have hc3 : (2 : Int) ≤ (c5 : Int) := (by omega); clear ho5 hb5 hi5))
        all_goals go_wp2_with fail
        all_goals go_roundw
        all_goals first
          | exact ⟨p + 1, _, hlt, by go_num, by rw [HT.out]; exact E.out, F.out⟩
          | (simp [intOf]; omega)
      · have hpm : p = m := by omega
        have HX : Hid (Bld wr w1.heap.size (w.heap.size + 1) b L m (.slice aa (prn xs p).length ca) (prn xs m)) := by have h := HD1.out; rw [hpm] at h ⊢; exact h
        rw [hpm] at HX
        clear HD1
        have k1 := HK.out.c1
        have a0 := HX.out.kb.c0
        have a1 := HX.out.kb.c1
        have a2 := HX.out.kb.c2
        have b0 := HX.out.kr.c0
        have b1 := HX.out.kr.c1
        have b2 := HX.out.kr.c2
        have f0 := HX.out.kr.frozen 0
        have f1 := HX.out.kr.frozen 1
        have f2 := HX.out.kr.frozen 2
        go_wp2_with fail
        refine bodyPost_ret (v := .tuple #[.agg #[.int .i64 L, .int .i64 m, .slice aa (prn xs m).length ca], .bool true]) (by simp [results, Try.results34, go_sem, *]) rfl ?_
        exact ⟨_, rfl, (((HX.out.o.setFar HX.out.nr _).setFar HX.out.nr _).setFar HX.out.nr _).mono HB1.out.size, below_lab (step2 HB1.out HB.out) (Nat.le_succ _) _ _ _⟩
end Go.Proofs.Ytaomoahcdlkifaa
