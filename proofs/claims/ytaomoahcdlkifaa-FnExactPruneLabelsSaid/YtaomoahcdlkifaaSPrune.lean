/- SPrune: a part of the proofs of this seat. -/
import Derived.StillTailTactics
import Derived.Deep.RegionLaw
import Derived.Deep.RegionHeld3
import Derived.Test.YtaomoahcdlkifaaProg
import Derived.Test.YtaomoahcdlkifaaPrunT
import Derived.Test.YtaomoahcdlkifaaBase
import Derived.Test.YtaomoahcdlkifaaLastOp
import Derived.Test.YtaomoahcdlkifaaSIsEnc
namespace Go.Proofs.Ytaomoahcdlkifaa
open Go.RowKit
set_option linter.all false
set_option maxRecDepth 40000 in
set_option maxHeartbeats 12800000 in
theorem sPruneLabels_any (L S : Int) (ao : Option Addr) (n cap : Nat) (xs : List Ar) (w : World) (h : Arcs w ao n xs) :
    Calls Try.prog 33 #[.agg #[.int .i64 L, .int .i64 S, .slice ao n cap]] w fun e w' => ∃ v, e = .returned (.tuple #[.agg #[.int .i64 (prL L S xs), .int .i64 (prS L S xs), v], .bool (isEnc L S xs)]) ∧ OArcs w' w.heap.size v (prX L S xs).length (prX L S xs) ∧ Below w.heap.size w w' := by
  have hm := h.2.1
  have HB1 := Lib.hid (below1 w (.cells #[.int .i64 L, .int .i64 S, .slice ao n cap] 26))
  have HB2 := Lib.hid (below1 (w.alloc (.cells #[.int .i64 L, .int .i64 S, .slice ao n cap] 26)) (.cells #[.int .i64 0, .int .i64 0, .slice none 0 0] 26))
  have HA1 := Lib.hid (h.keep HB1.out)
  have HK1b := Lib.hid (Blk.new w 26 #[.int .i64 L, .int .i64 S, .slice ao n cap])
  have H2 := Lib.hid (HA1.out.keep HB2.out)
  have HK2 := Lib.hid (HK1b.out.keep HB2.out)
  have HR2 := Lib.hid (Blk.new (w.alloc (.cells #[.int .i64 L, .int .i64 S, .slice ao n cap] 26)) 26 #[.int .i64 0, .int .i64 0, .slice none 0 0])
  have HZ : Hid ((w.alloc (.cells #[.int .i64 L, .int .i64 S, .slice ao n cap] 26)).heap.size = w.heap.size + 1) := by show _ = _; simp
  rw [HZ.out] at HR2
  have HBx : Hid (Below w.heap.size w ((w.alloc (.cells #[.int .i64 L, .int .i64 S, .slice ao n cap] 26)).alloc (.cells #[.int .i64 0, .int .i64 0, .slice none 0 0] 26))) := step2 HB1.out HB2.out
  clear h
  cases b1 : isEnc L S xs
  · have e1 : prL L S xs = 0 := by simp [prL, b1]
    have e2 : prS L S xs = 0 := by simp [prS, b1]
    have e3 : prX L S xs = [] := by simp [prX, b1]
    rw [e1, e2, e3]
    have B1 := Lib.hid b1
    clear b1 e1 e2 e3
    go_enter Try.func33, Try.ntmps33
    go_wp2_with fail
    generalize (w.alloc (.cells #[.int .i64 L, .int .i64 S, .slice ao n cap] 26)).alloc (.cells #[.int .i64 0, .int .i64 0, .slice none 0 0] 26) = w2 at HBx H2 HK2 HR2 HB2 ⊢
    clear HA1 HK1b HZ
    refine (sIsEncoder_any _ _ _ _ _ xs _ H2.out).mono ?_
    rw [B1.out]
    rintro e w3 ⟨rfl, hb3⟩
    have q := HR2.out.keep hb3
    have q0 := q.c0
    have q1 := q.c1
    have q2 := q.c2
    have f0 := q.frozen 0
    have f1 := q.frozen 1
    have f2 := q.frozen 2
    have HB3 := Lib.hid (step2 HBx.out hb3)
    clear q hb3
    go_wp2_with fail
    refine bodyPost_ret (v := .tuple #[.agg #[.int .i64 0, .int .i64 0, .slice none 0 0], .bool false]) (by simp [results, Try.results33, go_sem, *]) rfl ?_
    exact ⟨_, rfl, OArcs.none_ _ _, below_lab HB3.out (Nat.le_succ _) _ _ _⟩
  · obtain ⟨hlab, _, hmany⟩ := isEnc_get b1
    obtain ⟨_, hSr, _⟩ := isLab_get hlab
    obtain ⟨m, rfl⟩ : ∃ m : Nat, S = m := ⟨S.toNat, by omega⟩
    have e1 : prL L m xs = L := by simp [prL, b1]
    have e2 : prS L m xs = m := by simp [prS, b1]
    have e3 : prX L m xs = prn xs m := by simp [prX, b1]
    rw [e1, e2, e3]
    have B1 := Lib.hid b1
    have HM := Lib.hid hmany
    have hm12 : m ≤ 12 := by omega
    clear b1 e1 e2 e3 hlab hmany
    go_enter Try.func33, Try.ntmps33
    go_wp2_with fail
    generalize (w.alloc (.cells #[.int .i64 L, .int .i64 m, .slice ao n cap] 26)).alloc (.cells #[.int .i64 0, .int .i64 0, .slice none 0 0] 26) = w2 at HBx H2 HK2 HR2 HB2 ⊢
    generalize w.alloc (.cells #[.int .i64 L, .int .i64 m, .slice ao n cap] 26) = w1 at HB1 HB2 HZ HA1 HK1b
    refine (sIsEncoder_any _ _ _ _ _ xs _ H2.out).mono ?_
    rw [B1.out]
    rintro e w3 ⟨rfl, hb3⟩
    have HBb := Lib.hid (step2 HB2.out hb3)
    have HK3 := Lib.hid (HK2.out.keep hb3)
    have HR3 := Lib.hid (HR2.out.keep hb3)
    have H3 := Lib.hid (H2.out.keep hb3)
    have q0 := HK3.out.c0
    have q1 := HK3.out.c1
    have q2 := HK3.out.c2
    have HB4 := Lib.hid (below1 w3 (.cells #[.int .i64 L, .int .i64 m, .slice none 0 0] 26))
    have H4 := Lib.hid (H3.out.keep HB4.out)
    have HK4 := Lib.hid (HK3.out.keep HB4.out)
    have HBc := Lib.hid (step2 HBb.out HB4.out)
    have hsz3 : w.heap.size + 1 < w3.heap.size := HR3.out.lt
    have HD := Lib.hid (show Bld (w3.alloc (.cells #[.int .i64 L, .int .i64 m, .slice none 0 0] 26)) w1.heap.size (w.heap.size + 1) w3.heap.size L m (.slice none 0 0) [] from ⟨Blk.new w3 _ _, HR3.out.keep HB4.out, OArcs.none_ _ _, by simp [Value.ownBlock], by simp [Value.ownBlock], by omega, HBb.out.size, Nat.le_of_eq HZ.out⟩)
    have r0 := HK4.out.c1
    clear hb3
    go_wp2_with fail
    clear q0 q1 q2 r0
    obtain ⟨b, hbn⟩ : ∃ b, w3.heap.size = b := ⟨_, rfl⟩
    rw [hbn] at HD
    simp only [hbn]
    generalize w3.alloc (.cells #[.int .i64 L, .int .i64 m, .slice none 0 0] 26) = w4 at HB4 H4 HK4 HBc HD ⊢
    clear hbn hsz3
    go_loopw [5] (fun x wr => ∃ (p : Nat) (v : Value), p ≤ m ∧ x = .int .i64 p ∧ Bld wr w1.heap.size (w.heap.size + 1) b L m v (prn xs p) ∧ Below w1.heap.size w1 wr) (fun x _ => m - (intOf x).toNat)
    case atStart => exact ⟨0, _, Nat.zero_le _, rfl, HD.out, HBc.out⟩
    case round =>
      obtain ⟨p, v, hp, rfl, hd, hbl⟩ := hrel
      obtain ⟨aa, ca, rfl, _⟩ := hd.o.form
      have HD1 := Lib.hid hd
      have HK := Lib.hid (HK1b.out.keep hbl)
      have HAr := Lib.hid (HA1.out.keep hbl)
      have HB := Lib.hid hbl
      have hsz := hbl.size
      have hl := prn_len xs p
      clear hd hbl HD HBc HK4 H4
      by_cases hlt : p < m
      · have h2 := HM.out p (by omega)
        obtain ⟨x1, x2, hx1, hx2, ht2⟩ := two_of h2
        have HT : Hid (prn xs (p + 1) = prn xs p ++ [x1, x2]) := by show _ = _; rw [prn, ht2]
        obtain ⟨t1, g1, k1⟩ := ix_get p xs 0 0 x1 hx1
        obtain ⟨t2, g2, k2⟩ := ix_get p xs 0 1 x2 hx2
        rw [Nat.zero_add] at g1 g2
        have q0 := HK.out.c0
        have q1 := HK.out.c1
        have q2 := HK.out.c2
        have HG1 := Lib.hid g1
        have HG2 := Lib.hid g2
        have HK1 := Lib.hid k1
        have HK2' := Lib.hid k2
        clear g1 g2 k1 k2 hx1 hx2 ht2
        go_wp2_with fail
        clear q0 q1 q2
        refine (sArcs_any _ _ _ _ _ xs p _ HAr.out).mono ?_
        rintro e w5 ⟨v5, rfl, ho5, hb5⟩
        have hil := ix_len p xs 0
        obtain ⟨g5, c5, rfl⟩ := ho5.head (by omega)
        have hg5 := ho5.lt
        have i1 := ho5.cell 0 (by omega)
        have i2 := ho5.cell 1 (by omega)
        have ei1 : (ixFrom p 0 xs).getD 0 0 = (t1 : Int) := by simp [List.getD, HG1.out]
        have ei2 : (ixFrom p 0 xs).getD 1 0 = (t2 : Int) := by simp [List.getD, HG2.out]
        rw [ei1] at i1
        rw [ei2] at i2
        rw [hil]
        have HA5 := Lib.hid (HAr.out.keep hb5)
        have HD5 := Lib.hid (HD1.out.keep hb5)
        have HK5 := Lib.hid (HK.out.keep hb5)
        have HB5 := Lib.hid (HB.out.trans (hb5.mono hsz))
        have hsz5 : w1.heap.size ≤ w5.heap.size := Nat.le_trans hsz hb5.size
        obtain ⟨ba0, oa0, ea0, cb, _, _⟩ := HA1.out.get HK1.out
        have hba0 := World.block_lt_of_cell? _ _ cb
        obtain ⟨ba, oa, rfl, c1, c2, c3⟩ := HA5.out.get HK1.out
        simp only [Option.some.injEq, Addr.mk.injEq, and_true] at ea0
        obtain ⟨rfl, rfl⟩ := ea0
        have hba : ba < w1.heap.size := hba0
        obtain ⟨ba2, oa2, ea, d1, d2, d3⟩ := HA5.out.get HK2'.out
        simp only [Option.some.injEq, Addr.mk.injEq, and_true] at ea
        obtain ⟨rfl, rfl⟩ := ea
        obtain ⟨y1, y2, y3⟩ := x1
        obtain ⟨z1, z2, z3⟩ := x2
        have hn1 : t1 < n := by rw [← HA5.out.1]; exact (List.getElem?_eq_some_iff.1 HK1.out).1
        have hn2 : t2 < n := by rw [← HA5.out.1]; exact (List.getElem?_eq_some_iff.1 HK2'.out).1
        have q2 := HK5.out.c2
        have p2 := HD5.out.kb.c2
        have HS5 : Hid (w5.drew.cell? ⟨b, 2, none⟩ = some (.slice aa (prn xs p).length ca) ∧ w5.drew.cell? ⟨w.heap.size, 2, none⟩ = some (.slice (some ⟨ba, oa, none⟩) n cap) ∧ w5.drew.cell? ⟨g5, 0, none⟩ = some (.int .i64 (t1 : Int)) ∧ w5.drew.cell? ⟨g5, 1, none⟩ = some (.int .i64 (t2 : Int)) ∧ w5.drew.cell? ⟨ba, oa + t1 * 3, none⟩ = some (.int .i64 y1) ∧ w5.drew.cell? ⟨ba, oa + t1 * 3 + 1, none⟩ = some (.int .i64 y2) ∧ w5.drew.cell? ⟨ba, oa + t1 * 3 + 2, none⟩ = some (.int .i64 y3) ∧ w5.drew.cell? ⟨ba, oa + t2 * 3, none⟩ = some (.int .i64 z1) ∧ w5.drew.cell? ⟨ba, oa + t2 * 3 + 1, none⟩ = some (.int .i64 z2) ∧ w5.drew.cell? ⟨ba, oa + t2 * 3 + 2, none⟩ = some (.int .i64 z3)) := ⟨p2, q2, i1, i2, c1, c2, c3, d1, d2, d3⟩
        have HBA := Lib.hid (below1 w5 (.cells #[.int .i64 y1, .int .i64 y2, .int .i64 y3, .int .i64 z1, .int .i64 z2, .int .i64 z3] 58))
        have HS6 : Hid (((w5.alloc (.cells #[.int .i64 y1, .int .i64 y2, .int .i64 y3, .int .i64 z1, .int .i64 z2, .int .i64 z3] 58)).drew).cell? ⟨b, 2, none⟩ = some (.slice aa (prn xs p).length ca) ∧ ((w5.alloc (.cells #[.int .i64 y1, .int .i64 y2, .int .i64 y3, .int .i64 z1, .int .i64 z2, .int .i64 z3] 58)).drew).cell? ⟨w.heap.size, 2, none⟩ = some (.slice (some ⟨ba, oa, none⟩) n cap) ∧ ((w5.alloc (.cells #[.int .i64 y1, .int .i64 y2, .int .i64 y3, .int .i64 z1, .int .i64 z2, .int .i64 z3] 58)).drew).cell? ⟨g5, 0, none⟩ = some (.int .i64 (t1 : Int)) ∧ ((w5.alloc (.cells #[.int .i64 y1, .int .i64 y2, .int .i64 y3, .int .i64 z1, .int .i64 z2, .int .i64 z3] 58)).drew).cell? ⟨g5, 1, none⟩ = some (.int .i64 (t2 : Int)) ∧ ((w5.alloc (.cells #[.int .i64 y1, .int .i64 y2, .int .i64 y3, .int .i64 z1, .int .i64 z2, .int .i64 z3] 58)).drew).cell? ⟨ba, oa + t1 * 3, none⟩ = some (.int .i64 y1) ∧ ((w5.alloc (.cells #[.int .i64 y1, .int .i64 y2, .int .i64 y3, .int .i64 z1, .int .i64 z2, .int .i64 z3] 58)).drew).cell? ⟨ba, oa + t1 * 3 + 1, none⟩ = some (.int .i64 y2) ∧ ((w5.alloc (.cells #[.int .i64 y1, .int .i64 y2, .int .i64 y3, .int .i64 z1, .int .i64 z2, .int .i64 z3] 58)).drew).cell? ⟨ba, oa + t1 * 3 + 2, none⟩ = some (.int .i64 y3) ∧ ((w5.alloc (.cells #[.int .i64 y1, .int .i64 y2, .int .i64 y3, .int .i64 z1, .int .i64 z2, .int .i64 z3] 58)).drew).cell? ⟨ba, oa + t2 * 3, none⟩ = some (.int .i64 z1) ∧ ((w5.alloc (.cells #[.int .i64 y1, .int .i64 y2, .int .i64 y3, .int .i64 z1, .int .i64 z2, .int .i64 z3] 58)).drew).cell? ⟨ba, oa + t2 * 3 + 1, none⟩ = some (.int .i64 z2) ∧ ((w5.alloc (.cells #[.int .i64 y1, .int .i64 y2, .int .i64 y3, .int .i64 z1, .int .i64 z2, .int .i64 z3] 58)).drew).cell? ⟨ba, oa + t2 * 3 + 2, none⟩ = some (.int .i64 z3)) := by
          have hl := fun {a : Addr} {v : Value} (h : w5.cell? a = some v) => (HBA.out.cell (World.block_lt_of_cell? _ _ h)).trans h
          exact ⟨hl p2, hl q2, hl i1, hl i2, hl c1, hl c2, hl c3, hl d1, hl d2, hl d3⟩
        have HD6 := Lib.hid (show Bld ((w5.alloc (.cells #[.int .i64 y1, .int .i64 y2, .int .i64 y3, .int .i64 z1, .int .i64 z2, .int .i64 z3] 58)).drew) _ _ _ _ _ _ _ from (HD5.out.keep HBA.out).keep (below_drewN (Below.refl _ _) 1))
        have HB6 : Hid (Below w1.heap.size w1 ((w5.alloc (.cells #[.int .i64 y1, .int .i64 y2, .int .i64 y3, .int .i64 z1, .int .i64 z2, .int .i64 z3] 58)).drew)) := below_drewN (HB5.out.trans (HBA.out.mono hsz5)) 1
        have HS2 : Hid (Arcs ((w5.alloc (.cells #[.int .i64 y1, .int .i64 y2, .int .i64 y3, .int .i64 z1, .int .i64 z2, .int .i64 z3] 58)).drew) (some ⟨w5.heap.size, 0, none⟩) 2 [(y1, y2, y3), (z1, z2, z3)]) := (arcs_two w5 (y1, y2, y3) (z1, z2, z3)).drewN 1
        have hsz6 := HB6.out.size
        have HNE : Hid (∀ c, c < w1.heap.size ∨ c = g5 → some c ≠ (Value.slice aa (prn xs p).length ca).ownBlock) := by
          show ∀ c, _
          intro c hc e
          have := HD1.out.o.ownlt _ e.symm
          omega
        have hwz : w.heap.size < w1.heap.size := by have := HZ.out; omega
        have HKQ := Lib.hid hwz
        have HBQ := Lib.hid hba
        have HG5 := Lib.hid hg5
        clear ho5 hb5 p2 q2 i1 i2 c1 c2 c3 d1 d2 d3 cb hba0 hba hwz hg5 ei1 ei2
        have hf0 : (0 : Int) < ((fromL (p : Nat) xs).length : Int) := by omega
        have hf1 : (1 : Int) < ((fromL (p : Nat) xs).length : Int) := by omega
        have hf2 : 1 < (fromL (p : Nat) xs).length := by omega
        have hf3 : 0 < (fromL (p : Nat) xs).length := by omega
        generalize (fromL (p : Nat) xs).length = fl at h2 hf0 hf1 hf2 hf3 ⊢
        clear hil
        go_wp2_with fail
        clear HAr HA5 HK HK5 HB5 HD5
        refine region_T (S := fun W => W.cell? ⟨b, 2, none⟩ = some (.slice aa (prn xs p).length ca) ∧ W.cell? ⟨w.heap.size, 2, none⟩ = some (.slice (some ⟨ba, oa, none⟩) n cap) ∧ W.cell? ⟨g5, 0, none⟩ = some (.int .i64 (t1 : Int)) ∧ W.cell? ⟨g5, 1, none⟩ = some (.int .i64 (t2 : Int)) ∧ W.cell? ⟨ba, oa + t1 * 3, none⟩ = some (.int .i64 y1) ∧ W.cell? ⟨ba, oa + t1 * 3 + 1, none⟩ = some (.int .i64 y2) ∧ W.cell? ⟨ba, oa + t1 * 3 + 2, none⟩ = some (.int .i64 y3) ∧ W.cell? ⟨ba, oa + t2 * 3, none⟩ = some (.int .i64 z1) ∧ W.cell? ⟨ba, oa + t2 * 3 + 1, none⟩ = some (.int .i64 z2) ∧ W.cell? ⟨ba, oa + t2 * 3 + 2, none⟩ = some (.int .i64 z3)) (t := 19) (by kernel_rfl) ?_
        have HSn := HS5.out
        refine anyT_take (i := 0) (v := ?v0) rfl (by kernel_rfl) (by kernel_rfl) (by kernel_rfl) (by kernel_rfl) (fun _ _ _ h => h) (Or.inl ⟨by rfl, ?hy0⟩) HS5.out ?rest0
        case hy0 =>
          intro W hSw
          (try dsimp only at hSw)
          obtain ⟨s0, s1, s2, s3, s4, s5, s6, s7, s8, s9⟩ := hSw
          go_simp
          try with_reducible rfl
        try simp only [Act.put, List.setIfInBounds_toArray, List.set_cons_zero, List.set_cons_succ]
        refine anyT_take (i := 1) (v := ?v1) rfl (by kernel_rfl) (by kernel_rfl) (by kernel_rfl) (by kernel_rfl) (fun _ _ _ h => h) (Or.inl ⟨by rfl, ?hy1⟩) HS5.out ?rest1
        case hy1 =>
          intro W hSw
          (try dsimp only at hSw)
          obtain ⟨s0, s1, s2, s3, s4, s5, s6, s7, s8, s9⟩ := hSw
          go_simp
          try with_reducible rfl
        try simp only [Act.put, List.setIfInBounds_toArray, List.set_cons_zero, List.set_cons_succ]
        refine anyT_take (i := 2) (v := ?v2) rfl (by kernel_rfl) (by kernel_rfl) (by kernel_rfl) (by kernel_rfl) (fun _ _ _ h => h) (Or.inl ⟨by rfl, ?hy2⟩) HS5.out ?rest2
        case hy2 =>
          intro W hSw
          (try dsimp only at hSw)
          obtain ⟨s0, s1, s2, s3, s4, s5, s6, s7, s8, s9⟩ := hSw
          go_simp
          try with_reducible rfl
        try simp only [Act.put, List.setIfInBounds_toArray, List.set_cons_zero, List.set_cons_succ]
        refine anyT_take (i := 3) (v := ?v3) rfl (by kernel_rfl) (by kernel_rfl) (by kernel_rfl) (by kernel_rfl) (fun _ _ _ h => h) (Or.inl ⟨by rfl, ?hy3⟩) HS5.out ?rest3
        case hy3 =>
          intro W hSw
          (try dsimp only at hSw)
          obtain ⟨s0, s1, s2, s3, s4, s5, s6, s7, s8, s9⟩ := hSw
          go_simp
          try with_reducible rfl
        try simp only [Act.put, List.setIfInBounds_toArray, List.set_cons_zero, List.set_cons_succ]
        refine anyT_take (i := 4) (v := ?v4) rfl (by kernel_rfl) (by kernel_rfl) (by kernel_rfl) (by kernel_rfl) (fun _ _ _ h => h) (Or.inl ⟨by rfl, ?hy4⟩) HS5.out ?rest4
        case hy4 =>
          intro W hSw
          (try dsimp only at hSw)
          obtain ⟨s0, s1, s2, s3, s4, s5, s6, s7, s8, s9⟩ := hSw
          go_simp
          try with_reducible rfl
        try simp only [Act.put, List.setIfInBounds_toArray, List.set_cons_zero, List.set_cons_succ]
        refine anyT_take (i := 5) (v := ?v5) rfl (by kernel_rfl) (by kernel_rfl) (by kernel_rfl) (by kernel_rfl) (fun _ _ _ h => h) (Or.inl ⟨by rfl, ?hy5⟩) HS5.out ?rest5
        case hy5 =>
          intro W hSw
          (try dsimp only at hSw)
          obtain ⟨s0, s1, s2, s3, s4, s5, s6, s7, s8, s9⟩ := hSw
          go_simp
          try with_reducible rfl
        try simp only [Act.put, List.setIfInBounds_toArray, List.set_cons_zero, List.set_cons_succ]
        refine anyT_take (i := 6) (v := ?v6) rfl (by kernel_rfl) (by kernel_rfl) (by kernel_rfl) (by kernel_rfl) (fun _ _ _ h => h) (Or.inl ⟨by rfl, ?hy6⟩) HS5.out ?rest6
        case hy6 =>
          intro W hSw
          (try dsimp only at hSw)
          obtain ⟨s0, s1, s2, s3, s4, s5, s6, s7, s8, s9⟩ := hSw
          go_simp
          try with_reducible rfl
        try simp only [Act.put, List.setIfInBounds_toArray, List.set_cons_zero, List.set_cons_succ]
        refine anyT_take (i := 7) (v := ?v7) rfl (by kernel_rfl) (by kernel_rfl) (by kernel_rfl) (by kernel_rfl) (fun _ _ _ h => h) (Or.inl ⟨by rfl, ?hy7⟩) HS5.out ?rest7
        case hy7 =>
          intro W hSw
          (try dsimp only at hSw)
          obtain ⟨s0, s1, s2, s3, s4, s5, s6, s7, s8, s9⟩ := hSw
          go_simp
          try with_reducible rfl
        try simp only [Act.put, List.setIfInBounds_toArray, List.set_cons_zero, List.set_cons_succ]
        refine anyT_take (i := 8) (v := ?v8) rfl (by kernel_rfl) (by kernel_rfl) (by kernel_rfl) (by kernel_rfl) (fun _ _ _ h => h) (Or.inl ⟨by rfl, ?hy8⟩) HS5.out ?rest8
        case hy8 =>
          intro W hSw
          (try dsimp only at hSw)
          obtain ⟨s0, s1, s2, s3, s4, s5, s6, s7, s8, s9⟩ := hSw
          go_simp
          try with_reducible rfl
        try simp only [Act.put, List.setIfInBounds_toArray, List.set_cons_zero, List.set_cons_succ]
        refine anyT_take (i := 9) (v := ?v9) rfl (by kernel_rfl) (by kernel_rfl) (by kernel_rfl) (by kernel_rfl) (fun _ _ _ h => h) (Or.inl ⟨by rfl, ?hy9⟩) HS5.out ?rest9
        case hy9 =>
          intro W hSw
          (try dsimp only at hSw)
          obtain ⟨s0, s1, s2, s3, s4, s5, s6, s7, s8, s9⟩ := hSw
          go_simp
          try with_reducible rfl
        try simp only [Act.put, List.setIfInBounds_toArray, List.set_cons_zero, List.set_cons_succ]
        refine anyT_take (i := 10) (v := ?v10) rfl (by kernel_rfl) (by kernel_rfl) (by kernel_rfl) (by kernel_rfl) (fun _ _ _ h => h) (Or.inl ⟨by rfl, ?hy10⟩) HS5.out ?rest10
        case hy10 =>
          intro W hSw
          (try dsimp only at hSw)
          obtain ⟨s0, s1, s2, s3, s4, s5, s6, s7, s8, s9⟩ := hSw
          go_simp
          try with_reducible rfl
        try simp only [Act.put, List.setIfInBounds_toArray, List.set_cons_zero, List.set_cons_succ]
        refine anyT_take (i := 11) (v := ?v11) rfl (by kernel_rfl) (by kernel_rfl) (by kernel_rfl) (by kernel_rfl) (fun _ _ _ h => h) (Or.inl ⟨by rfl, ?hy11⟩) HS5.out ?rest11
        case hy11 =>
          intro W hSw
          (try dsimp only at hSw)
          obtain ⟨s0, s1, s2, s3, s4, s5, s6, s7, s8, s9⟩ := hSw
          go_simp
          try with_reducible rfl
        try simp only [Act.put, List.setIfInBounds_toArray, List.set_cons_zero, List.set_cons_succ]
        refine anyT_take (i := 12) (v := ?v12) rfl (by kernel_rfl) (by kernel_rfl) (by kernel_rfl) (by kernel_rfl) (fun _ _ _ h => h) (Or.inl ⟨by rfl, ?hy12⟩) HS5.out ?rest12
        case hy12 =>
          intro W hSw
          (try dsimp only at hSw)
          obtain ⟨s0, s1, s2, s3, s4, s5, s6, s7, s8, s9⟩ := hSw
          go_simp
          try with_reducible rfl
        try simp only [Act.put, List.setIfInBounds_toArray, List.set_cons_zero, List.set_cons_succ]
        refine anyT_take (i := 13) (v := ?v13) rfl (by kernel_rfl) (by kernel_rfl) (by kernel_rfl) (by kernel_rfl) (fun _ _ _ h => h) (Or.inl ⟨by rfl, ?hy13⟩) HS5.out ?rest13
        case hy13 =>
          intro W hSw
          (try dsimp only at hSw)
          obtain ⟨s0, s1, s2, s3, s4, s5, s6, s7, s8, s9⟩ := hSw
          go_simp
          try with_reducible rfl
        try simp only [Act.put, List.setIfInBounds_toArray, List.set_cons_zero, List.set_cons_succ]
        refine anyT_take (i := 14) (v := ?v14) rfl (by kernel_rfl) (by kernel_rfl) (by kernel_rfl) (by kernel_rfl) (fun _ _ _ h => h) (Or.inl ⟨by rfl, ?hy14⟩) HS5.out ?rest14
        case hy14 =>
          intro W hSw
          (try dsimp only at hSw)
          obtain ⟨s0, s1, s2, s3, s4, s5, s6, s7, s8, s9⟩ := hSw
          go_simp
          try with_reducible rfl
        try simp only [Act.put, List.setIfInBounds_toArray, List.set_cons_zero, List.set_cons_succ]
        refine anyT_take (i := 15) (v := ?v15) rfl (by kernel_rfl) (by kernel_rfl) (by kernel_rfl) (by kernel_rfl) (fun _ _ _ h => h) (Or.inl ⟨by rfl, ?hy15⟩) HS5.out ?rest15
        case hy15 =>
          intro W hSw
          (try dsimp only at hSw)
          obtain ⟨s0, s1, s2, s3, s4, s5, s6, s7, s8, s9⟩ := hSw
          go_simp
          try with_reducible rfl
        try simp only [Act.put, List.setIfInBounds_toArray, List.set_cons_zero, List.set_cons_succ]
        refine anyT_one (i := 16) (by kernel_rfl) rfl (fun K hK => ?_)
        go_simp
        refine hK _ _ (fun _ => HS6.out) ?_
        clear hK K
        refine anyT_one (i := 17) (by kernel_rfl) rfl (fun K hK => ?_)
        refine step_of_wp rfl (wp_app_arcs ((w5.alloc (.cells #[.int .i64 y1, .int .i64 y2, .int .i64 y3, .int .i64 z1, .int .i64 z2, .int .i64 z3] 58)).drew) (.tmp 26) (.tmp 41) rfl w1.heap.size _ _ _ rfl HD6.out.o _ _ _ _ rfl HS2.out (by omega) (by omega) ?_)
        intro v7 w7 ho hg hn
        have f := (HD6.out.grownB hg).frozen 2
        have r := (HD6.out.grownB hg).c2
        have E := Lib.hid (HD6.out.pushed ho rfl hg hn)
        have F := Lib.hid (HD6.out.belowP HB6.out hg (by omega) v7)
        have s6 := HS6.out
        have HS7 := Lib.hid (show w7.cell? ⟨b, 2, none⟩ = some (.slice aa (prn xs p).length ca) ∧ w7.cell? ⟨w.heap.size, 2, none⟩ = some (.slice (some ⟨ba, oa, none⟩) n cap) ∧ w7.cell? ⟨g5, 0, none⟩ = some (.int .i64 (t1 : Int)) ∧ w7.cell? ⟨g5, 1, none⟩ = some (.int .i64 (t2 : Int)) ∧ w7.cell? ⟨ba, oa + t1 * 3, none⟩ = some (.int .i64 y1) ∧ w7.cell? ⟨ba, oa + t1 * 3 + 1, none⟩ = some (.int .i64 y2) ∧ w7.cell? ⟨ba, oa + t1 * 3 + 2, none⟩ = some (.int .i64 y3) ∧ w7.cell? ⟨ba, oa + t2 * 3, none⟩ = some (.int .i64 z1) ∧ w7.cell? ⟨ba, oa + t2 * 3 + 1, none⟩ = some (.int .i64 z2) ∧ w7.cell? ⟨ba, oa + t2 * 3 + 2, none⟩ = some (.int .i64 z3) from ⟨(HD6.out.grownB hg).c2, hg.cell s6.2.1 (HNE.out _ (.inl HKQ.out)), hg.cell s6.2.2.1 (HNE.out _ (.inr rfl)), hg.cell s6.2.2.2.1 (HNE.out _ (.inr rfl)), hg.cell s6.2.2.2.2.1 (HNE.out _ (.inl HBQ.out)), hg.cell s6.2.2.2.2.2.1 (HNE.out _ (.inl HBQ.out)), hg.cell s6.2.2.2.2.2.2.1 (HNE.out _ (.inl HBQ.out)), hg.cell s6.2.2.2.2.2.2.2.1 (HNE.out _ (.inl HBQ.out)), hg.cell s6.2.2.2.2.2.2.2.2.1 (HNE.out _ (.inl HBQ.out)), hg.cell s6.2.2.2.2.2.2.2.2.2 (HNE.out _ (.inl HBQ.out))⟩)
        obtain ⟨a7, c7, rfl, _⟩ := ho.form
        clear ho hg hn s6
        refine hK _ _ (fun _ => HS7.out) ?_
        clear hK K
        try simp only [Act.put, List.setIfInBounds_toArray, List.set_cons_zero, List.set_cons_succ]
        refine anyT_take (i := 18) (v := ?v18) rfl (by kernel_rfl) (by kernel_rfl) (by kernel_rfl) (by kernel_rfl) (fun _ _ _ h => h) (Or.inl ⟨by rfl, ?hy18⟩) HS7.out ?rest18
        case hy18 =>
          intro W hSw
          clear hSw
          go_simp
          try with_reducible rfl
        try simp only [Act.put, List.setIfInBounds_toArray, List.set_cons_zero, List.set_cons_succ]
        refine anyT_one (i := 19) (by kernel_rfl) rfl (fun K hK => ?_)
        go_simp
        refine hK _ _ (fun h => absurd rfl h) ?_
        clear hK K
        refine anyT_done (by kernel_rfl) ?_
        go_wp2_with fail
        go_roundw
        case rel => exact ⟨p + 1, _, hlt, by go_num, by rw [HT.out]; exact E.out, F.out⟩
        case measure => simp [intOf]; omega
      · have hpm : p = m := by omega
        have HX : Hid (Bld wr w1.heap.size (w.heap.size + 1) b L m (.slice aa (prn xs p).length ca) (prn xs m)) := by have h := HD1.out; rw [hpm] at h ⊢; exact h
        rw [hpm] at HX
        clear HD1
        have k1 := HK.out.c1
        have a0 := HX.out.kb.c0
        have a1 := HX.out.kb.c1
        have a2 := HX.out.kb.c2
        have b0 := HX.out.kr.c0
        have b1 := HX.out.kr.c1
        have b2 := HX.out.kr.c2
        have f0 := HX.out.kr.frozen 0
        have f1 := HX.out.kr.frozen 1
        have f2 := HX.out.kr.frozen 2
        go_wp2_with fail
        refine bodyPost_ret (v := .tuple #[.agg #[.int .i64 L, .int .i64 m, .slice aa (prn xs m).length ca], .bool true]) (by simp [results, Try.results33, go_sem, *]) rfl ?_
        exact ⟨_, rfl, (((HX.out.o.setFar HX.out.nr _).setFar HX.out.nr _).setFar HX.out.nr _).mono HB1.out.size, below_lab (step2 HB1.out HB.out) (Nat.le_succ _) _ _ _⟩
end Go.Proofs.Ytaomoahcdlkifaa
