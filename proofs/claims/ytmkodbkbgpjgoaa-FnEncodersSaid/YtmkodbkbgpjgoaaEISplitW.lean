/- ISplitW: a part of the proofs of this seat. -/
import Derived.BigQuiet
import Derived.Test.YtmkodbkbgpjgoaaProg
import Derived.Test.YtmkodbkbgpjgoaaEG0b
import Derived.Test.YtmkodbkbgpjgoaaEG0c
import Derived.Test.YtmkodbkbgpjgoaaEIIsLab
import Derived.Test.YtmkodbkbgpjgoaaEG0a
namespace Go.Proofs.Ytmkodbkbgpjgoaa
open Go.RowKit
set_option linter.all false
theorem Bld.far {w : World} {lo r b : Nat} {L S : Int} {v : Value} {xs : List Ar} (h : Bld w lo r b L S v xs) {c : Nat} (i : Nat) (u : Value) (hb : b ≠ c) (hr : r ≠ c) (hv : v.ownBlock ≠ some c) : Bld (w.setCell ⟨c, i, none⟩ u) lo r b L S v xs :=
  ⟨h.kb.other (p := ⟨c, i, none⟩) hb u, h.kr.other (p := ⟨c, i, none⟩) hr u, h.o.setFar (p := ⟨c, i, none⟩) hv u, h.nb, h.nr, h.ne, h.lb, h.lr⟩
set_option maxRecDepth 20000 in
set_option maxHeartbeats 6400000 in
theorem iSplit_bad (L S : Int) (ao : Option Addr) (n cap : Nat) (xs : List Ar) (p set : Int) (w : World) (h : Arcs w ao n xs) (hno : splOk L S xs p set = false) :
    Calls Try.prog 15 #[.agg #[.int .i64 L, .int .i64 S, .slice ao n cap], .int .i64 p, .int .i64 set] w fun e w' => ∃ v, e = .returned (.tuple #[.agg #[.int .i64 (splL L S xs p set), .int .i64 (splS L S xs p set), v], .bool (splOk L S xs p set)]) ∧ OArcs w' w.heap.size v (splX L S xs p set).length (splX L S xs p set) ∧ Below w.heap.size w w' := by
  rw [show splL L S xs p set = 0 by simp [splL, hno], show splS L S xs p set = 0 by simp [splS, hno], show splX L S xs p set = [] by simp [splX, hno], hno]
  have HB1 := Lib.hid (below1 w (.cells #[.int .i64 L, .int .i64 S, .slice ao n cap] 26))
  have HB2 := Lib.hid (below1 (w.alloc (.cells #[.int .i64 L, .int .i64 S, .slice ao n cap] 26)) (.cells #[.int .i64 0, .int .i64 0, .slice none 0 0] 26))
  have HA1 := Lib.hid (h.keep HB1.out)
  have HK1b := Lib.hid (Blk.new w 26 #[.int .i64 L, .int .i64 S, .slice ao n cap])
  have H2 := Lib.hid (HA1.out.keep HB2.out)
  have HK2 := Lib.hid (HK1b.out.keep HB2.out)
  have HR2 := Lib.hid (Blk.new (w.alloc (.cells #[.int .i64 L, .int .i64 S, .slice ao n cap] 26)) 26 #[.int .i64 0, .int .i64 0, .slice none 0 0])
  have HZ : Hid ((w.alloc (.cells #[.int .i64 L, .int .i64 S, .slice ao n cap] 26)).heap.size = w.heap.size + 1) := by show _ = _; simp
  rw [HZ.out] at HR2
  have HBx : Hid (Below w.heap.size w ((w.alloc (.cells #[.int .i64 L, .int .i64 S, .slice ao n cap] 26)).alloc (.cells #[.int .i64 0, .int .i64 0, .slice none 0 0] 26))) := step2 HB1.out HB2.out
  clear h
  have HNO := Lib.hid hno
  have k0 := HK2.out.c0
  have k1 := HK2.out.c1
  have k2 := HK2.out.c2
  clear hno
  go_enter Try.func15, Try.ntmps15
  go_wp2_with fail
  generalize (w.alloc (.cells #[.int .i64 L, .int .i64 S, .slice ao n cap] 26)).alloc (.cells #[.int .i64 0, .int .i64 0, .slice none 0 0] 26) = w2 at HBx H2 HK2 HR2 HB2 k0 k1 k2 ⊢
  generalize w.alloc (.cells #[.int .i64 L, .int .i64 S, .slice ao n cap] 26) = w1 at HB1 HB2 HZ HA1 HK1b
  clear HA1 HK1b HZ HB1 HB2
  refine (iIsLabels_any _ _ _ _ _ xs _ H2.out).mono ?_
  rintro e w3 ⟨rfl, hb3⟩
  have HB3 := Lib.hid (step2 HBx.out hb3)
  have HR3 := Lib.hid (HR2.out.keep hb3)
  have q := HK2.out.keep hb3
  have k0 := q.c0
  have k1 := q.c1
  have k2 := q.c2
  have H3 := Lib.hid (H2.out.keep hb3)
  clear q hb3
  cases hlab : isLab L S xs
  · clear hlab
    have q := (HR3.out)
    have q0 := q.c0
    have q1 := q.c1
    have q2 := q.c2
    have f0 := q.frozen 0
    have f1 := q.frozen 1
    have f2 := q.frozen 2
    clear q
    go_wp2_with fail
    refine bodyPost_ret (v := .tuple #[.agg #[.int .i64 0, .int .i64 0, .slice none 0 0], .bool false]) (by simp [results, Try.results15, go_sem, *]) rfl ?_
    exact ⟨_, rfl, OArcs.none_ _ _, below_lab (HB3.out) (Nat.le_succ _) _ _ _⟩
  have HLAB := Lib.hid hlab
  have hg := isLab_get hlab
  have hS1 : 1 ≤ S := hg.2.1.1
  have hS12 : S ≤ 12 := hg.2.1.2
  have H36 := fromL_36 (p := p) hlab
  clear hlab hg
  by_cases h12 : S = 12
  · subst h12
    have q := (HR3.out)
    have q0 := q.c0
    have q1 := q.c1
    have q2 := q.c2
    have f0 := q.frozen 0
    have f1 := q.frozen 1
    have f2 := q.frozen 2
    clear q
    go_wp2_with fail
    refine bodyPost_ret (v := .tuple #[.agg #[.int .i64 0, .int .i64 0, .slice none 0 0], .bool false]) (by simp [results, Try.results15, go_sem, *]) rfl ?_
    exact ⟨_, rfl, OArcs.none_ _ _, below_lab (HB3.out) (Nat.le_succ _) _ _ _⟩
  have d12 : (S == 12) = false := by simp [h12]
  by_cases hp0 : p < 0
  · have d1 : decide (p < 0) = true := by simp [hp0]
    have q := (HR3.out)
    have q0 := q.c0
    have q1 := q.c1
    have q2 := q.c2
    have f0 := q.frozen 0
    have f1 := q.frozen 1
    have f2 := q.frozen 2
    clear q
    go_wp2_with fail
    refine bodyPost_ret (v := .tuple #[.agg #[.int .i64 0, .int .i64 0, .slice none 0 0], .bool false]) (by simp [results, Try.results15, go_sem, *]) rfl ?_
    exact ⟨_, rfl, OArcs.none_ _ _, below_lab (HB3.out) (Nat.le_succ _) _ _ _⟩
  have d1 : decide (p < 0) = false := by simp [hp0]
  by_cases hp1 : S ≤ p
  · have d2 : decide (S ≤ p) = true := by simp [hp1]
    have q := (HR3.out)
    have q0 := q.c0
    have q1 := q.c1
    have q2 := q.c2
    have f0 := q.frozen 0
    have f1 := q.frozen 1
    have f2 := q.frozen 2
    clear q
    go_wp2_with fail
    refine bodyPost_ret (v := .tuple #[.agg #[.int .i64 0, .int .i64 0, .slice none 0 0], .bool false]) (by simp [results, Try.results15, go_sem, *]) rfl ?_
    exact ⟨_, rfl, OArcs.none_ _ _, below_lab (HB3.out) (Nat.le_succ _) _ _ _⟩
  have d2 : decide (S ≤ p) = false := by simp [hp1]
  by_cases hs0 : set < 1
  · have d3 : decide (set < 1) = true := by simp [hs0]
    have q := (HR3.out)
    have q0 := q.c0
    have q1 := q.c1
    have q2 := q.c2
    have f0 := q.frozen 0
    have f1 := q.frozen 1
    have f2 := q.frozen 2
    clear q
    go_wp2_with fail
    refine bodyPost_ret (v := .tuple #[.agg #[.int .i64 0, .int .i64 0, .slice none 0 0], .bool false]) (by simp [results, Try.results15, go_sem, *]) rfl ?_
    exact ⟨_, rfl, OArcs.none_ _ _, below_lab (HB3.out) (Nat.le_succ _) _ _ _⟩
  have d3 : decide (set < 1) = false := by simp [hs0]
  obtain ⟨m, hm⟩ : ∃ m, (fromL p xs).length = m := ⟨_, rfl⟩
  rw [hm] at H36
  have HSET : Hid (decide (wrap64 (wrap64 (2 ^ m) - 2) < set) = true) := by
    show _ = _
    rw [← hm]
    have h0 := HNO.out
    have e1 : inR p 0 (S - 1) = true := inR_mk ⟨by omega, by omega⟩
    simp only [splOk, HLAB.out, d12, e1, Bool.not_false, Bool.true_and] at h0
    rcases inR_false h0 with h1 | h1
    · omega
    · exact decide_eq_true h1
  go_wp2_with fail
  refine (iFrom_any _ _ _ _ _ xs p _ H3.out).mono ?_
  rintro e w4 ⟨v4, rfl, ho4, hb4⟩
  obtain ⟨a4, c4, rfl, _⟩ := ho4.form
  rw [hm]
  have HB4 := Lib.hid (step2 HB3.out hb4)
  have HR4 := Lib.hid (HR3.out.keep hb4)
  have d4 := HSET.out
  clear k0 k1 k2 ho4 hb4
  have q := (HR4.out)
  have q0 := q.c0
  have q1 := q.c1
  have q2 := q.c2
  have f0 := q.frozen 0
  have f1 := q.frozen 1
  have f2 := q.frozen 2
  clear q
  go_wp2_with fail
  refine bodyPost_ret (v := .tuple #[.agg #[.int .i64 0, .int .i64 0, .slice none 0 0], .bool false]) (by simp [results, Try.results15, go_sem, *]) rfl ?_
  exact ⟨_, rfl, OArcs.none_ _ _, below_lab (HB4.out) (Nat.le_succ _) _ _ _⟩
set_option maxRecDepth 20000 in
set_option maxHeartbeats 6400000 in
theorem iSplit_ok (L S : Int) (ao : Option Addr) (n cap : Nat) (xs : List Ar) (p set : Int) (w : World) (h : Arcs w ao n xs) (hok : splOk L S xs p set = true) :
    Calls Try.prog 15 #[.agg #[.int .i64 L, .int .i64 S, .slice ao n cap], .int .i64 p, .int .i64 set] w fun e w' => ∃ v, e = .returned (.tuple #[.agg #[.int .i64 (splL L S xs p set), .int .i64 (splS L S xs p set), v], .bool (splOk L S xs p set)]) ∧ OArcs w' w.heap.size v (splX L S xs p set).length (splX L S xs p set) ∧ Below w.heap.size w w' := by
  rw [show splL L S xs p set = L by simp [splL, hok], show splS L S xs p set = S + 1 by simp [splS, hok]]
  obtain ⟨hlab, h12, hp, hset⟩ := splOk_get hok
  have HSO := Lib.hid (splX_sorted hok).2
  have hpos := splitL_pos hok
  have HOK := Lib.hid hok
  rw [hok]
  clear hok
  have HL := Lib.hid h.1
  have HB1 := Lib.hid (below1 w (.cells #[.int .i64 L, .int .i64 S, .slice ao n cap] 26))
  have HB2 := Lib.hid (below1 (w.alloc (.cells #[.int .i64 L, .int .i64 S, .slice ao n cap] 26)) (.cells #[.int .i64 0, .int .i64 0, .slice none 0 0] 26))
  have HA1 := Lib.hid (h.keep HB1.out)
  have HK1b := Lib.hid (Blk.new w 26 #[.int .i64 L, .int .i64 S, .slice ao n cap])
  have H2 := Lib.hid (HA1.out.keep HB2.out)
  have HK2 := Lib.hid (HK1b.out.keep HB2.out)
  have HR2 := Lib.hid (Blk.new (w.alloc (.cells #[.int .i64 L, .int .i64 S, .slice ao n cap] 26)) 26 #[.int .i64 0, .int .i64 0, .slice none 0 0])
  have HZ : Hid ((w.alloc (.cells #[.int .i64 L, .int .i64 S, .slice ao n cap] 26)).heap.size = w.heap.size + 1) := by show _ = _; simp
  rw [HZ.out] at HR2
  have HBx : Hid (Below w.heap.size w ((w.alloc (.cells #[.int .i64 L, .int .i64 S, .slice ao n cap] 26)).alloc (.cells #[.int .i64 0, .int .i64 0, .slice none 0 0] 26))) := step2 HB1.out HB2.out
  clear h
  have k0 := HK2.out.c0
  have k1 := HK2.out.c1
  have k2 := HK2.out.c2
  have HI := Lib.hid hlab
  have hg := isLab_get hlab
  have hS1 : 1 ≤ S := hg.2.1.1
  have hS12 : S ≤ 12 := hg.2.1.2
  have H36 := fromL_36 (p := p) hlab
  have hn : n ≤ 432 := by rw [← HL.out]; exact isLab_432 hlab
  clear hlab hg
  have hp := inR_true hp
  have hset := inR_true hset
  have d12 : (S == 12) = false := by simp [h12]
  have d1 : decide (p < 0) = false := by simp; omega
  have d2 : decide (S ≤ p) = false := by simp; omega
  have d3 : decide (set < 1) = false := by simp; omega
  obtain ⟨m, hm⟩ : ∃ m, (fromL p xs).length = m := ⟨_, rfl⟩
  rw [hm] at H36 hset
  have d4 : decide (wrap64 (wrap64 (2 ^ m) - 2) < set) = false := by simp; omega
  have hwS1 : IntKind.i64.wrap (S + 1) = S + 1 := by rw [IntKind.wrap_i64]; omega
  clear hset h12 hp
  go_enter Try.func15, Try.ntmps15
  go_wp2_with fail
  generalize (w.alloc (.cells #[.int .i64 L, .int .i64 S, .slice ao n cap] 26)).alloc (.cells #[.int .i64 0, .int .i64 0, .slice none 0 0] 26) = w2 at HBx H2 HK2 HR2 HB2 k0 k1 k2 ⊢
  generalize w.alloc (.cells #[.int .i64 L, .int .i64 S, .slice ao n cap] 26) = w1 at HB1 HB2 HZ HA1 HK1b
  refine (iIsLabels_any _ _ _ _ _ xs _ H2.out).mono ?_
  rw [HI.out]
  rintro e w3 ⟨rfl, hb3⟩
  have HBb := Lib.hid (step2 HB2.out hb3)
  have HR3 := Lib.hid (HR2.out.keep hb3)
  have HK3 := Lib.hid (HK2.out.keep hb3)
  have k0 := HK3.out.c0
  have k1 := HK3.out.c1
  have k2 := HK3.out.c2
  have H3 := Lib.hid (H2.out.keep hb3)
  clear hb3
  go_wp2_with fail
  refine (iFrom_any _ _ _ _ _ xs p _ H3.out).mono ?_
  rintro e w4 ⟨v4, rfl, ho4, hb4⟩
  obtain ⟨a4, c4, rfl, _⟩ := ho4.form
  rw [hm]
  have HBc := Lib.hid (step2 HBb.out hb4)
  have HR4 := Lib.hid (HR3.out.keep hb4)
  have HK4 := Lib.hid (HK3.out.keep hb4)
  have H4 := Lib.hid (H3.out.keep hb4)
  have hsz4 : w.heap.size + 1 < w4.heap.size := HR4.out.lt
  have k0 := HK4.out.c0
  have k1 := HK4.out.c1
  have k2 := HK4.out.c2
  clear ho4 hb4
  have HB5 := Lib.hid (below1 w4 (.cells #[.int .i64 L, .int .i64 (S + 1), .slice none 0 0] 26))
  have H5 := Lib.hid (H4.out.keep HB5.out)
  have HK5 := Lib.hid (HK4.out.keep HB5.out)
  have HBd := Lib.hid (step2 HBc.out HB5.out)
  have HD := Lib.hid (show Bld (w4.alloc (.cells #[.int .i64 L, .int .i64 (S + 1), .slice none 0 0] 26)) w1.heap.size (w.heap.size + 1) w4.heap.size L (S + 1) (.slice none 0 0) [] from ⟨Blk.new w4 _ _, HR4.out.keep HB5.out, OArcs.none_ _ _, by simp [Value.ownBlock], by simp [Value.ownBlock], by omega, by have := HZ.out; omega, by have := HZ.out; omega⟩)
  have r1 := HK5.out.c1
  have r2 := HK5.out.c2
  go_wp2_with fail
  clear k0 k1 k2 r1 r2
  obtain ⟨b, hbn⟩ : ∃ b, w4.heap.size = b := ⟨_, rfl⟩
  rw [hbn] at HD
  simp only [hbn]
  generalize w4.alloc (.cells #[.int .i64 L, .int .i64 (S + 1), .slice none 0 0] 26) = w5 at HB5 H5 HK5 HBd HD ⊢
  clear hbn hsz4
  go_loopw [9, 54] (fun a x wr => ∃ (k t : Nat) (v : Value) (acc : List Ar), k ≤ n ∧ a = .int .i64 t ∧ t ≤ k ∧ x = .int .i64 k ∧ acc.length ≤ k + k ∧ Bld wr w1.heap.size (w.heap.size + 1) b L (S + 1) v acc ∧ Hid (acc ++ splitL S p (bitS set) t (xs.drop k) = splitL S p (bitS set) 0 xs) ∧ Below w1.heap.size w1 wr) (fun _ x _ => n - (intOf x).toNat)
  case atStart => exact ⟨0, 0, _, [], Nat.zero_le _, rfl, Nat.le_refl _, rfl, Nat.zero_le _, HD.out, rfl, HBd.out⟩
  case round =>
    obtain ⟨k, t, v, acc, hk, rfl, htk, rfl, hacc, hd, heq, hbl⟩ := hrel
    obtain ⟨wo, rfl⟩ : ∃ wo : World, wo = wr := ⟨_, rfl⟩
    obtain ⟨aa, ca, rfl, _⟩ := hd.o.form
    clear HD HBd
    have Hbl := Lib.hid hbl
    have k1 := (HK1b.out.keep hbl).c1
    have k2 := (HK1b.out.keep hbl).c2
    by_cases hlt : k < n
    · obtain ⟨bx, ox, x, y, z, rfl, c1, c2, c3, hx⟩ := (HA1.out.keep hbl).at_ hlt
      have HST := Lib.hid (split_step hx.out heq.out)
      have HA0 := Lib.hid (Blk.new wo 55 #[.int .i64 x, .int .i64 y, .int .i64 z])
      have HBA := Lib.hid (fun f : Int => below1 wo (.cells #[.int .i64 f, .int .i64 y, .int .i64 z] 55))
      have HA := Lib.hid (fun f : Int => Blk.new wo 55 #[.int .i64 f, .int .i64 y, .int .i64 z])
      have HDA := Lib.hid (fun f : Int => hd.keep (HBA.out f))
      have HOW : Hid (∀ g, (Value.slice aa acc.length ca).ownBlock = some g → g < wo.heap.size) := fun g e => (hd.o.ownlt g e).2
      have a0 := HA0.out.c0
      have a1 := HA0.out.c1
      have a2 := HA0.out.c2
      have j1 := ((HK1b.out.keep hbl).keep (HBA.out x)).c1
      have hsz := hbl.size
      have htk2 : t ≤ 1048576 := by omega
      have hbw : b < wo.heap.size := hd.kb.lt
      have hrw : w.heap.size + 1 < wo.heap.size := hd.kr.lt
      have hbo : b ≠ wo.heap.size := by omega
      have hob : wo.heap.size ≠ b := by omega
      have d0 := fun f : Int => (HDA.out f).kb.c2
      clear hx hd hbl heq HA0
      by_cases hxp : x = p
      · have h1 : (x == p) = true := by simp [hxp]
        cases hb : bitS set t
        · have h2 : (bits BinOp.and IntKind.i64 (set / 2 ^ min t 64) 1 == 0) = false := hb
          have HNX := Lib.hid (HST.out.2.1 hxp hb)
          clear hxp hb HST
          by_cases hyp : y = p
          · have h5 : (y == p) = true := by simp [hyp]
            have HQ : Hid ((acc ++ [(x, y, z)]) ++ [(x, S, z)] ++ splitL S p (bitS set) (t + 1) (xs.drop (k + 1)) = splitL S p (bitS set) 0 xs) := by show _ = _; rw [← HNX.out]; simp [splitOne, hyp]
            clear hyp
            go_wp2_with (at_builtin; first
              | (go_loud (refine wpList_push_arc ((w6.setCell ⟨b, 2, none⟩ (.slice a6 (acc.length + 1) c6)).setCell ⟨wo.heap.size, 1, none⟩ (.int .i64 S)) (x, S, z) rfl (.tmp 86) (.tmp 88) rfl w1.heap.size _ (acc.length + 1) _ rfl (by have := (HD6.out.far (c := wo.heap.size) 1 (.int .i64 S) hbo (Nat.ne_of_lt hrw) (fun e => HN6.out _ e rfl)).o; rwa [List.length_append] at this) (by omega) (by simp; have := HB6.out.size; simp at this; omega) _ (by simp) rfl ?_); intro v8 w8 ho8 hg8 hn8; obtain ⟨a8, c8, rfl, _⟩ := ho8.form; have HDf := HD6.out.far (c := wo.heap.size) 1 (.int .i64 S) hbo (Nat.ne_of_lt hrw) (fun e => HN6.out _ e rfl); have HD8 := Lib.hid (HDf.pushed (k := 1) (by rw [List.length_append]; exact ho8) rfl hg8 hn8); have HB8 := Lib.hid (HDf.belowP (HB6.out.setCell (p := ⟨wo.heap.size, 1, none⟩) (show w1.heap.size ≤ wo.heap.size from hsz) (.int .i64 S)) hg8 (by simp; have := HB6.out.size; simp at this; omega) (.slice a8 (acc.length + 1 + 1) c8)); have r8 := (HDf.grownB hg8).c2; have f8 := (HDf.grownB hg8).frozen 2; clear ho8 hg8 hn8 HDf)
              | (go_loud (refine wpList_push_arc (wo.alloc (.cells #[.int .i64 x, .int .i64 y, .int .i64 z] 55)) (x, y, z) rfl (.tmp 73) (.tmp 75) rfl w1.heap.size _ acc.length acc rfl (by exact (HDA.out x).o) (by omega) (by simp; omega) _ (by simp) rfl ?_); intro v6 w6 ho6 hg6 hn6; obtain ⟨a6, c6, rfl, _⟩ := ho6.form; have HD6 := Lib.hid ((HDA.out x).pushed ho6 rfl hg6 hn6); have HB6 := Lib.hid ((HDA.out x).belowP (Hbl.out.trans ((HBA.out x).mono hsz)) hg6 (by simp; omega) (.slice a6 (acc.length + 1) c6)); have HAg := (HA.out x).grown hg6 (fun e => by have := HOW.out _ e.symm; omega); have HA6 := Lib.hid (HAg.other (p := ⟨b, 2, none⟩) hob (.slice a6 (acc.length + 1) c6)); have r6 := ((HDA.out x).grownB hg6).c2; have f6 := ((HDA.out x).grownB hg6).frozen 2; have b0 := HA6.out.c0; have b1 := HA6.out.c1; have b2 := HA6.out.c2; have fz := HA6.out.frozen 1; have j6 := (HK1b.out.keep HB6.out).c1; have HN6 : Hid (∀ g, (Value.slice a6 (acc.length + 1) c6).ownBlock = some g → g ≠ wo.heap.size) := (fun g e => by rcases hn6 with h6 | ⟨d, h6, hd⟩; (· have := HOW.out g (h6.symm.trans e); omega); (· rw [h6] at e; injection e with e; simp at hd; omega)); clear ho6 hg6 hn6 HAg))
            go_roundw
            case rel =>
              first | exact ⟨k + 1, (t + 1), _, _, hlt, by go_num, by omega, by go_num, by simp; omega, HD8.out, HQ, HB8.out⟩ | ((repeat apply Exists.intro); exact ⟨⟨k + 1, (t + 1), _, _, hlt, by go_num, by omega, by go_num, by simp; omega, HD8.out, HQ, HB8.out⟩, rfl⟩)
            case measure => simp [intOf]; omega
          · have h5 : (y == p) = false := by simp [hyp]
            have HQ : Hid ((acc ++ [(x, y, z)]) ++ splitL S p (bitS set) (t + 1) (xs.drop (k + 1)) = splitL S p (bitS set) 0 xs) := by show _ = _; rw [← HNX.out]; simp [splitOne, hyp]
            clear hyp
            go_wp2_with (at_builtin; first
              | (go_loud (refine wpList_push_arc (wo.alloc (.cells #[.int .i64 x, .int .i64 y, .int .i64 z] 55)) (x, y, z) rfl (.tmp 73) (.tmp 75) rfl w1.heap.size _ acc.length acc rfl (by exact (HDA.out x).o) (by omega) (by simp; omega) _ (by simp) rfl ?_); intro v6 w6 ho6 hg6 hn6; obtain ⟨a6, c6, rfl, _⟩ := ho6.form; have HD6 := Lib.hid ((HDA.out x).pushed ho6 rfl hg6 hn6); have HB6 := Lib.hid ((HDA.out x).belowP (Hbl.out.trans ((HBA.out x).mono hsz)) hg6 (by simp; omega) (.slice a6 (acc.length + 1) c6)); have HAg := (HA.out x).grown hg6 (fun e => by have := HOW.out _ e.symm; omega); have HA6 := Lib.hid (HAg.other (p := ⟨b, 2, none⟩) hob (.slice a6 (acc.length + 1) c6)); have r6 := ((HDA.out x).grownB hg6).c2; have f6 := ((HDA.out x).grownB hg6).frozen 2; have b0 := HA6.out.c0; have b1 := HA6.out.c1; have b2 := HA6.out.c2; have fz := HA6.out.frozen 1; have j6 := (HK1b.out.keep HB6.out).c1; have HN6 : Hid (∀ g, (Value.slice a6 (acc.length + 1) c6).ownBlock = some g → g ≠ wo.heap.size) := (fun g e => by rcases hn6 with h6 | ⟨d, h6, hd⟩; (· have := HOW.out g (h6.symm.trans e); omega); (· rw [h6] at e; injection e with e; simp at hd; omega)); clear ho6 hg6 hn6 HAg))
            go_roundw
            case rel =>
              first | exact ⟨k + 1, (t + 1), _, _, hlt, by go_num, by omega, by go_num, by simp; omega, HD6.out, HQ, HB6.out⟩ | ((repeat apply Exists.intro); exact ⟨⟨k + 1, (t + 1), _, _, hlt, by go_num, by omega, by go_num, by simp; omega, HD6.out, HQ, HB6.out⟩, rfl⟩)
            case measure => simp [intOf]; omega
        · have h2 : (bits BinOp.and IntKind.i64 (set / 2 ^ min t 64) 1 == 0) = true := hb
          have HNX := Lib.hid (HST.out.1 hxp hb)
          clear hxp hb HST
          by_cases hyp : y = p
          · have h5 : (y == p) = true := by simp [hyp]
            have HQ : Hid ((acc ++ [(S, y, z)]) ++ [(S, S, z)] ++ splitL S p (bitS set) (t + 1) (xs.drop (k + 1)) = splitL S p (bitS set) 0 xs) := by show _ = _; rw [← HNX.out]; simp [splitOne, hyp]
            clear hyp
            go_wp2_with (at_builtin; first
              | (go_loud (refine wpList_push_arc ((w6.setCell ⟨b, 2, none⟩ (.slice a6 (acc.length + 1) c6)).setCell ⟨wo.heap.size, 1, none⟩ (.int .i64 S)) (S, S, z) rfl (.tmp 86) (.tmp 88) rfl w1.heap.size _ (acc.length + 1) _ rfl (by have := (HD6.out.far (c := wo.heap.size) 1 (.int .i64 S) hbo (Nat.ne_of_lt hrw) (fun e => HN6.out _ e rfl)).o; rwa [List.length_append] at this) (by omega) (by simp; have := HB6.out.size; simp at this; omega) _ (by simp) rfl ?_); intro v8 w8 ho8 hg8 hn8; obtain ⟨a8, c8, rfl, _⟩ := ho8.form; have HDf := HD6.out.far (c := wo.heap.size) 1 (.int .i64 S) hbo (Nat.ne_of_lt hrw) (fun e => HN6.out _ e rfl); have HD8 := Lib.hid (HDf.pushed (k := 1) (by rw [List.length_append]; exact ho8) rfl hg8 hn8); have HB8 := Lib.hid (HDf.belowP (HB6.out.setCell (p := ⟨wo.heap.size, 1, none⟩) (show w1.heap.size ≤ wo.heap.size from hsz) (.int .i64 S)) hg8 (by simp; have := HB6.out.size; simp at this; omega) (.slice a8 (acc.length + 1 + 1) c8)); have r8 := (HDf.grownB hg8).c2; have f8 := (HDf.grownB hg8).frozen 2; clear ho8 hg8 hn8 HDf)
              | (go_loud (refine wpList_push_arc (wo.alloc (.cells #[.int .i64 S, .int .i64 y, .int .i64 z] 55)) (S, y, z) rfl (.tmp 73) (.tmp 75) rfl w1.heap.size _ acc.length acc rfl (by exact (HDA.out S).o) (by omega) (by simp; omega) _ (by simp) rfl ?_); intro v6 w6 ho6 hg6 hn6; obtain ⟨a6, c6, rfl, _⟩ := ho6.form; have HD6 := Lib.hid ((HDA.out S).pushed ho6 rfl hg6 hn6); have HB6 := Lib.hid ((HDA.out S).belowP (Hbl.out.trans ((HBA.out S).mono hsz)) hg6 (by simp; omega) (.slice a6 (acc.length + 1) c6)); have HAg := (HA.out S).grown hg6 (fun e => by have := HOW.out _ e.symm; omega); have HA6 := Lib.hid (HAg.other (p := ⟨b, 2, none⟩) hob (.slice a6 (acc.length + 1) c6)); have r6 := ((HDA.out S).grownB hg6).c2; have f6 := ((HDA.out S).grownB hg6).frozen 2; have b0 := HA6.out.c0; have b1 := HA6.out.c1; have b2 := HA6.out.c2; have fz := HA6.out.frozen 1; have j6 := (HK1b.out.keep HB6.out).c1; have HN6 : Hid (∀ g, (Value.slice a6 (acc.length + 1) c6).ownBlock = some g → g ≠ wo.heap.size) := (fun g e => by rcases hn6 with h6 | ⟨d, h6, hd⟩; (· have := HOW.out g (h6.symm.trans e); omega); (· rw [h6] at e; injection e with e; simp at hd; omega)); clear ho6 hg6 hn6 HAg))
            go_roundw
            case rel =>
              first | exact ⟨k + 1, (t + 1), _, _, hlt, by go_num, by omega, by go_num, by simp; omega, HD8.out, HQ, HB8.out⟩ | ((repeat apply Exists.intro); exact ⟨⟨k + 1, (t + 1), _, _, hlt, by go_num, by omega, by go_num, by simp; omega, HD8.out, HQ, HB8.out⟩, rfl⟩)
            case measure => simp [intOf]; omega
          · have h5 : (y == p) = false := by simp [hyp]
            have HQ : Hid ((acc ++ [(S, y, z)]) ++ splitL S p (bitS set) (t + 1) (xs.drop (k + 1)) = splitL S p (bitS set) 0 xs) := by show _ = _; rw [← HNX.out]; simp [splitOne, hyp]
            clear hyp
            go_wp2_with (at_builtin; first
              | (go_loud (refine wpList_push_arc (wo.alloc (.cells #[.int .i64 S, .int .i64 y, .int .i64 z] 55)) (S, y, z) rfl (.tmp 73) (.tmp 75) rfl w1.heap.size _ acc.length acc rfl (by exact (HDA.out S).o) (by omega) (by simp; omega) _ (by simp) rfl ?_); intro v6 w6 ho6 hg6 hn6; obtain ⟨a6, c6, rfl, _⟩ := ho6.form; have HD6 := Lib.hid ((HDA.out S).pushed ho6 rfl hg6 hn6); have HB6 := Lib.hid ((HDA.out S).belowP (Hbl.out.trans ((HBA.out S).mono hsz)) hg6 (by simp; omega) (.slice a6 (acc.length + 1) c6)); have HAg := (HA.out S).grown hg6 (fun e => by have := HOW.out _ e.symm; omega); have HA6 := Lib.hid (HAg.other (p := ⟨b, 2, none⟩) hob (.slice a6 (acc.length + 1) c6)); have r6 := ((HDA.out S).grownB hg6).c2; have f6 := ((HDA.out S).grownB hg6).frozen 2; have b0 := HA6.out.c0; have b1 := HA6.out.c1; have b2 := HA6.out.c2; have fz := HA6.out.frozen 1; have j6 := (HK1b.out.keep HB6.out).c1; have HN6 : Hid (∀ g, (Value.slice a6 (acc.length + 1) c6).ownBlock = some g → g ≠ wo.heap.size) := (fun g e => by rcases hn6 with h6 | ⟨d, h6, hd⟩; (· have := HOW.out g (h6.symm.trans e); omega); (· rw [h6] at e; injection e with e; simp at hd; omega)); clear ho6 hg6 hn6 HAg))
            go_roundw
            case rel =>
              first | exact ⟨k + 1, (t + 1), _, _, hlt, by go_num, by omega, by go_num, by simp; omega, HD6.out, HQ, HB6.out⟩ | ((repeat apply Exists.intro); exact ⟨⟨k + 1, (t + 1), _, _, hlt, by go_num, by omega, by go_num, by simp; omega, HD6.out, HQ, HB6.out⟩, rfl⟩)
            case measure => simp [intOf]; omega
      · have h1 : (x == p) = false := by simp [hxp]
        have HNX := Lib.hid (HST.out.2.2 hxp)
        clear hxp HST
        by_cases hyp : y = p
        · have h5 : (y == p) = true := by simp [hyp]
          have HQ : Hid ((acc ++ [(x, y, z)]) ++ [(x, S, z)] ++ splitL S p (bitS set) t (xs.drop (k + 1)) = splitL S p (bitS set) 0 xs) := by show _ = _; rw [← HNX.out]; simp [splitOne, hyp]
          clear hyp
          go_wp2_with (at_builtin; first
            | (go_loud (refine wpList_push_arc ((w6.setCell ⟨b, 2, none⟩ (.slice a6 (acc.length + 1) c6)).setCell ⟨wo.heap.size, 1, none⟩ (.int .i64 S)) (x, S, z) rfl (.tmp 86) (.tmp 88) rfl w1.heap.size _ (acc.length + 1) _ rfl (by have := (HD6.out.far (c := wo.heap.size) 1 (.int .i64 S) hbo (Nat.ne_of_lt hrw) (fun e => HN6.out _ e rfl)).o; rwa [List.length_append] at this) (by omega) (by simp; have := HB6.out.size; simp at this; omega) _ (by simp) rfl ?_); intro v8 w8 ho8 hg8 hn8; obtain ⟨a8, c8, rfl, _⟩ := ho8.form; have HDf := HD6.out.far (c := wo.heap.size) 1 (.int .i64 S) hbo (Nat.ne_of_lt hrw) (fun e => HN6.out _ e rfl); have HD8 := Lib.hid (HDf.pushed (k := 1) (by rw [List.length_append]; exact ho8) rfl hg8 hn8); have HB8 := Lib.hid (HDf.belowP (HB6.out.setCell (p := ⟨wo.heap.size, 1, none⟩) (show w1.heap.size ≤ wo.heap.size from hsz) (.int .i64 S)) hg8 (by simp; have := HB6.out.size; simp at this; omega) (.slice a8 (acc.length + 1 + 1) c8)); have r8 := (HDf.grownB hg8).c2; have f8 := (HDf.grownB hg8).frozen 2; clear ho8 hg8 hn8 HDf)
            | (go_loud (refine wpList_push_arc (wo.alloc (.cells #[.int .i64 x, .int .i64 y, .int .i64 z] 55)) (x, y, z) rfl (.tmp 73) (.tmp 75) rfl w1.heap.size _ acc.length acc rfl (by exact (HDA.out x).o) (by omega) (by simp; omega) _ (by simp) rfl ?_); intro v6 w6 ho6 hg6 hn6; obtain ⟨a6, c6, rfl, _⟩ := ho6.form; have HD6 := Lib.hid ((HDA.out x).pushed ho6 rfl hg6 hn6); have HB6 := Lib.hid ((HDA.out x).belowP (Hbl.out.trans ((HBA.out x).mono hsz)) hg6 (by simp; omega) (.slice a6 (acc.length + 1) c6)); have HAg := (HA.out x).grown hg6 (fun e => by have := HOW.out _ e.symm; omega); have HA6 := Lib.hid (HAg.other (p := ⟨b, 2, none⟩) hob (.slice a6 (acc.length + 1) c6)); have r6 := ((HDA.out x).grownB hg6).c2; have f6 := ((HDA.out x).grownB hg6).frozen 2; have b0 := HA6.out.c0; have b1 := HA6.out.c1; have b2 := HA6.out.c2; have fz := HA6.out.frozen 1; have j6 := (HK1b.out.keep HB6.out).c1; have HN6 : Hid (∀ g, (Value.slice a6 (acc.length + 1) c6).ownBlock = some g → g ≠ wo.heap.size) := (fun g e => by rcases hn6 with h6 | ⟨d, h6, hd⟩; (· have := HOW.out g (h6.symm.trans e); omega); (· rw [h6] at e; injection e with e; simp at hd; omega)); clear ho6 hg6 hn6 HAg))
          go_roundw
          case rel =>
            first | exact ⟨k + 1, t, _, _, hlt, by go_num, by omega, by go_num, by simp; omega, HD8.out, HQ, HB8.out⟩ | ((repeat apply Exists.intro); exact ⟨⟨k + 1, t, _, _, hlt, by go_num, by omega, by go_num, by simp; omega, HD8.out, HQ, HB8.out⟩, rfl⟩)
          case measure => simp [intOf]; omega
        · have h5 : (y == p) = false := by simp [hyp]
          have HQ : Hid ((acc ++ [(x, y, z)]) ++ splitL S p (bitS set) t (xs.drop (k + 1)) = splitL S p (bitS set) 0 xs) := by show _ = _; rw [← HNX.out]; simp [splitOne, hyp]
          clear hyp
          go_wp2_with (at_builtin; first
            | (go_loud (refine wpList_push_arc (wo.alloc (.cells #[.int .i64 x, .int .i64 y, .int .i64 z] 55)) (x, y, z) rfl (.tmp 73) (.tmp 75) rfl w1.heap.size _ acc.length acc rfl (by exact (HDA.out x).o) (by omega) (by simp; omega) _ (by simp) rfl ?_); intro v6 w6 ho6 hg6 hn6; obtain ⟨a6, c6, rfl, _⟩ := ho6.form; have HD6 := Lib.hid ((HDA.out x).pushed ho6 rfl hg6 hn6); have HB6 := Lib.hid ((HDA.out x).belowP (Hbl.out.trans ((HBA.out x).mono hsz)) hg6 (by simp; omega) (.slice a6 (acc.length + 1) c6)); have HAg := (HA.out x).grown hg6 (fun e => by have := HOW.out _ e.symm; omega); have HA6 := Lib.hid (HAg.other (p := ⟨b, 2, none⟩) hob (.slice a6 (acc.length + 1) c6)); have r6 := ((HDA.out x).grownB hg6).c2; have f6 := ((HDA.out x).grownB hg6).frozen 2; have b0 := HA6.out.c0; have b1 := HA6.out.c1; have b2 := HA6.out.c2; have fz := HA6.out.frozen 1; have j6 := (HK1b.out.keep HB6.out).c1; have HN6 : Hid (∀ g, (Value.slice a6 (acc.length + 1) c6).ownBlock = some g → g ≠ wo.heap.size) := (fun g e => by rcases hn6 with h6 | ⟨d, h6, hd⟩; (· have := HOW.out g (h6.symm.trans e); omega); (· rw [h6] at e; injection e with e; simp at hd; omega)); clear ho6 hg6 hn6 HAg))
          go_roundw
          case rel =>
            first | exact ⟨k + 1, t, _, _, hlt, by go_num, by omega, by go_num, by simp; omega, HD6.out, HQ, HB6.out⟩ | ((repeat apply Exists.intro); exact ⟨⟨k + 1, t, _, _, hlt, by go_num, by omega, by go_num, by simp; omega, HD6.out, HQ, HB6.out⟩, rfl⟩)
          case measure => simp [intOf]; omega
    · have hkn : k = n := by omega
      have HEQ : Hid (acc = splitL S p (bitS set) 0 xs) := by
        show _ = _
        have := heq.out
        rw [hkn, List.drop_eq_nil_of_le (by have := HL.out; omega)] at this
        simpa [splitL] using this
      obtain rfl := HEQ.out
      obtain ⟨g, rfl⟩ : ∃ g, aa = some ⟨g, 0, none⟩ := by
        rcases hd.o.two with ⟨_, h0⟩ | h1
        · omega
        · exact h1
      have HD9 := Lib.hid hd
      have HB9 := Lib.hid hbl
      have d2b := hd.kb.c2
      clear heq hd hbl k1
      go_wp2_with fail
      refine (sortArc_any w1.heap.size g _ _ (splitL S p (bitS set) 0 xs) _ HD9.out.o).mono ?_
      rw [HSO.out]
      rintro e wz ⟨rfl, hoz, hgz⟩
      have HKZ := Lib.hid (HD9.out.kb.grown hgz (Ne.symm HD9.out.nb))
      have HRZ := Lib.hid (HD9.out.kr.grown hgz (Ne.symm HD9.out.nr))
      have HOZ := Lib.hid hoz
      have HBZ := Lib.hid (HB9.out.grown (row := some g) hgz HB9.out.size (fun c hc => (HD9.out.o.ownlt c hc).1))
      have a0 := HKZ.out.c0
      have a1 := HKZ.out.c1
      have a2 := HKZ.out.c2
      have b0 := HRZ.out.c0
      have b1 := HRZ.out.c1
      have b2 := HRZ.out.c2
      have f0 := HRZ.out.frozen 0
      have f1 := HRZ.out.frozen 1
      have f2 := HRZ.out.frozen 2
      clear hoz hgz d2b k2
      go_wp2_with fail
      have hle : (splX L S xs p set).length = (splitL S p (bitS set) 0 xs).length := by rw [← HSO.out, sortA_len]
      have hzz := HZ.out
      rw [← hle]
      have hO := HOZ.out
      rw [← hle] at hO
      refine bodyPost_ret (v := .tuple #[.agg #[.int .i64 L, .int .i64 (S + 1), .slice (some ⟨g, 0, none⟩) (splX L S xs p set).length ca], .bool true]) (by simp [results, Try.results15, go_sem, *]) rfl ?_
      have hne : (Value.slice (some ⟨g, 0, none⟩) (splX L S xs p set).length ca).ownBlock ≠ some (w.heap.size + 1) := HD9.out.nr
      exact ⟨_, rfl, (((hO.setFar (p := ⟨w.heap.size + 1, 0, none⟩) hne _).setFar (p := ⟨w.heap.size + 1, 1, none⟩) hne _).setFar (p := ⟨w.heap.size + 1, 2, none⟩) hne _).mono (by omega), below_lab (step2 HB1.out HBZ.out) (Nat.le_succ _) _ _ _⟩
theorem iSplitState_any (L S : Int) (ao : Option Addr) (n cap : Nat) (xs : List Ar) (p set : Int) (w : World) (h : Arcs w ao n xs) :
    Calls Try.prog 15 #[.agg #[.int .i64 L, .int .i64 S, .slice ao n cap], .int .i64 p, .int .i64 set] w fun e w' => ∃ v, e = .returned (.tuple #[.agg #[.int .i64 (splL L S xs p set), .int .i64 (splS L S xs p set), v], .bool (splOk L S xs p set)]) ∧ OArcs w' w.heap.size v (splX L S xs p set).length (splX L S xs p set) ∧ Below w.heap.size w w' := by
  cases hok : splOk L S xs p set
  · have := iSplit_bad L S ao n cap xs p set w h hok
    rwa [hok] at this
  · have := iSplit_ok L S ao n cap xs p set w h hok
    rwa [hok] at this
end Go.Proofs.Ytmkodbkbgpjgoaa
