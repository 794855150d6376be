/- SRunLab: a part of the proofs of this seat. -/
import Derived.Test.YtgcemkpinmjaeaaProg
import Derived.Test.YtgcemkpinmjaeaaVG0b
namespace Go.Proofs.Ytgcemkpinmjaeaa
open Go.RowKit
set_option linter.all false
set_option maxRecDepth 20000 in
set_option maxHeartbeats 3200000 in
theorem sRunLabels_any (d k : Int) (w : World) : Calls Try.prog 169 #[.int .i64 d, .int .i64 k] w fun e w' => ∃ v, e = .returned (.tuple #[.agg #[.int .i64 (runL d k), .int .i64 (runS d k), v], .bool (fitsR d k)]) ∧ OArcs w' w.heap.size v (runX d k).length (runX d k) ∧ Below w.heap.size w w' := by
  cases hf : fitsR d k
  · have HF := Lib.hid hf
    have e1 : runX d k = [] := by simp [runX, hf]
    have e2 : runS d k = 0 := by simp [runS, hf]
    have e3 : runL d k = 0 := by simp [runL, hf]
    rw [e1, e2, e3]
    clear hf e1 e2 e3
    go_enter Try.func169, Try.ntmps169
    go_wp2_with (go_at_call 200; refine (l25Fits_any _ _ _).mono ?_; rw [HF.out]; rintro e w' ⟨rfl, rfl⟩)
    refine bodyPost_ret (v := .tuple #[.agg #[.int .i64 0, .int .i64 0, .slice none 0 0], .bool false]) (by simp [results, Try.results169, go_sem]) rfl ?_
    exact ⟨_, rfl, OArcs.none_ _ _, below1 _ _⟩
  · have HF := Lib.hid hf
    have e1 : runX d k = runA d.toNat k.toNat (k.toNat + 1) := by simp [runX, hf]
    have e2 : runS d k = k + 1 := by simp [runS, hf]
    have e3 : runL d k = 2 := by simp [runL, hf]
    rw [e1, e2, e3]
    obtain ⟨d, k, rfl, rfl, hdk, hk7⟩ := fitsR_nat hf
    clear hf e1 e2 e3
    simp only [Int.toNat_natCast]
    obtain ⟨m, hkm⟩ : ∃ m : Nat, (k : Int) + 1 = m := ⟨k + 1, by omega⟩
    have HM : Hid (m = k + 1) := by show _ = _; omega
    have hm8 : m ≤ 8 := by omega
    have hmk : k < m := by omega
    have hZ0 : Blk ((w.alloc (.cells #[.int .i64 0, .int .i64 0, .slice none 0 0] 38)).alloc (.cells #[.int .i64 2, .int .i64 m, .slice none 0 0] 38)) w.heap.size 38 #[.int .i64 0, .int .i64 0, .slice none 0 0] := (Blk.new w _ _).alloc _
    have hZ1 := Blk.new (w.alloc (.cells #[.int .i64 0, .int .i64 0, .slice none 0 0] 38)) 38 #[.int .i64 2, .int .i64 m, .slice none 0 0]
    have z1 : (w.alloc (.cells #[.int .i64 0, .int .i64 0, .slice none 0 0] 38)).heap.size = w.heap.size + 1 := by simp
    rw [z1] at hZ1
    have HD := Lib.hid (show Bld _ w.heap.size w.heap.size (w.heap.size + 1) 2 m (.slice none 0 0) [] from ⟨hZ1, hZ0, OArcs.none_ _ _, by simp [Value.ownBlock], by simp [Value.ownBlock], by omega, by omega, Nat.le_refl _⟩)
    have HB := Lib.hid (below2 w (.cells #[.int .i64 0, .int .i64 0, .slice none 0 0] 38) (.cells #[.int .i64 2, .int .i64 m, .slice none 0 0] 38))
    clear hZ0 hZ1 z1
    go_enter Try.func169, Try.ntmps169
    go_wp2_with (go_at_call 200; refine (l25Fits_any _ _ _).mono ?_; rw [HF.out]; rintro e w' ⟨rfl, rfl⟩)
    generalize (w.alloc (.cells #[.int .i64 0, .int .i64 0, .slice none 0 0] 38)).alloc (.cells #[.int .i64 2, .int .i64 m, .slice none 0 0] 38) = w2 at HD HB ⊢
    go_loopw [7] (fun x wr => ∃ (i : Nat) (v : Value), i ≤ m ∧ x = .int .i64 i ∧ Bld wr w.heap.size w.heap.size (w.heap.size + 1) 2 m v (runA d k i) ∧ Below w.heap.size w wr) (fun x _ => m - (intOf x).toNat)
    case atStart => exact ⟨0, _, Nat.zero_le _, rfl, HD.out, HB.out⟩
    case round =>
      obtain ⟨i, v, hi, rfl, hd, hbl⟩ := hrel
      obtain ⟨wo, rfl⟩ : ∃ wo : World, wo = wr := ⟨_, rfl⟩
      have HD1 := Lib.hid hd
      have HB1 := Lib.hid hbl
      have hsz := hbl.size
      have hl := runA_len d k i
      obtain ⟨ao, cc, rfl, _⟩ := hd.o.form
      have q0 := hd.kb.c2
      have hl2 : (runA d k i ++ [((i : Int), (i : Int) + 1, 0)]).length ≤ 100 := by simp; omega
      clear hd hbl HD HB
      by_cases him : i < m
      · have hle : decide ((i : Int) ≤ (k : Int)) = true := decide_eq_true (by have := HM.out; omega)
        by_cases hik : i < k
        · have d1 : decide ((i : Int) < (k : Int)) = true := decide_eq_true (by omega)
          by_cases hdi : d ≤ i
          · have d2 : decide ((d : Int) ≤ (i : Int)) = true := decide_eq_true (by omega)
            go_wp2_with (first
              | (refine wpList_push_arc (w3.setCell ⟨w.heap.size + 1, 2, none⟩ (.slice ao3 _ cc3)) ((i : Int), 0, 1) rfl (.tmp 37) (.tmp 40) rfl w.heap.size _ _ _ rfl E3.out.o (by omega) (by omega) _ ?_ rfl ?_; (simp); intro v4 w4 ho hg hn; have q := (E3.out.grownB hg).c2; have f := (E3.out.grownB hg).frozen 2; have E4 := Lib.hid (E3.out.pushed ho rfl hg hn); have F4 := Lib.hid (E3.out.belowP F3.out hg (by omega) v4); have z4 := F4.out.size; obtain ⟨ao4, cc4, rfl, _⟩ := ho.form; clear ho hg hn)
              | (refine wpList_push_arc wo ((i : Int), (i : Int) + 1, 0) rfl (.tmp 25) (.tmp 30) rfl w.heap.size _ _ _ rfl HD1.out.o (by omega) (by omega) _ rfl rfl ?_; intro v3 w3 ho hg hn; have q := (HD1.out.grownB hg).c2; have f := (HD1.out.grownB hg).frozen 2; have E3 := Lib.hid (HD1.out.pushed ho rfl hg hn); have F3 := Lib.hid (HD1.out.belowP HB1.out hg (by omega) v3); have z3 := F3.out.size; obtain ⟨ao3, cc3, rfl, _⟩ := ho.form; clear ho hg hn))
            go_roundw
            case rel =>
              have e : (runA d k i ++ [((i : Int), (i : Int) + 1, 0)]).length = (runA d k i).length + 1 := by simp
              have hE := E4.out
              have hF := F4.out
              rw [e] at hE hF
              exact ⟨i + 1, _, him, by go_num, by rw [runA_two hik hdi]; exact hE, hF⟩
            case measure => simp [intOf]; omega
          · have d2 : decide ((d : Int) ≤ (i : Int)) = false := decide_eq_false (by omega)
            go_wp2_with (refine wpList_push_arc wo ((i : Int), (i : Int) + 1, 0) rfl (.tmp 25) (.tmp 30) rfl w.heap.size _ _ _ rfl HD1.out.o (by omega) (by omega) _ rfl rfl ?_; intro v3 w3 ho hg hn; have q := (HD1.out.grownB hg).c2; have f := (HD1.out.grownB hg).frozen 2; have E3 := Lib.hid (HD1.out.pushed ho rfl hg hn); have F3 := Lib.hid (HD1.out.belowP HB1.out hg (by omega) v3); have z3 := F3.out.size; obtain ⟨ao3, cc3, rfl, _⟩ := ho.form; clear ho hg hn)
            go_roundw
            case rel => exact ⟨i + 1, _, him, by go_num, by rw [runA_one hik hdi]; exact E3.out, F3.out⟩
            case measure => simp [intOf]; omega
        · have d1 : decide ((i : Int) < (k : Int)) = false := decide_eq_false (by omega)
          have hdi : d ≤ i := by have := HM.out; omega
          have d2 : decide ((d : Int) ≤ (i : Int)) = true := decide_eq_true (by omega)
          go_wp2_with (refine wpList_push_arc wo ((i : Int), 0, 1) rfl (.tmp 37) (.tmp 40) rfl w.heap.size _ _ _ rfl HD1.out.o (by omega) (by omega) _ rfl rfl ?_; intro v3 w3 ho hg hn; have q := (HD1.out.grownB hg).c2; have f := (HD1.out.grownB hg).frozen 2; have E3 := Lib.hid (HD1.out.pushed ho rfl hg hn); have F3 := Lib.hid (HD1.out.belowP HB1.out hg (by omega) v3); have z3 := F3.out.size; obtain ⟨ao3, cc3, rfl, _⟩ := ho.form; clear ho hg hn)
          go_roundw
          case rel => exact ⟨i + 1, _, him, by go_num, by rw [runA_last hik hdi]; exact E3.out, F3.out⟩
          case measure => simp [intOf]; omega
      · have hle : decide ((i : Int) ≤ (k : Int)) = false := decide_eq_false (by have := HM.out; omega)
        have hie : i = k + 1 := by have := HM.out; omega
        have HX : Hid (Bld wo w.heap.size w.heap.size (w.heap.size + 1) 2 m (.slice ao (runA d k i).length cc) (runA d k (k + 1))) := by have h := HD1.out; rw [hie] at h ⊢; exact h
        rw [hie] at HX q0
        clear hie
        have a0 := HX.out.kb.c0
        have a1 := HX.out.kb.c1
        have b0 := HX.out.kr.c0
        have b1 := HX.out.kr.c1
        have b2 := HX.out.kr.c2
        have f0 := HX.out.kr.frozen 0
        have f1 := HX.out.kr.frozen 1
        have f2 := HX.out.kr.frozen 2
        go_wp2_with fail
        refine bodyPost_ret (v := .tuple #[.agg #[.int .i64 2, .int .i64 m, .slice ao (runA d k (k + 1)).length cc], .bool true]) (by simp [results, Try.results169, go_sem, *]) rfl ?_
        exact ⟨_, by rw [hkm], ((HX.out.o.setFar HX.out.nr _).setFar HX.out.nr _).setFar HX.out.nr _, below_lab HB1.out (Nat.le_refl _) _ _ _⟩
end Go.Proofs.Ytgcemkpinmjaeaa
