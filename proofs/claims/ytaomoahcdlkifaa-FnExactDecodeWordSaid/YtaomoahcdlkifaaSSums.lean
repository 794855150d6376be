/- SSums: a part of the proofs of this seat. -/
import Derived.Test.YtaomoahcdlkifaaProg
import Derived.Test.YtaomoahcdlkifaaSIsLab
import Derived.Test.YtaomoahcdlkifaaSArcs
namespace Go.Proofs.Ytaomoahcdlkifaa
open Go.RowKit
set_option linter.all false
set_option maxRecDepth 20000 in
set_option maxHeartbeats 3200000 in
theorem sStateSums_any (L S : Int) (ao : Option Addr) (n cap : Nat) (xs : List Ar) (w : World) (h : Arcs w ao n xs) :
    Calls Try.prog 20 #[.agg #[.int .i64 L, .int .i64 S, .slice ao n cap]] w fun e w' => ∃ v, e = .returned v ∧ OInts w' w.heap.size v (stSums L S xs).length (stSums L S xs) ∧ Below w.heap.size w w' := by
  have hm := h.2.1
  have HL := Lib.hid h.1
  have HB1 := Lib.hid (below1 w (.cells #[.int .i64 L, .int .i64 S, .slice ao n cap] 26))
  have H := Lib.hid (h.keep HB1.out)
  have HK := Lib.hid (Blk.new w 26 #[.int .i64 L, .int .i64 S, .slice ao n cap])
  have HO := Lib.hid (OInts.empty (w.alloc (.cells #[.int .i64 L, .int .i64 S, .slice ao n cap] 26)) _ (Nat.le_refl _))
  have HB2 := Lib.hid (below1 (w.alloc (.cells #[.int .i64 L, .int .i64 S, .slice ao n cap] 26)) (.cells #[] 3))
  have HZ : Hid ((w.alloc (.cells #[.int .i64 L, .int .i64 S, .slice ao n cap] 26)).heap.size = w.heap.size + 1) := by show _ = _; simp
  clear h
  cases b1 : isLab L S xs
  · have HR : Hid (stSums L S xs = []) := by show _ = _; simp [stSums, b1]
    have B1 := Lib.hid b1
    clear b1
    go_enter Try.func20, Try.ntmps20
    go_wp2_with fail
    generalize w.alloc (.cells #[.int .i64 L, .int .i64 S, .slice ao n cap] 26) = w1 at HB1 H HK HO HB2 HZ ⊢
    go_loopw [3, 4] (fun v x wr => v = .slice (some ⟨w.heap.size + 1, 0, none⟩) 0 0 ∧ x = .int .i64 0 ∧ Below w1.heap.size w1 wr ∧ OInts wr w1.heap.size (.slice (some ⟨w.heap.size + 1, 0, none⟩) 0 0) 0 []) (fun _ _ _ => 0)
    case atStart => exact ⟨rfl, rfl, HB2.out, by simpa [HZ.out] using HO.out⟩
    case round =>
      obtain ⟨rfl, rfl, hbl, ho⟩ := hrel
      have HOw := Lib.hid ho
      have HB := Lib.hid hbl
      have q := HK.out.keep hbl
      have q0 := q.c0
      have q1 := q.c1
      have q2 := q.c2
      have H2 := Lib.hid (H.out.keep hbl)
      clear q hbl ho HO HB2
      by_cases hS : 0 < S
      · have d1 : decide (0 < S) = true := decide_eq_true hS
        go_wp2_with fail
        refine (sIsLabels_any _ _ _ _ _ xs _ H2.out).mono ?_
        rw [B1.out]
        rintro e w2 ⟨rfl, hb2⟩
        go_wp2_with fail
        go_ret
        rw [HR.out]
        exact ⟨_, rfl, (HOw.out.keep hb2).mono HB1.out.size, step2 HB1.out (HB.out.trans (hb2.mono HB.out.size))⟩
      · have d1 : decide (0 < S) = false := decide_eq_false hS
        go_wp2_with fail
        go_ret
        rw [HR.out]
        exact ⟨_, rfl, HOw.out.mono HB1.out.size, step2 HB1.out HB.out⟩
  · obtain ⟨_, hSr, _⟩ := isLab_get b1
    obtain ⟨m, rfl⟩ : ∃ m : Nat, S = m := ⟨S.toNat, by omega⟩
    have HR : Hid (stSums L m xs = sumsL m xs) := by show _ = _; simp [stSums, b1]
    have B1 := Lib.hid b1
    have hm12 : m ≤ 12 := by omega
    clear b1
    go_enter Try.func20, Try.ntmps20
    go_wp2_with fail
    generalize w.alloc (.cells #[.int .i64 L, .int .i64 m, .slice ao n cap] 26) = w1 at HB1 H HK HO HB2 HZ ⊢
    go_loopw [3, 4] (fun v x wr => ∃ p : Nat, p ≤ m ∧ x = .int .i64 p ∧ OInts wr w1.heap.size v p ((sumsL m xs).take p) ∧ Below w1.heap.size w1 wr) (fun _ x _ => m - (intOf x).toNat)
    case atStart => exact ⟨0, Nat.zero_le _, rfl, by simpa [HZ.out] using HO.out, HB2.out⟩
    case round =>
      obtain ⟨p, hp, rfl, ho, hbl⟩ := hrel
      have HOw := Lib.hid ho
      have HB := Lib.hid hbl
      have hsz := hbl.size
      have q := HK.out.keep hbl
      have q0 := q.c0
      have q1 := q.c1
      have q2 := q.c2
      have H2 := Lib.hid (H.out.keep hbl)
      obtain ⟨aa, ca, rfl, _⟩ := ho.form
      clear q hbl ho HO HB2
      by_cases hlt : p < m
      · have HG := Lib.hid (push_take (sumsL_get (xs := xs) hlt))
        go_wp2_with fail
        refine (sIsLabels_any _ _ _ _ _ xs _ H2.out).mono ?_
        rw [B1.out]
        rintro e w2 ⟨rfl, hb2⟩
        have HB3 := Lib.hid (HB.out.trans (hb2.mono HB.out.size))
        have HO3 := Lib.hid (HOw.out.keep hb2)
        have q := HK.out.keep HB3.out
        clear q0 q1 q2
        have q0 := q.c0
        have q1 := q.c1
        have q2 := q.c2
        have H3 := Lib.hid (H.out.keep HB3.out)
        clear q hb2
        go_wp2_with fail
        refine (sArcs_any _ _ _ _ _ xs p _ H3.out).mono ?_
        rintro e w3 ⟨v3, rfl, ho3, hb3⟩
        obtain ⟨a3, c3, rfl, _⟩ := ho3.form
        have HB4 := Lib.hid (HB3.out.trans (hb3.mono HB3.out.size))
        have HO4 := Lib.hid (HO3.out.keep hb3)
        have hsz4 := HB4.out.size
        have HIL := Lib.hid (ix_len p xs 0)
        clear q0 q1 q2 ho3 hb3
        go_wp2_with (refine wpList_push_one w3 ((ixFrom p 0 xs).length : Int) rfl (.tmp 16) (.tmp 21) rfl w1.heap.size _ _ _ rfl HO4.out (by omega) hsz4 _ rfl rfl ?_; intro v5 w5 ho5 hb5; have HO5 := Lib.hid ho5; have HB5 := Lib.hid hb5; obtain ⟨a5, c5, rfl, _⟩ := ho5.form; clear ho5 hb5)
        go_roundw
        case rel =>
          have h5 := HO5.out
          rw [HIL.out, HG.out] at h5
          exact ⟨p + 1, hlt, by go_num, h5, HB4.out.trans HB5.out⟩
        case measure => simp [intOf]; omega
      · have hpm : p = m := by omega
        subst hpm
        have HT : Hid ((sumsL p xs).take p = stSums L p xs) := by show _ = _; rw [HR.out, List.take_of_length_le (by rw [sumsL_len]; exact Nat.le_refl _)]
        have HN : Hid ((stSums L p xs).length = p) := by show _ = _; rw [HR.out, sumsL_len]
        go_wp2_with fail
        go_ret
        have h5 := HOw.out
        rw [HT.out] at h5
        exact ⟨_, rfl, by rw [HN.out]; exact h5.mono HB1.out.size, step2 HB1.out HB.out⟩
end Go.Proofs.Ytaomoahcdlkifaa
