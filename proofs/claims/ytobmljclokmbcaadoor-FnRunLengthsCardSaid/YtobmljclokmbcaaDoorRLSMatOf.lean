/- SMatOf: a part of the proofs of this seat. -/
import Derived.StillTailTactics
import Derived.Test.YtobmljclokmbcaaDoorProg
import Derived.Test.YtobmljclokmbcaaDoorRLG1
import Derived.Test.YtobmljclokmbcaaDoorRLSIsLab
import Derived.Test.YtobmljclokmbcaaDoorRLBase
namespace Go.Proofs.YtobmljclokmbcaaDoor
open Go.RowKit
set_option linter.all false
set_option maxRecDepth 40000 in
set_option maxHeartbeats 6400000 in
theorem sMatrixOf_any (L S : Int) (ao : Option Addr) (n cap : Nat) (xs : List Ar) (w : World) (h : Arcs w ao n xs) :
    Calls Tryd.prog 55 #[.agg #[.int .i64 L, .int .i64 S, .slice ao n cap]] w fun e w' => ∃ v, e = .returned (.tuple #[v, .bool (matOk L S xs)]) ∧ OIntss w' w.heap.size v (matV L S xs).length (matV L S xs) ∧ Below w.heap.size w w' := by
  have hm := h.2.1
  have HL := Lib.hid h.1
  have HB1 := Lib.hid (below1 w (.cells #[.int .i64 L, .int .i64 S, .slice ao n cap] 32))
  have H := Lib.hid (h.keep HB1.out)
  have HK := Lib.hid (Blk.new w 32 #[.int .i64 L, .int .i64 S, .slice ao n cap])
  clear h
  cases b1 : isLab L S xs
  · have HR : Hid (matOk L S xs = false) := by show _ = _; simp [matOk, b1]
    have HV : Hid (matV L S xs = []) := by show _ = _; simp [matV, HR.out]
    have B1 := Lib.hid b1
    clear b1
    rw [HR.out, HV.out]
    go_enter Tryd.func55, Tryd.ntmps55
    go_wp2_with fail
    generalize w.alloc (.cells #[.int .i64 L, .int .i64 S, .slice ao n cap] 32) = w1 at HB1 H HK ⊢
    refine (sIsLabels_any _ _ _ _ _ xs _ H.out).mono ?_
    rw [B1.out]
    rintro e w2 ⟨rfl, hb2⟩
    have HB2 := Lib.hid hb2
    clear hb2
    have HE := Lib.hid (OIntss.empty w2 _ (Nat.le_refl _))
    have HBE := Lib.hid (below1 w2 (.cells #[] 38))
    go_wp2_with fail
    go_ret2
    exact ⟨_, rfl, HE.out.mono (Nat.le_trans HB1.out.size HB2.out.size), step2 HB1.out (step2 HB2.out HBE.out)⟩
  obtain ⟨_, hSr, hok⟩ := isLab_get b1
  have HOK := Lib.hid (okFrom_all hok)
  obtain ⟨m, rfl⟩ : ∃ m : Nat, S = m := ⟨S.toNat, by omega⟩
  have B1 := Lib.hid b1
  by_cases hm9 : m ≤ 9
  rotate_left
  · have HR : Hid (matOk L m xs = false) := by show _ = _; simp [matOk]; intro _; omega
    have HV : Hid (matV L m xs = []) := by show _ = _; simp [matV, HR.out]
    have d : decide ((9 : Int) < (m : Int)) = true := decide_eq_true (by omega)
    clear b1 hok
    rw [HR.out, HV.out]
    go_enter Tryd.func55, Tryd.ntmps55
    go_wp2_with fail
    generalize w.alloc (.cells #[.int .i64 L, .int .i64 m, .slice ao n cap] 32) = w1 at HB1 H HK ⊢
    refine (sIsLabels_any _ _ _ _ _ xs _ H.out).mono ?_
    rw [B1.out]
    rintro e w2 ⟨rfl, hb2⟩
    have HB2 := Lib.hid hb2
    have q := HK.out.keep hb2
    have q0 := q.c0
    have q1 := q.c1
    have q2 := q.c2
    clear q hb2
    have HE := Lib.hid (OIntss.empty w2 _ (Nat.le_refl _))
    have HBE := Lib.hid (below1 w2 (.cells #[] 38))
    go_wp2_with fail
    go_ret2
    exact ⟨_, rfl, HE.out.mono (Nat.le_trans HB1.out.size HB2.out.size), step2 HB1.out (step2 HB2.out HBE.out)⟩
  · have HR : Hid (matOk L m xs = true) := by show _ = _; simp [matOk, b1]; omega
    have HV : Hid (matV L m xs = matT (List.replicate m (List.replicate m 0)) xs) := by show _ = _; simp [matV, HR.out]
    have d : decide ((9 : Int) < (m : Int)) = false := decide_eq_false (by omega)
    clear b1 hok
    rw [HR.out]
    go_enter Tryd.func55, Tryd.ntmps55
    go_wp2_with fail
    generalize w.alloc (.cells #[.int .i64 L, .int .i64 m, .slice ao n cap] 32) = w1 at HB1 H HK ⊢
    refine (sIsLabels_any _ _ _ _ _ xs _ H.out).mono ?_
    rw [B1.out]
    rintro e w2 ⟨rfl, hb2⟩
    have HB2 := Lib.hid hb2
    have q := HK.out.keep hb2
    have q0 := q.c0
    have q1 := q.c1
    have q2 := q.c2
    clear q hb2
    go_wp2_with fail
    refine (sL4Zero_any m m _ (by omega) (by omega)).mono ?_
    rintro e w3 ⟨v3, rfl, ho3, hb3⟩
    obtain ⟨g, cg, rfl⟩ := ho3.head (by omega)
    have HO3 := Lib.hid (ho3.mono HB2.out.size)
    have HB3 := Lib.hid (HB2.out.trans (hb3.mono HB2.out.size))
    have q := HK.out.keep HB3.out
    clear q0 q1 q2
    have q0 := q.c0
    have q1 := q.c1
    have q2 := q.c2
    clear q ho3 hb3
    go_wp2_with fail
    clear q0 q1 q2
    go_loopw [5] (fun x wr => ∃ (k : Nat) (T : List (List Int)), k ≤ n ∧ x = .int .i64 k ∧ OIntss wr w1.heap.size (.slice (some ⟨g, 0, none⟩) m cg) m T ∧ Hid (Rows T m) ∧ Hid (matT T (xs.drop k) = matV L m xs) ∧ Below w1.heap.size w1 wr) (fun x _ => n - (intOf x).toNat)
    case atStart => exact ⟨0, _, Nat.zero_le _, rfl, HO3.out, rows_zero m, HV.out.symm, HB3.out⟩
    case round =>
      obtain ⟨k, T, hk, rfl, ho, hrl, hr, hbl⟩ := hrel
      have HOw := Lib.hid ho
      have HB := Lib.hid hbl
      have hsz := hbl.size
      have q := HK.out.keep hbl
      have q2 := q.c2
      clear q hbl ho
      by_cases hlt : k < n
      · obtain ⟨b, o, x, y, z, rfl, c1, c2, c3, hx⟩ := (H.out.keep HB.out).at_ hlt
        have hxr := arcB_get (HOK.out _ (List.mem_of_getElem? hx.out))
        obtain ⟨a, rfl⟩ : ∃ a : Nat, x = a := ⟨x.toNat, by omega⟩
        obtain ⟨c, rfl⟩ : ∃ c : Nat, y = c := ⟨y.toNat, by omega⟩
        have ham : a < m := by omega
        have hcm : c < m := by omega
        have HST := Lib.hid (mat_step hx.out hr.out)
        have HRB := Lib.hid (rows_bump (a := a) (b := c) hrl.out ham)
        obtain ⟨hta, htl⟩ := rows_get hrl.out ham
        have HO5 := Lib.hid (HOw.out.alloc (.cells #[.int .i64 (a : Int), .int .i64 (c : Int), .int .i64 z] 70))
        have HA := Lib.hid (Blk.new wr 70 #[.int .i64 (a : Int), .int .i64 (c : Int), .int .i64 z])
        have HB5 := Lib.hid (HB.out.trans ((below1 wr (.cells #[.int .i64 (a : Int), .int .i64 (c : Int), .int .i64 z] 70)).mono hsz))
        clear hx hr hxr
        go_wp2_with fail
        clear c1 c2 c3 q2
        generalize wr.alloc (.cells #[.int .i64 (a : Int), .int .i64 (c : Int), .int .i64 z] 70) = w5 at HO5 HA HB5 ⊢
        obtain ⟨gk, ck, h5, hor, hne, hlo⟩ := HO5.out.rowAt hta (by omega)
        have HS := Lib.hid (HO5.out.setIn hta h5 hor c (wrap64 ((T.getD a []).getD c 0 + 1)))
        have HS := Lib.hid (show OIntss _ _ _ _ (bump T a c) from HS.out)
        rw [htl] at h5 hor
        have h6 := hor.cell c hcm
        have h7 := hor.frozen c
        have a0 := HA.out.c0
        have a1 := HA.out.c1
        have HB6 := Lib.hid (HB5.out.setCell (p := ⟨gk, c, none⟩) hlo (.int .i64 (wrap64 ((T.getD a []).getD c 0 + 1))))
        clear hor hta htl
        generalize (T.getD a []).getD c 0 = tv at h6 HS HB6
        go_still_tail 18, (by kernel_rfl)
        change wpList _ _ _ _ _ w5.drew
        go_wp2_with fail
        go_roundw
        case rel => exact ⟨k + 1, _, hlt, by go_num, HS.out.drewN 1, HRB.out, HST.out, below_drewN HB6.out 1⟩
        case measure => simp [intOf]; omega
      · have HE := Lib.hid (mat_end (by have := HL.out; omega) hr.out)
        have HN : Hid ((matV L m xs).length = m) := by show _ = _; rw [← HE.out]; exact hrl.out.1
        clear hr
        go_wp2_with fail
        go_ret2
        have h5 := HOw.out
        rw [HE.out] at h5
        exact ⟨_, rfl, by rw [HN.out]; exact h5.mono HB1.out.size, step2 HB1.out HB.out⟩
end Go.Proofs.YtobmljclokmbcaaDoor
