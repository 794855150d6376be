/- Parts of the proof of a law, joined: D4b SLeast SMatOf SRunMat SMulM SPowM SBelow1 ILeast ICanEnc SCanEnc. -/
import Derived.Deep.RegionLaw
import Derived.Test.YtgcemkpinmjaeaaProg
import Derived.StillTailTactics
import Derived.Test.YtgcemkpinmjaeaaVD4
import Derived.Test.YtgcemkpinmjaeaaVG0b
import Derived.Test.YtgcemkpinmjaeaaVSGreatest
import Derived.Test.YtgcemkpinmjaeaaVSIsLab
import Derived.Test.YtgcemkpinmjaeaaVG0a
import Derived.Test.YtgcemkpinmjaeaaVSRunLab
import Derived.Test.YtgcemkpinmjaeaaVSTimes
import Derived.Test.YtgcemkpinmjaeaaVG0c
import Derived.Test.YtgcemkpinmjaeaaVSBelow
import Derived.Test.YtgcemkpinmjaeaaVIGreatest
namespace Go.Proofs.Ytgcemkpinmjaeaa
open Go.RowKit
set_option linter.all false
theorem bent_set {T : List (List Int)} {i j : Nat} {x : Int} (h : Bent T) (hi : i < T.length) : Bent (T.set i (T[i].set j x)) := by
  refine ⟨by rw [List.length_set]; exact h.1, by rw [List.length_set]; exact h.2.1, fun r hr => ?_⟩
  rcases List.mem_or_eq_of_mem_set hr with hr | rfl
  · exact h.2.2 r hr
  · rw [List.length_set]; exact h.2.2 _ (List.getElem_mem _)
theorem grown_far {w W w' : World} {b g : Nat} (h : w.grownBy W (some b)) (k : W.grownBy w' (some g)) (hg : w.heap.size ≤ g) : w.grownBy w' (some b) := by
  refine ⟨k.os.trans h.os, ?_, k.output.trans h.output, Nat.le_trans h.size k.size, fun i hi hne => (k.block i (Nat.lt_of_lt_of_le hi h.size) (by intro e; injection e; omega)).trans (h.block i hi hne)⟩
  first | exact k.tape.trans h.tape | exact Nat.le_trans h.tape k.tape | exact h.tape.trans k.tape
theorem bent_push {T : List (List Int)} (h : Bent T) (h4 : T.length ≤ 4) : Bent (T ++ [[1]]) := by
  refine ⟨by simp, by simp; omega, fun r hr => ?_⟩
  rcases List.mem_append.1 hr with hr | hr
  · exact h.2.2 r hr
  · simp at hr; subst hr; simp
set_option maxRecDepth 20000 in
set_option maxHeartbeats 6400000 in
theorem l4Bent_any (b lo : Nat) (w : World) (h : Cur w b lo) :
    Calls Try.prog 110 #[.pointer (some ⟨b, 0, none⟩)] w fun e w' => ∃ v T, e = .returned v ∧ OIntss w' w.heap.size v T.length T ∧ Bent T ∧ Cur w' b lo ∧ w.grownBy w' (some b) := by
  have hbl := h.lt.2
  have H := Lib.hid h
  clear h
  go_enter Try.func110, Try.ntmps110
  go_wp2_with (go_at_call 166; refine (l4Draw_any b lo 4 _ H.out (by omega) (by omega)).mono ?_; rintro e w1 ⟨v1, T, rfl, ho1, hT, hc1, hg1⟩; obtain ⟨g, cap, rfl⟩ := ho1.head (by have := hT.1.1; omega); have Ho1 := Lib.hid ho1; have HT := Lib.hid hT.1; have hT4 := hT.2; have Hc1 := Lib.hid hc1; have Hg1 := Lib.hid hg1; clear ho1 hc1 hg1 hT)
  refine (l1Below_any b lo 16 _ Hc1.out (by omega) (by omega)).mono ?_
  rintro e w2 ⟨x, hx, rfl, hc2, hg2⟩
  have Hc2 := Lib.hid hc2
  have Hg2 := Lib.hid (Hg1.out.trans hg2)
  have Ho2 := Lib.hid (Ho1.out.away hg2 hbl)
  have hs2 := Hg2.out.size
  clear hc2 hg2
  have hT1 := HT.out.1
  by_cases hx0 : x = 0
  · subst hx0
    have hti : 0 < T.length := by omega
    obtain ⟨nr, hnr⟩ : ∃ nr, T[0].length = nr := ⟨_, rfl⟩
    have hri := hnr
    have hnr1 : 0 < nr := by have := (HT.out.2.2 T[0] (List.getElem_mem _)).1; omega
    obtain ⟨gk, ck, h5, ho, hne, hlo⟩ := Ho2.out.rowAt (List.getElem?_eq_getElem hti) (by omega)
    rw [hri] at h5
    have h6 := ho.cell 0 (by omega)
    have h7 := ho.frozen 0
    have hgn : g < w2.heap.size := Ho2.out.lt.2
    have hgne : some g ≠ some b := by have := Ho2.out.lt.1; intro e; injection e; omega
    have hgk : gk < w2.heap.size := ho.lt.2
    have HO := Lib.hid ho
    have hset := fun (W : World) (hw : OIntss W w.heap.size (.slice (some ⟨g, 0, none⟩) T.length cap) T.length T) (hc : W.cell? ⟨g, 0, none⟩ = some (.slice (some ⟨gk, 0, none⟩) T[0].length ck)) (ho : OInts W w.heap.size (.slice (some ⟨gk, 0, none⟩) T[0].length ck) T[0].length T[0]) (x : Int) => hw.setIn (List.getElem?_eq_getElem hti) hc ho 0 x
    rw [hri] at hset
    have HSet := Lib.hid hset
    have HB4 := Lib.hid (((Below.refl w2.heap.size w2).alloc (Nat.le_refl _) (.cells #[.int .i64 (-1), .int .i64 1000000, .int .i64 1000001, .int .i64 9] 3)).drew)
    have Hri := Lib.hid hri
    have HLit : Hid (OInts (w2.alloc (.cells #[.int .i64 (-1), .int .i64 1000000, .int .i64 1000001, .int .i64 9] 3)).drew w2.heap.size (.slice (some ⟨w2.heap.size, 0, none⟩) 4 4) 4 [-1, 1000000, 1000001, 9]) := (OInts.lit_ (w := w2) (arr := #[.int .i64 (-1), .int .i64 1000000, .int .i64 1000001, .int .i64 9]) (n := 4) (xs := [-1, 1000000, 1000001, 9]) (Nat.le_refl _) rfl rfl (by omega)).drewN 1
    have HRS := Lib.hid (fun x => bent_set (j := 0) (x := x) HT.out hti)
    clear hset ho h7 hri hnr
    go_wp2_with fail
    go_region_law (first
      | (go_simp; go_at_call 111; refine (l1PickInt_any b lo w2.heap.size 4 4 _ [-1, 1000000, 1000001, 9] _ (Hc2.out.keep HB4.out) HLit.out Hc2.out.lt.2 (by omega) (by omega)).mono ?_; rintro e w5 ⟨d0, hd0, rfl, hc5, hg5⟩; have Hc5 := Lib.hid hc5; have Hg5 := Lib.hid (Hg2.out.trans ((grown_of_below HB4.out).trans hg5)); have Ho5 := Lib.hid ((Ho2.out.keep HB4.out).away hg5 hbl); have HOk := Lib.hid ((HO.out.keep HB4.out).away hg5 hbl); have q5 := hg5.cell ((HB4.out.cell (p := ⟨g, 0, none⟩) hgn).trans h5) hgne; have q6 := HOk.out.cell 0 (by rw [Hri.out]; exact hnr1); have q7 := HOk.out.frozen 0; clear hc5 hg5 hd0))
    all_goals
      have Ht := Lib.hid (HSet.out _ Ho5.out q5 (by have h9 := HOk.out; rw [Hri.out] at h9; exact h9) d0)
      have HRT := Lib.hid (HRS.out d0)
      have HUL : Hid ((T.set 0 (T[0].set 0 d0)).length = T.length) := by show _ = _; rw [List.length_set]
      have Hc6 := Lib.hid (Hc5.out.grown (only_setCell (World.grownBy.refl w5 (some gk)) rfl (p := ⟨gk, 0, none⟩) (.int .i64 d0)) (fun g e => by injection e; omega))
      have Hg6 := Lib.hid (grown_new Hg5.out (p := ⟨gk, 0, none⟩) (by show _ ≤ gk; omega) (.int .i64 d0))
      generalize w5.setCell ⟨gk, 0, none⟩ (.int .i64 d0) = w6 at Ht Hc6 Hg6 ⊢
      generalize T.set 0 (T[0].set 0 d0) = U at Ht HRT HUL
      clear q5 q6 q7 Ho5 HOk Hc5 Hg5 HSet h5 h6 HRS
      go_wp2_with fail
      go_ret
      exact ⟨_, U, rfl, by rw [HUL.out]; exact Ht.out, HRT.out, Hc6.out, Hg6.out⟩
  have d0 : ((x : Int) == 0) = false := beq_eq_false_iff_ne.2 (by omega)
  by_cases hx1 : x = 1
  · subst hx1
    have HR := Lib.hid (OInts.lit_ (w := w2) (lo := w2.heap.size) (arr := #[.int .i64 1]) (n := 1) (xs := [1]) (Nat.le_refl _) rfl rfl (by omega))
    have HB3 := Lib.hid ((Below.refl w2.heap.size w2).alloc (Nat.le_refl _) (.cells #[.int .i64 1] 3))
    have HRT := Lib.hid (bent_push HT.out hT4)
    go_wp2_with (at_builtin; refine wpList_push_rowC _ _ w2 rfl (.tmp 19) (.tmp 21) rfl w.heap.size _ T.length T rfl Ho2.out (by omega) hs2 HB3.out 1 [1] HR.out _ ?_ rfl ?_; (first | rfl | simp); intro v6 w6 ho6 hg6 hn6; have hg7 : (w2.alloc (.cells #[.int .i64 1] 3)).grownBy w6 (some g) := hg6; have HO6 := Lib.hid ho6; have HG6 := Lib.hid (grown_far (Hg2.out.trans (grown_of_below HB3.out)) hg7 Ho2.out.lt.1); have HC6 := Lib.hid ((Hc2.out.keep HB3.out).grown hg7 (fun q e => (by have h1 := Ho2.out.lt.1; injection e; omega))); clear hg7; clear ho6 hg6 hn6)
    go_ret
    exact ⟨_, T ++ [[1]], rfl, by simpa using HO6.out, HRT.out, HC6.out, HG6.out⟩
  · have d1 : ((x : Int) == 1) = false := beq_eq_false_iff_ne.2 (by omega)
    go_wp2_with fail
    go_ret
    exact ⟨_, T, rfl, Ho2.out, HT.out, Hc2.out, Hg2.out⟩
end Go.Proofs.Ytgcemkpinmjaeaa

namespace Go.Proofs.Ytgcemkpinmjaeaa
open Go.RowKit
set_option linter.all false
set_option maxHeartbeats 1600000 in
theorem sLeast_any (p : Option Addr) (n c : Nat) (m : List (List Int)) (a : Int) (w : World) (h : Intss w p n m) :
    Calls Try.prog 44 #[.slice p n c, .int .i64 a] w fun e w' => ∃ v, e = .returned (.tuple #[v, .bool (least m a)]) ∧ OInts w' w.heap.size v (leastV m a).length (leastV m a) ∧ Below w.heap.size w w' := by
  have H := Lib.hid h
  clear h
  go_enter Try.func44, Try.ntmps44
  go_wp2_with fail
  go_loopw [6] (fun x wr => ∃ k : Nat, 1 ≤ k ∧ k ≤ 10 ∧ x = .int .i64 k ∧ Hid (leastFrom m a (10 - k) k = leastO m a) ∧ Below w.heap.size w wr) (fun x _ => 10 - (intOf x).toNat)
  case atStart => exact ⟨1, by omega, by omega, rfl, rfl, Below.refl _ _⟩
  case round =>
    obtain ⟨k, hk1, hk2, rfl, hl, hb⟩ := hrel
    have HB := Lib.hid hb
    have HM := Lib.hid (H.out.keep hb)
    clear hb
    by_cases hlt : k ≤ 9
    · cases hg : great m a (k : Int)
      · go_wp2_with (go_at_call 40; refine (sGreatest_any _ _ _ m a k _ HM.out).mono ?_; rintro e w1 ⟨v1, rfl, ho1, hb1⟩; have Ho1 := Lib.hid ho1; have Hb1 := Lib.hid hb1; clear ho1 hb1)
        go_roundw
        case rel => exact ⟨k + 1, by omega, by omega, by go_num, least_next hlt hl hg, step2 HB.out Hb1.out⟩
        case measure => simp [intOf]; omega
      · have HL := Lib.hid (least_at hlt hl hg)
        go_wp2_with (go_at_call 40; refine (sGreatest_any _ _ _ m a k _ HM.out).mono ?_; rintro e w1 ⟨v1, rfl, ho1, hb1⟩; have Ho1 := Lib.hid ho1; have Hb1 := Lib.hid hb1; clear ho1 hb1)
        go_ret2
        rw [HL.out.1, HL.out.2]
        exact ⟨_, rfl, Ho1.out.mono HB.out.size, step2 HB.out Hb1.out⟩
    · have e : k = 10 := by omega
      have HL := Lib.hid (least_end e hl)
      go_wp2_with fail
      go_ret2
      rw [HL.out.1, HL.out.2]
      exact ⟨_, rfl, OInts.empty _ _ HB.out.size, HB.out.alloc HB.out.size _⟩
end Go.Proofs.Ytgcemkpinmjaeaa

namespace Go.Proofs.Ytgcemkpinmjaeaa
open Go.RowKit
set_option linter.all false
set_option maxRecDepth 40000 in
set_option maxHeartbeats 6400000 in
theorem sMatrixOf_any (L S : Int) (ao : Option Addr) (n cap : Nat) (xs : List Ar) (w : World) (h : Arcs w ao n xs) :
    Calls Try.prog 170 #[.agg #[.int .i64 L, .int .i64 S, .slice ao n cap]] w fun e w' => ∃ v, e = .returned (.tuple #[v, .bool (matOk L S xs)]) ∧ OIntss w' w.heap.size v (matV L S xs).length (matV L S xs) ∧ Below w.heap.size w w' := by
  have hm := h.2.1
  have HL := Lib.hid h.1
  have HB1 := Lib.hid (below1 w (.cells #[.int .i64 L, .int .i64 S, .slice ao n cap] 38))
  have H := Lib.hid (h.keep HB1.out)
  have HK := Lib.hid (Blk.new w 38 #[.int .i64 L, .int .i64 S, .slice ao n cap])
  clear h
  cases b1 : isLab L S xs
  · have HR : Hid (matOk L S xs = false) := by show _ = _; simp [matOk, b1]
    have HV : Hid (matV L S xs = []) := by show _ = _; simp [matV, HR.out]
    have B1 := Lib.hid b1
    clear b1
    rw [HR.out, HV.out]
    go_enter Try.func170, Try.ntmps170
    go_wp2_with fail
    generalize w.alloc (.cells #[.int .i64 L, .int .i64 S, .slice ao n cap] 38) = w1 at HB1 H HK ⊢
    refine (sIsLabels_any _ _ _ _ _ xs _ H.out).mono ?_
    rw [B1.out]
    rintro e w2 ⟨rfl, hb2⟩
    have HB2 := Lib.hid hb2
    clear hb2
    have HE := Lib.hid (OIntss.empty w2 _ (Nat.le_refl _))
    have HBE := Lib.hid (below1 w2 (.cells #[] 54))
    go_wp2_with fail
    go_ret2
    exact ⟨_, rfl, HE.out.mono (Nat.le_trans HB1.out.size HB2.out.size), step2 HB1.out (step2 HB2.out HBE.out)⟩
  obtain ⟨_, hSr, hok⟩ := isLab_get b1
  have HOK := Lib.hid (okFrom_all hok)
  obtain ⟨m, rfl⟩ : ∃ m : Nat, S = m := ⟨S.toNat, by omega⟩
  have B1 := Lib.hid b1
  by_cases hm9 : m ≤ 9
  rotate_left
  · have HR : Hid (matOk L m xs = false) := by show _ = _; simp [matOk]; intro _; omega
    have HV : Hid (matV L m xs = []) := by show _ = _; simp [matV, HR.out]
    have d : decide ((9 : Int) < (m : Int)) = true := decide_eq_true (by omega)
    clear b1 hok
    rw [HR.out, HV.out]
    go_enter Try.func170, Try.ntmps170
    go_wp2_with fail
    generalize w.alloc (.cells #[.int .i64 L, .int .i64 m, .slice ao n cap] 38) = w1 at HB1 H HK ⊢
    refine (sIsLabels_any _ _ _ _ _ xs _ H.out).mono ?_
    rw [B1.out]
    rintro e w2 ⟨rfl, hb2⟩
    have HB2 := Lib.hid hb2
    have q := HK.out.keep hb2
    have q0 := q.c0
    have q1 := q.c1
    have q2 := q.c2
    clear q hb2
    have HE := Lib.hid (OIntss.empty w2 _ (Nat.le_refl _))
    have HBE := Lib.hid (below1 w2 (.cells #[] 54))
    go_wp2_with fail
    go_ret2
    exact ⟨_, rfl, HE.out.mono (Nat.le_trans HB1.out.size HB2.out.size), step2 HB1.out (step2 HB2.out HBE.out)⟩
  · have HR : Hid (matOk L m xs = true) := by show _ = _; simp [matOk, b1]; omega
    have HV : Hid (matV L m xs = matT (List.replicate m (List.replicate m 0)) xs) := by show _ = _; simp [matV, HR.out]
    have d : decide ((9 : Int) < (m : Int)) = false := decide_eq_false (by omega)
    clear b1 hok
    rw [HR.out]
    go_enter Try.func170, Try.ntmps170
    go_wp2_with fail
    generalize w.alloc (.cells #[.int .i64 L, .int .i64 m, .slice ao n cap] 38) = w1 at HB1 H HK ⊢
    refine (sIsLabels_any _ _ _ _ _ xs _ H.out).mono ?_
    rw [B1.out]
    rintro e w2 ⟨rfl, hb2⟩
    have HB2 := Lib.hid hb2
    have q := HK.out.keep hb2
    have q0 := q.c0
    have q1 := q.c1
    have q2 := q.c2
    clear q hb2
    go_wp2_with fail
    refine (sL4Zero_any m m _ (by omega) (by omega)).mono ?_
    rintro e w3 ⟨v3, rfl, ho3, hb3⟩
    obtain ⟨g, cg, rfl⟩ := ho3.head (by omega)
    have HO3 := Lib.hid (ho3.mono HB2.out.size)
    have HB3 := Lib.hid (HB2.out.trans (hb3.mono HB2.out.size))
    have q := HK.out.keep HB3.out
    clear q0 q1 q2
    have q0 := q.c0
    have q1 := q.c1
    have q2 := q.c2
    clear q ho3 hb3
    go_wp2_with fail
    clear q0 q1 q2
    go_loopw [5] (fun x wr => ∃ (k : Nat) (T : List (List Int)), k ≤ n ∧ x = .int .i64 k ∧ OIntss wr w1.heap.size (.slice (some ⟨g, 0, none⟩) m cg) m T ∧ Hid (Rows T m) ∧ Hid (matT T (xs.drop k) = matV L m xs) ∧ Below w1.heap.size w1 wr) (fun x _ => n - (intOf x).toNat)
    case atStart => exact ⟨0, _, Nat.zero_le _, rfl, HO3.out, rows_zero m, HV.out.symm, HB3.out⟩
    case round =>
      obtain ⟨k, T, hk, rfl, ho, hrl, hr, hbl⟩ := hrel
      have HOw := Lib.hid ho
      have HB := Lib.hid hbl
      have hsz := hbl.size
      have q := HK.out.keep hbl
      have q2 := q.c2
      clear q hbl ho
      by_cases hlt : k < n
      · obtain ⟨b, o, x, y, z, rfl, c1, c2, c3, hx⟩ := (H.out.keep HB.out).at_ hlt
        have hxr := arcB_get (HOK.out _ (List.mem_of_getElem? hx.out))
        obtain ⟨a, rfl⟩ : ∃ a : Nat, x = a := ⟨x.toNat, by omega⟩
        obtain ⟨c, rfl⟩ : ∃ c : Nat, y = c := ⟨y.toNat, by omega⟩
        have ham : a < m := by omega
        have hcm : c < m := by omega
        have HST := Lib.hid (mat_step hx.out hr.out)
        have HRB := Lib.hid (rows_bump (a := a) (b := c) hrl.out ham)
        obtain ⟨hta, htl⟩ := rows_get hrl.out ham
        have HO5 := Lib.hid (HOw.out.alloc (.cells #[.int .i64 (a : Int), .int .i64 (c : Int), .int .i64 z] 107))
        have HA := Lib.hid (Blk.new wr 107 #[.int .i64 (a : Int), .int .i64 (c : Int), .int .i64 z])
        have HB5 := Lib.hid (HB.out.trans ((below1 wr (.cells #[.int .i64 (a : Int), .int .i64 (c : Int), .int .i64 z] 107)).mono hsz))
        clear hx hr hxr
        go_wp2_with fail
        clear c1 c2 c3 q2
        generalize wr.alloc (.cells #[.int .i64 (a : Int), .int .i64 (c : Int), .int .i64 z] 107) = w5 at HO5 HA HB5 ⊢
        obtain ⟨gk, ck, h5, hor, hne, hlo⟩ := HO5.out.rowAt hta (by omega)
        have HS := Lib.hid (HO5.out.setIn hta h5 hor c (wrap64 ((T.getD a []).getD c 0 + 1)))
        have HS := Lib.hid (show OIntss _ _ _ _ (bump T a c) from HS.out)
        rw [htl] at h5 hor
        have h6 := hor.cell c hcm
        have h7 := hor.frozen c
        have a0 := HA.out.c0
        have a1 := HA.out.c1
        have HB6 := Lib.hid (HB5.out.setCell (p := ⟨gk, c, none⟩) hlo (.int .i64 (wrap64 ((T.getD a []).getD c 0 + 1))))
        clear hor hta htl
        generalize (T.getD a []).getD c 0 = tv at h6 HS HB6
        go_still_tail 18, (by kernel_rfl)
        change wpList _ _ _ _ _ w5.drew
        go_wp2_with fail
        go_roundw
        case rel => exact ⟨k + 1, _, hlt, by go_num, HS.out.drewN 1, HRB.out, HST.out, below_drewN HB6.out 1⟩
        case measure => simp [intOf]; omega
      · have HE := Lib.hid (mat_end (by have := HL.out; omega) hr.out)
        have HN : Hid ((matV L m xs).length = m) := by show _ = _; rw [← HE.out]; exact hrl.out.1
        clear hr
        go_wp2_with fail
        go_ret2
        have h5 := HOw.out
        rw [HE.out] at h5
        exact ⟨_, rfl, by rw [HN.out]; exact h5.mono HB1.out.size, step2 HB1.out HB.out⟩
end Go.Proofs.Ytgcemkpinmjaeaa

namespace Go.Proofs.Ytgcemkpinmjaeaa
open Go.RowKit
set_option linter.all false
set_option maxRecDepth 20000 in
set_option maxHeartbeats 3200000 in
theorem sRunMatrix_any (d k : Int) (w : World) : Calls Try.prog 121 #[.int .i64 d, .int .i64 k] w fun e w' => ∃ v, e = .returned (.tuple #[v, .bool (runMO d k)]) ∧ OIntss w' w.heap.size v (runMV d k).length (runMV d k) ∧ Below w.heap.size w w' := by
  cases hf : fitsR d k
  · have HF := Lib.hid hf
    have HV : Hid (runMV d k = [] ∧ runMO d k = false ∧ runX d k = [] ∧ runL d k = 0 ∧ runS d k = 0) := by show _ ∧ _; simp [runMV, runMO, runX, runL, runS, hf, matV, matOk, isLab, inR]
    clear hf
    rw [HV.out.1, HV.out.2.1]
    go_enter Try.func121, Try.ntmps121
    go_wp2_with fail
    refine (sRunLabels_any d k _).mono ?_
    rw [HF.out, HV.out.2.2.1, HV.out.2.2.2.1, HV.out.2.2.2.2]
    rintro e w1 ⟨v1, rfl, ho1, hb1⟩
    obtain ⟨a1, c1, rfl, _⟩ := ho1.form
    have HB2 := Lib.hid (step2 hb1 (below1 w1 (.cells #[.int .i64 0, .int .i64 0, .slice a1 ([] : List Ar).length c1] 38)))
    have HZ : Hid ((w1.alloc (.cells #[.int .i64 0, .int .i64 0, .slice a1 ([] : List Ar).length c1] 38)).heap.size = w1.heap.size + 1) := by show _ = _; simp
    clear ho1 hb1
    go_wp2_with fail
    generalize w1.alloc (.cells #[.int .i64 0, .int .i64 0, .slice a1 ([] : List Ar).length c1] 38) = w2 at HB2 HZ ⊢
    have HE := Lib.hid (OIntss.empty w2 _ (Nat.le_refl _))
    have HBE := Lib.hid (below1 w2 (.cells #[] 54))
    have HE2 := HE.out.mono HB2.out.size
    rw [HZ.out] at HE2
    go_wp2_with fail
    go_ret2
    exact ⟨_, rfl, HE2, step2 HB2.out HBE.out⟩
  · have HF := Lib.hid hf
    clear hf
    go_enter Try.func121, Try.ntmps121
    go_wp2_with fail
    refine (sRunLabels_any d k _).mono ?_
    rw [HF.out]
    rintro e w1 ⟨v1, rfl, ho1, hb1⟩
    obtain ⟨a1, c1, rfl, _⟩ := ho1.form
    have HB2 := Lib.hid (step2 hb1 (below1 w1 (.cells #[.int .i64 (runL d k), .int .i64 (runS d k), .slice a1 (runX d k).length c1] 38)))
    have HI := Lib.hid (ho1.alloc (.cells #[.int .i64 (runL d k), .int .i64 (runS d k), .slice a1 (runX d k).length c1] 38)).read
    clear ho1 hb1
    go_wp2_with fail
    generalize w1.alloc (.cells #[.int .i64 (runL d k), .int .i64 (runS d k), .slice a1 (runX d k).length c1] 38) = w2 at HB2 HI ⊢
    refine (sMatrixOf_any _ _ _ _ _ (runX d k) _ HI.out).mono ?_
    rintro e w3 ⟨v3, rfl, ho3, hb3⟩
    have HO3 := Lib.hid ho3
    clear ho3
    go_wp2_with fail
    go_ret2
    exact ⟨_, rfl, HO3.out.mono HB2.out.size, step2 HB2.out hb3⟩
end Go.Proofs.Ytgcemkpinmjaeaa

namespace Go.Proofs.Ytgcemkpinmjaeaa
open Go.RowKit
set_option linter.all false
set_option maxHeartbeats 1600000 in
theorem sMulM_any (pa : Option Addr) (na ca : Nat) (a : List (List Int)) (pb : Option Addr) (nb cb : Nat) (b : List (List Int)) (w : World) (ha : Intss w pa na a) (hb : Intss w pb nb b) :
    Calls Try.prog 128 #[.slice pa na ca, .slice pb nb cb] w fun e w' => ∃ v, e = .returned (.tuple #[v, .bool (mulM a b).isSome]) ∧ OIntss w' w.heap.size v ((mulM a b).getD []).length ((mulM a b).getD []) ∧ Below w.heap.size w w' := by
  have hma := ha.2.1
  have hmb := hb.2.1
  have HA := Lib.hid ha
  have HB := Lib.hid hb
  have HLA : Hid (a.length = na) := ha.1
  have HLB : Hid (b.length = nb) := hb.1
  clear ha hb
  have hempty := OIntss.empty w w.heap.size (Nat.le_refl _)
  have hbe : Below w.heap.size w (w.alloc (.cells #[] 54)) := (Below.refl _ _).alloc (Nat.le_refl _) _
  have Hempty := Lib.hid hempty
  have Hbe := Lib.hid hbe
  clear hempty hbe
  cases h1 : isMat a
  · have hg : Hid (mulM a b = none) := mulM_none1 h1
    go_enter Try.func128, Try.ntmps128
    go_wp2_with (first | (go_at_call 125; refine (sIsMatrix_any _ _ _ a _ HA.out).mono ?_; rintro e w' ⟨rfl, rfl⟩))
    go_ret2
    rw [hg.out]
    exact ⟨_, rfl, Hempty.out, Hbe.out⟩
  cases h2 : isMat b
  · have hg : Hid (mulM a b = none) := mulM_none2 h2
    go_enter Try.func128, Try.ntmps128
    go_wp2_with fail
    refine (sIsMatrix_any _ _ _ a _ HA.out).mono ?_
    rintro e w' ⟨rfl, rfl⟩
    go_wp2_with fail
    refine (sIsMatrix_any _ _ _ b _ HB.out).mono ?_
    rintro e w' ⟨rfl, rfl⟩
    go_wp2_with fail
    go_ret2
    rw [hg.out]
    exact ⟨_, rfl, Hempty.out, Hbe.out⟩
  by_cases hn : na = nb
  · subst hn
    have hne : ((na : Int) != (na : Int)) = false := by simp
    have hn9 : na ≤ 9 := by have := isMat_len h1; have := HLA.out; omega
    have HRA := Lib.hid (isMat_rowsLen h1 HLA.out)
    have HRB := Lib.hid (isMat_rowsLen h2 HLB.out)
    have hlab : Hid (a.length = b.length) := by show a.length = b.length; rw [HLA.out, HLB.out]
    have H12 : Hid (isMat a = true ∧ isMat b = true) := ⟨h1, h2⟩
    go_enter Try.func128, Try.ntmps128
    go_wp2_with fail
    refine (sIsMatrix_any _ _ _ a _ HA.out).mono ?_
    rintro e w' ⟨rfl, rfl⟩
    go_wp2_with fail
    refine (sIsMatrix_any _ _ _ b _ HB.out).mono ?_
    rintro e w' ⟨rfl, rfl⟩
    go_wp2_with fail
    clear h1 h2
    refine (sL4Times_any _ _ _ a _ _ _ b na _ HA.out HB.out HRA.out HRB.out (by omega) (by omega)).mono ?_
    rintro e w1 ⟨v, rfl, hown, hbl⟩
    obtain ⟨ao, cap, rfl, hi⟩ := hown.form
    have Hown := Lib.hid hown
    have Hbl := Lib.hid hbl
    have Hi := Lib.hid hi
    clear hown hbl hi
    cases h3 : isMat (mulT a b na)
    · have hg : Hid (mulM a b = none) := mulM_none4 (by rw [HLB.out]; exact h3)
      go_wp2_with fail
      refine (sIsMatrix_any _ _ _ (mulT a b na) _ Hi.out).mono ?_
      rintro e w' ⟨rfl, rfl⟩
      go_wp2_with fail
      go_ret2
      rw [hg.out]
      exact ⟨_, rfl, OIntss.empty w1 _ Hbl.out.size, Hbl.out.alloc Hbl.out.size _⟩
    · have hg : Hid (mulM a b = some (mulT a b na)) := by
        have := mulM_some H12.out.1 H12.out.2 hlab.out (by rw [HLB.out]; exact h3)
        rw [HLB.out] at this
        exact this
      go_wp2_with fail
      refine (sIsMatrix_any _ _ _ (mulT a b na) _ Hi.out).mono ?_
      rintro e w' ⟨rfl, rfl⟩
      go_wp2_with fail
      go_ret2
      rw [hg.out]
      refine ⟨_, rfl, ?_, Hbl.out⟩
      show OIntss w1 w.heap.size _ (mulT a b na).length (mulT a b na)
      rw [Hown.out.len]
      exact Hown.out
  · have hg : Hid (mulM a b = none) := mulM_none3 (by rw [HLA.out, HLB.out]; exact hn)
    have hne : ((na : Int) != (nb : Int)) = true := by simp; omega
    clear hn
    go_enter Try.func128, Try.ntmps128
    go_wp2_with fail
    refine (sIsMatrix_any _ _ _ a _ HA.out).mono ?_
    rintro e w' ⟨rfl, rfl⟩
    go_wp2_with fail
    refine (sIsMatrix_any _ _ _ b _ HB.out).mono ?_
    rintro e w' ⟨rfl, rfl⟩
    go_wp2_with fail
    go_ret2
    rw [hg.out]
    exact ⟨_, rfl, Hempty.out, Hbe.out⟩
end Go.Proofs.Ytgcemkpinmjaeaa

namespace Go.Proofs.Ytgcemkpinmjaeaa
open Go.RowKit
set_option linter.all false
set_option maxHeartbeats 1600000 in
theorem sPowM_any (pm : Option Addr) (nm cm : Nat) (m : List (List Int)) (n : Int) (w : World) (hm : Intss w pm nm m) :
    Calls Try.prog 55 #[.slice pm nm cm, .int .i64 n] w fun e w' => ∃ v, e = .returned (.tuple #[v, .bool (powM m n).isSome]) ∧ OIntss w' w.heap.size v ((powM m n).getD []).length ((powM m n).getD []) ∧ Below w.heap.size w w' := by
  have HM := Lib.hid hm
  have HLM : Hid (m.length = nm) := hm.1
  clear hm
  have Hempty := Lib.hid (OIntss.empty w w.heap.size (Nat.le_refl _))
  have Hbe : Hid (Below w.heap.size w (w.alloc (.cells #[] 54))) := (Below.refl _ _).alloc (Nat.le_refl _) _
  cases h1 : isMat m
  · have hg : Hid (powM m n = none) := powM_none1 h1
    go_enter Try.func55, Try.ntmps55
    go_wp2_with (first | (go_at_call 125; refine (sIsMatrix_any _ _ _ m _ HM.out).mono ?_; rintro e w' ⟨rfl, rfl⟩))
    go_ret2
    rw [hg.out]
    exact ⟨_, rfl, Hempty.out, Hbe.out⟩
  cases h2 : inR n 0 30
  · have hg : Hid (powM m n = none) := powM_none2 h2
    go_enter Try.func55, Try.ntmps55
    go_wp2_with (first | (go_at_call 125; refine (sIsMatrix_any _ _ _ m _ HM.out).mono ?_; rintro e w' ⟨rfl, rfl⟩) | (go_at_call 76; refine (l1In_any _ _ _ _).mono ?_; rintro e w' ⟨rfl, rfl⟩))
    go_ret2
    rw [hg.out]
    exact ⟨_, rfl, Hempty.out, Hbe.out⟩
  obtain ⟨q, rfl⟩ := Int.eq_ofNat_of_zero_le (inR_true h2).1
  have hq : q ≤ 30 := by have := (inR_true h2).2; omega
  have hg : Hid (powM m q = iterM m q (oneT nm)) := by have := powM_iter h1 h2; rw [HLM.out] at this; exact this
  have hn9 : nm ≤ 9 := by have := isMat_len h1; have := HLM.out; omega
  go_enter Try.func55, Try.ntmps55
  go_wp2_with (first | (go_at_call 125; refine (sIsMatrix_any _ _ _ m _ HM.out).mono ?_; rintro e w' ⟨rfl, rfl⟩) | (go_at_call 76; refine (l1In_any _ _ _ _).mono ?_; rintro e w' ⟨rfl, rfl⟩))
  clear h1 h2
  refine (sL4One_any nm _ (by omega)).mono ?_
  rintro e w1 ⟨v, rfl, hown, hbl⟩
  have Hown := Lib.hid hown
  have Hbl := Lib.hid hbl
  clear hown hbl
  go_wp2_with fail
  go_loopw [6, 7] (fun v i wr => ∃ (k : Nat) (acc : List (List Int)), k ≤ q ∧ i = .int .i64 k ∧ OIntss wr w.heap.size v nm acc ∧ Hid (iterM m (q - k) acc = iterM m q (oneT nm)) ∧ Below w.heap.size w wr) (fun _ i _ => q - (intOf i).toNat)
  case atStart => exact ⟨0, _, Nat.zero_le _, rfl, Hown.out, rfl, Hbl.out⟩
  case round =>
    obtain ⟨k, acc, hk, rfl, hown, hit, hbl⟩ := hrel
    obtain ⟨wo, rfl⟩ : ∃ wo : World, wo = wr := ⟨_, rfl⟩
    clear Hown Hbl
    by_cases hlt : k < q
    · have Hstep : Hid (q - k = (q - (k + 1)) + 1) := by show q - k = _; omega
      obtain ⟨ao, cap, rfl, hi⟩ := hown.form
      have Hi := Lib.hid hi
      have Hbl := Lib.hid hbl
      clear hi hbl hown
      go_wp2_with fail
      refine (sMulM_any _ _ _ acc _ _ _ m _ Hi.out (HM.out.keep (Hbl.out.mono (Nat.le_refl _)))).mono ?_
      rintro e w2 ⟨v2, rfl, hown2, hb2⟩
      cases hp : mulM acc m with
      | none =>
        have hr1 : Hid (powM m q = none) := by
          have h5 := hit.out
          rw [Hstep.out, iterM_none hp] at h5
          show powM m q = none
          rw [hg.out, h5]
        have Hb2 := Lib.hid (Hbl.out.trans (hb2.mono Hbl.out.size))
        clear hown2 hb2 hit
        go_wp2_with fail
        go_ret2
        rw [hr1.out]
        exact ⟨_, rfl, OIntss.empty w2 _ Hb2.out.size, Hb2.out.alloc Hb2.out.size _⟩
      | some p =>
        have hit' : Hid (iterM m (q - (k + 1)) p = iterM m q (oneT nm)) := by
          have h5 := hit.out
          rw [Hstep.out, iterM_some hp] at h5
          exact h5
        have hpl : p.length = nm := by have := (mulM_mat hp).2; rw [this, HLM.out]
        rw [hp] at hown2
        have hown3 : OIntss w2 w.heap.size v2 nm p := by
          have h6 : OIntss w2 wo.heap.size v2 p.length p := hown2
          rw [hpl] at h6
          exact h6.mono Hbl.out.size
        have Hown3 := Lib.hid hown3
        have Hb2 := Lib.hid (Hbl.out.trans (hb2.mono Hbl.out.size))
        clear hown2 hb2 hit hown3 hpl
        go_wp2_with fail
        go_roundw
        case rel => exact ⟨k + 1, p, hlt, by go_num, Hown3.out, hit', Hb2.out⟩
        case measure => simp [intOf]; omega
    · have hr1 : Hid (powM m q = some acc) := by
        have h5 := hit.out
        rw [show q - k = 0 from by omega] at h5
        show powM m q = some acc
        rw [hg.out, ← h5]
        rfl
      have Hown := Lib.hid hown
      have Hbl := Lib.hid hbl
      clear hown hbl hit
      go_wp2_with fail
      go_ret2
      rw [hr1.out]
      refine ⟨_, rfl, ?_, Hbl.out⟩
      show OIntss wo w.heap.size _ acc.length acc
      rw [Hown.out.len]
      exact Hown.out
end Go.Proofs.Ytgcemkpinmjaeaa

namespace Go.Proofs.Ytgcemkpinmjaeaa
open Go.RowKit
set_option linter.all false
set_option maxRecDepth 20000 in
set_option maxHeartbeats 1600000 in
theorem sIsBelow1_in (p : Option Addr) (n c : Nat) (m : List (List Int)) (q : Int) (w : World) (h : Intss w p n m) (hs : isSmallM m = true) (hq : 0 ≤ q) (hq2 : q ≤ 3600) :
    Calls Try.prog 54 #[.slice p n c, .int .i64 q, .int .i64 1] w fun e w' => e = .returned (.bool (belowM m q 1)) ∧ Below w.heap.size w w' := by
  have H := Lib.hid h
  have HS := Lib.hid hs
  have B1 := Lib.hid (inR_mk (x := q) (lo := 0) (hi := 3600) ⟨hq, hq2⟩)
  have B2 := Lib.hid (inR_mk (x := (1 : Int)) (lo := 1) (hi := 100) ⟨by omega, by omega⟩)
  clear h hs
  go_enter Try.func54, Try.ntmps54
  go_wp2_with fail
  refine (sIsSmall_any _ _ _ m _ H.out).mono ?_
  rw [HS.out]
  rintro e w' ⟨rfl, rfl⟩
  go_wp2_with fail
  refine (l1In_any _ _ _ _).mono ?_
  rw [B1.out]
  rintro e w' ⟨rfl, rfl⟩
  go_wp2_with fail
  refine (l1In_any _ _ _ _).mono ?_
  rw [B2.out]
  rintro e w' ⟨rfl, rfl⟩
  go_wp2_with fail
  refine (sBelow_any _ _ _ m q 1 _ H.out HS.out hq (by omega) (by omega) (by omega)).mono ?_
  rintro e w' ⟨rfl, hb⟩
  have HB := Lib.hid hb
  clear hb
  go_wp2_with fail
  go_ret
  exact ⟨rfl, HB.out⟩
end Go.Proofs.Ytgcemkpinmjaeaa

namespace Go.Proofs.Ytgcemkpinmjaeaa
open Go.RowKit
set_option linter.all false
set_option maxHeartbeats 1600000 in
theorem iLeast_any (p : Option Addr) (n c : Nat) (m : List (List Int)) (a : Int) (w : World) (h : Intss w p n m) :
    Calls Try.prog 43 #[.slice p n c, .int .i64 a] w fun e w' => ∃ v, e = .returned (.tuple #[v, .bool (least m a)]) ∧ OInts w' w.heap.size v (leastV m a).length (leastV m a) ∧ Below w.heap.size w w' := by
  have H := Lib.hid h
  clear h
  go_enter Try.func43, Try.ntmps43
  go_wp2_with fail
  go_loopw [6] (fun x wr => ∃ k : Nat, 1 ≤ k ∧ k ≤ 10 ∧ x = .int .i64 k ∧ Hid (leastFrom m a (10 - k) k = leastO m a) ∧ Below w.heap.size w wr) (fun x _ => 10 - (intOf x).toNat)
  case atStart => exact ⟨1, by omega, by omega, rfl, rfl, Below.refl _ _⟩
  case round =>
    obtain ⟨k, hk1, hk2, rfl, hl, hb⟩ := hrel
    have HB := Lib.hid hb
    have HM := Lib.hid (H.out.keep hb)
    clear hb
    by_cases hlt : k ≤ 9
    · cases hg : great m a (k : Int)
      · go_wp2_with (go_at_call 39; refine (iGreatest_any _ _ _ m a k _ HM.out).mono ?_; rintro e w1 ⟨v1, rfl, ho1, hb1⟩; have Ho1 := Lib.hid ho1; have Hb1 := Lib.hid hb1; clear ho1 hb1)
        go_roundw
        case rel => exact ⟨k + 1, by omega, by omega, by go_num, least_next hlt hl hg, step2 HB.out Hb1.out⟩
        case measure => simp [intOf]; omega
      · have HL := Lib.hid (least_at hlt hl hg)
        go_wp2_with (go_at_call 39; refine (iGreatest_any _ _ _ m a k _ HM.out).mono ?_; rintro e w1 ⟨v1, rfl, ho1, hb1⟩; have Ho1 := Lib.hid ho1; have Hb1 := Lib.hid hb1; clear ho1 hb1)
        go_ret2
        rw [HL.out.1, HL.out.2]
        exact ⟨_, rfl, Ho1.out.mono HB.out.size, step2 HB.out Hb1.out⟩
    · have e : k = 10 := by omega
      have HL := Lib.hid (least_end e hl)
      go_wp2_with fail
      go_ret2
      rw [HL.out.1, HL.out.2]
      exact ⟨_, rfl, OInts.none_ _ _, HB.out⟩
end Go.Proofs.Ytgcemkpinmjaeaa

namespace Go.Proofs.Ytgcemkpinmjaeaa
open Go.RowKit
set_option linter.all false
set_option maxHeartbeats 1600000 in
theorem iCanEnc_any (pm : Option Addr) (nm cm : Nat) (m : List (List Int)) (p q : Int) (w : World) (h : Intss w pm nm m) :
    Calls Try.prog 49 #[.slice pm nm cm, .int .i64 p, .int .i64 q] w fun e w' => e = .returned (.bool (canEnc m p q)) ∧ Below w.heap.size w w' := by
  have H := Lib.hid h
  clear h
  cases h1 : isSmallM m
  · have hg : Hid (canEnc m p q = false) := by show canEnc m p q = _; simp [canEnc, h1]
    go_enter Try.func49, Try.ntmps49
    go_wp2_with (first
          | (go_at_call 123; refine (iIsSmall_any _ _ _ m _ H.out).mono ?_; rintro e w' ⟨rfl, rfl⟩))
    go_ret
    exact ⟨ret_bool hg.out.symm, Below.refl _ _⟩
  by_cases d1 : p < 1
  · have hg : Hid (canEnc m p q = false) := by show canEnc m p q = _; simp [canEnc, inR_no (x := p) (lo := 1) (hi := 3) (.inl d1)]
    have hdd1 : decide (p < 1) = true := by simpa using d1
    go_enter Try.func49, Try.ntmps49
    go_wp2_with (first
          | (go_at_call 123; refine (iIsSmall_any _ _ _ m _ H.out).mono ?_; rintro e w' ⟨rfl, rfl⟩))
    go_ret
    exact ⟨ret_bool hg.out.symm, Below.refl _ _⟩
  have hdd1 : decide (p < 1) = false := by simpa using d1
  by_cases d2 : 3 < p
  · have hg : Hid (canEnc m p q = false) := by show canEnc m p q = _; simp [canEnc, inR_no (x := p) (lo := 1) (hi := 3) (.inr d2)]
    have hdd2 : decide (3 < p) = true := by simpa using d2
    go_enter Try.func49, Try.ntmps49
    go_wp2_with (first
          | (go_at_call 123; refine (iIsSmall_any _ _ _ m _ H.out).mono ?_; rintro e w' ⟨rfl, rfl⟩))
    go_ret
    exact ⟨ret_bool hg.out.symm, Below.refl _ _⟩
  have hdd2 : decide (3 < p) = false := by simpa using d2
  by_cases d3 : q < 1
  · have hg : Hid (canEnc m p q = false) := by show canEnc m p q = _; simp [canEnc, inR_no (x := q) (lo := 1) (hi := 4) (.inl d3)]
    have hdd3 : decide (q < 1) = true := by simpa using d3
    go_enter Try.func49, Try.ntmps49
    go_wp2_with (first
          | (go_at_call 123; refine (iIsSmall_any _ _ _ m _ H.out).mono ?_; rintro e w' ⟨rfl, rfl⟩))
    go_ret
    exact ⟨ret_bool hg.out.symm, Below.refl _ _⟩
  have hdd3 : decide (q < 1) = false := by simpa using d3
  by_cases d4 : 4 < q
  · have hg : Hid (canEnc m p q = false) := by show canEnc m p q = _; simp [canEnc, inR_no (x := q) (lo := 1) (hi := 4) (.inr d4)]
    have hdd4 : decide (4 < q) = true := by simpa using d4
    go_enter Try.func49, Try.ntmps49
    go_wp2_with (first
          | (go_at_call 123; refine (iIsSmall_any _ _ _ m _ H.out).mono ?_; rintro e w' ⟨rfl, rfl⟩))
    go_ret
    exact ⟨ret_bool hg.out.symm, Below.refl _ _⟩
  have hdd4 : decide (4 < q) = false := by simpa using d4
  have h2 : inR p 1 3 = true := inR_mk ⟨by omega, by omega⟩
  have h3 : inR q 1 4 = true := inR_mk ⟨by omega, by omega⟩
  have hp := inR_true h2
  cases ht : powM m q with
  | none =>
    have hg := Lib.hid (canEnc_none (p := p) ht)
    have hs : (powM m q).isSome = false := by simp [ht]
    clear ht
    go_enter Try.func49, Try.ntmps49
    go_wp2_with (first
          | (go_at_call 123; refine (iIsSmall_any _ _ _ m _ H.out).mono ?_; rintro e w' ⟨rfl, rfl⟩)
          | (go_at_call 124; refine (iPowM_any _ _ _ m _ _ H.out).mono ?_; rintro e w1 ⟨v, rfl, hown, hbl⟩; have Hbl := Lib.hid hbl; clear hown hbl))
    go_ret
    exact ⟨ret_bool hg.out.symm, Hbl.out⟩
  | some t =>
    have hg := Lib.hid (canEnc_some h1 h2 h3 ht)
    have hs : (powM m q).isSome = true := by simp [ht]
    have HG : Hid ((powM m q).getD [] = t) := by show (powM m q).getD [] = t; simp [ht]
    clear ht
    obtain rfl | rfl | rfl : p = 1 ∨ p = 2 ∨ p = 3 := by omega
    all_goals
      clear hp d1 d2 hdd1 hdd2
      go_enter Try.func49, Try.ntmps49
      go_wp2_with (first
          | (go_at_call 123; refine (iIsSmall_any _ _ _ m _ H.out).mono ?_; rintro e w' ⟨rfl, rfl⟩)
          | (go_at_call 124; refine (iPowM_any _ _ _ m _ _ H.out).mono ?_; rintro e w1 ⟨v, rfl, hown, hbl⟩; obtain ⟨ao, cap, rfl, hin⟩ := hown.form; rw [HG.out] at hin; have Hin := Lib.hid hin; have Hbl := Lib.hid hbl; clear hown hbl hin; rw [HG.out])
          | (go_at_call 43; refine (iLeast_any _ _ _ t _ _ Hin.out).mono ?_; rintro e w2 ⟨v2, rfl, hown, hb2⟩; have Hb2 := Lib.hid (step2 Hbl.out hb2); clear hown hb2))
      go_ret
      exact ⟨ret_bool hg.out.symm, Hb2.out⟩
end Go.Proofs.Ytgcemkpinmjaeaa

namespace Go.Proofs.Ytgcemkpinmjaeaa
open Go.RowKit
set_option linter.all false
set_option maxHeartbeats 1600000 in
theorem sCanEnc_any (pm : Option Addr) (nm cm : Nat) (m : List (List Int)) (p q : Int) (w : World) (h : Intss w pm nm m) :
    Calls Try.prog 50 #[.slice pm nm cm, .int .i64 p, .int .i64 q] w fun e w' => e = .returned (.bool (canEnc m p q)) ∧ Below w.heap.size w w' := by
  have H := Lib.hid h
  clear h
  cases h1 : isSmallM m
  · have hg : Hid (canEnc m p q = false) := by show canEnc m p q = _; simp [canEnc, h1]
    go_enter Try.func50, Try.ntmps50
    go_wp2_with (first
          | (go_at_call 53; refine (sIsSmall_any _ _ _ m _ H.out).mono ?_; rintro e w' ⟨rfl, rfl⟩) | (go_at_call 76; refine (l1In_any _ _ _ _).mono ?_; rintro e w' ⟨rfl, rfl⟩))
    go_ret
    exact ⟨ret_bool hg.out.symm, Below.refl _ _⟩
  cases h2 : inR p 1 3
  · have hg : Hid (canEnc m p q = false) := by show canEnc m p q = _; simp [canEnc, h2]
    go_enter Try.func50, Try.ntmps50
    go_wp2_with (first
          | (go_at_call 53; refine (sIsSmall_any _ _ _ m _ H.out).mono ?_; rintro e w' ⟨rfl, rfl⟩) | (go_at_call 76; refine (l1In_any _ _ _ _).mono ?_; rintro e w' ⟨rfl, rfl⟩))
    go_ret
    exact ⟨ret_bool hg.out.symm, Below.refl _ _⟩
  cases h3 : inR q 1 4
  · have hg : Hid (canEnc m p q = false) := by show canEnc m p q = _; simp [canEnc, h3]
    go_enter Try.func50, Try.ntmps50
    go_wp2_with (first
          | (go_at_call 53; refine (sIsSmall_any _ _ _ m _ H.out).mono ?_; rintro e w' ⟨rfl, rfl⟩) | (go_at_call 76; refine (l1In_any _ _ _ _).mono ?_; rintro e w' ⟨rfl, rfl⟩))
    go_ret
    exact ⟨ret_bool hg.out.symm, Below.refl _ _⟩
  have hp := inR_true h2
  cases ht : powM m q with
  | none =>
    have hg := Lib.hid (canEnc_none (p := p) ht)
    have hs : (powM m q).isSome = false := by simp [ht]
    clear ht
    go_enter Try.func50, Try.ntmps50
    go_wp2_with (first
          | (go_at_call 53; refine (sIsSmall_any _ _ _ m _ H.out).mono ?_; rintro e w' ⟨rfl, rfl⟩) | (go_at_call 76; refine (l1In_any _ _ _ _).mono ?_; rintro e w' ⟨rfl, rfl⟩)
          | (go_at_call 55; refine (sPowM_any _ _ _ m _ _ H.out).mono ?_; rintro e w1 ⟨v, rfl, hown, hbl⟩; have Hbl := Lib.hid hbl; clear hown hbl))
    go_ret
    exact ⟨ret_bool hg.out.symm, Hbl.out⟩
  | some t =>
    have hg := Lib.hid (canEnc_some h1 h2 h3 ht)
    have hs : (powM m q).isSome = true := by simp [ht]
    have HG : Hid ((powM m q).getD [] = t) := by show (powM m q).getD [] = t; simp [ht]
    clear ht
    obtain rfl | rfl | rfl : p = 1 ∨ p = 2 ∨ p = 3 := by omega
    all_goals
      clear hp
      go_enter Try.func50, Try.ntmps50
      go_wp2_with (first
          | (go_at_call 53; refine (sIsSmall_any _ _ _ m _ H.out).mono ?_; rintro e w' ⟨rfl, rfl⟩) | (go_at_call 76; refine (l1In_any _ _ _ _).mono ?_; rintro e w' ⟨rfl, rfl⟩)
          | (go_at_call 55; refine (sPowM_any _ _ _ m _ _ H.out).mono ?_; rintro e w1 ⟨v, rfl, hown, hbl⟩; obtain ⟨ao, cap, rfl, hin⟩ := hown.form; rw [HG.out] at hin; have Hin := Lib.hid hin; have Hbl := Lib.hid hbl; clear hown hbl hin; rw [HG.out])
          | (go_at_call 44; refine (sLeast_any _ _ _ t _ _ Hin.out).mono ?_; rintro e w2 ⟨v2, rfl, hown, hb2⟩; have Hb2 := Lib.hid (step2 Hbl.out hb2); clear hown hb2))
      go_ret
      exact ⟨ret_bool hg.out.symm, Hb2.out⟩
end Go.Proofs.Ytgcemkpinmjaeaa
