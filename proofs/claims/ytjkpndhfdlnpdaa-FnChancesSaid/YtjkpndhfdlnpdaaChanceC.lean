/- The determinants of chance tables of 1, 2, 3 and 4 rows, one by one. -/
import Derived.Test.YtjkpndhfdlnpdaaChanceT
namespace Go.Proofs.Ytjkpndhfdlnpdaa
open Go.RowKit
set_option linter.all false
theorem cof1 {a0 s : Int} (hb : ∀ x ∈ [a0], 0 ≤ x ∧ x ≤ 60) (hs : 1 ≤ s ∧ s ≤ 60) (h0 : a0 = s) (hirr : irrT [[a0]] = true) (hnn : ∀ u v, 0 ≤ en [[a0]] u v) :
    ∀ i, i < 1 → 0 < det 0 (minorT (lessT s 1 [[a0]]) i i) ∧ det 0 (minorT (lessT s 1 [[a0]]) i i) ≤ 4000000 := by
  have ka0 := hb a0 (by simp)
  clear hb
  have hR : lessT s 1 [[a0]] = [[s - a0]] := by
    simp [lessT, lessRow, negRow, List.range_succ, neg_w ka0, dia_w ka0 hs]
  rw [hR]
  clear hR
  have hcov : ∀ u, u < 1 → u = 0 := by omega
  intro i hi
  rcases hcov i hi with rfl
  · have hM : minorT [[s - a0]] 0 0 = [] := by simp [minorT, cut]
    rw [hM]
    clear hM
    exact ⟨by simp [det], by simp [det]⟩
theorem cof2 {a0 a1 b0 b1 s : Int} (hb : ∀ x ∈ [a0, a1, b0, b1], 0 ≤ x ∧ x ≤ 60) (hs : 1 ≤ s ∧ s ≤ 60) (h0 : a0 + a1 = s) (h1 : b0 + b1 = s) (hirr : irrT [[a0, a1], [b0, b1]] = true) (hnn : ∀ u v, 0 ≤ en [[a0, a1], [b0, b1]] u v) :
    ∀ i, i < 2 → 0 < det 1 (minorT (lessT s 1 [[a0, a1], [b0, b1]]) i i) ∧ det 1 (minorT (lessT s 1 [[a0, a1], [b0, b1]]) i i) ≤ 4000000 := by
  have ka0 := hb a0 (by simp)
  have ka1 := hb a1 (by simp)
  have kb0 := hb b0 (by simp)
  have kb1 := hb b1 (by simp)
  clear hb
  have hR : lessT s 1 [[a0, a1], [b0, b1]] = [[s - a0, -a1], [-b0, s - b1]] := by
    simp [lessT, lessRow, negRow, List.range_succ, neg_w ka0, neg_w ka1, neg_w kb0, neg_w kb1, dia_w ka0 hs, dia_w kb1 hs]
  rw [hR]
  clear hR
  have hcov : ∀ u, u < 2 → u = 0 ∨ u = 1 := by omega
  intro i hi
  rcases hcov i hi with rfl | rfl
  · have hM : minorT [[s - a0, -a1], [-b0, s - b1]] 0 0 = [[s - b1]] := by simp [minorT, cut]
    rw [hM]
    clear hM
    have hd : -(4611686018427387904) ≤ det 1 [[s - b1]] ∧ det 1 [[s - b1]] ≤ 4611686018427387904 := by
      refine det_bd60 (by omega) rfl (fun p r hr => ?_) (fun r hr x hx => ?_)
      · have hp := List.mem_of_getElem? hr
        simp only [List.mem_cons, List.not_mem_nil, or_false] at hp
        rcases hp with rfl <;> rfl
      · simp only [List.mem_cons, List.not_mem_nil, or_false] at hr
        rcases hr with rfl <;> simp only [List.mem_cons, List.not_mem_nil, or_false] at hx <;> omega
    have q : 0 < b0 := out1 hirr hnn (i := 0) (j := 1) (show 0 < 2 by omega) (show 1 < 2 by omega) (show 0 ≠ 1 by omega) (fun u hu => by have hu : u < 2 := hu; omega)
    rw [det_of_pdet hd ⟨by rw [pdet1]; omega, by rw [pdet1]; omega⟩, pdet1]
    omega
  · have hM : minorT [[s - a0, -a1], [-b0, s - b1]] 1 1 = [[s - a0]] := by simp [minorT, cut]
    rw [hM]
    clear hM
    have hd : -(4611686018427387904) ≤ det 1 [[s - a0]] ∧ det 1 [[s - a0]] ≤ 4611686018427387904 := by
      refine det_bd60 (by omega) rfl (fun p r hr => ?_) (fun r hr x hx => ?_)
      · have hp := List.mem_of_getElem? hr
        simp only [List.mem_cons, List.not_mem_nil, or_false] at hp
        rcases hp with rfl <;> rfl
      · simp only [List.mem_cons, List.not_mem_nil, or_false] at hr
        rcases hr with rfl <;> simp only [List.mem_cons, List.not_mem_nil, or_false] at hx <;> omega
    have q : 0 < a1 := out1 hirr hnn (i := 1) (j := 0) (show 1 < 2 by omega) (show 0 < 2 by omega) (show 1 ≠ 0 by omega) (fun u hu => by have hu : u < 2 := hu; omega)
    rw [det_of_pdet hd ⟨by rw [pdet1]; omega, by rw [pdet1]; omega⟩, pdet1]
    omega
theorem cof3 {a0 a1 a2 b0 b1 b2 c0 c1 c2 s : Int} (hb : ∀ x ∈ [a0, a1, a2, b0, b1, b2, c0, c1, c2], 0 ≤ x ∧ x ≤ 60) (hs : 1 ≤ s ∧ s ≤ 60) (h0 : a0 + a1 + a2 = s) (h1 : b0 + b1 + b2 = s) (h2 : c0 + c1 + c2 = s) (hirr : irrT [[a0, a1, a2], [b0, b1, b2], [c0, c1, c2]] = true) (hnn : ∀ u v, 0 ≤ en [[a0, a1, a2], [b0, b1, b2], [c0, c1, c2]] u v) :
    ∀ i, i < 3 → 0 < det 2 (minorT (lessT s 1 [[a0, a1, a2], [b0, b1, b2], [c0, c1, c2]]) i i) ∧ det 2 (minorT (lessT s 1 [[a0, a1, a2], [b0, b1, b2], [c0, c1, c2]]) i i) ≤ 4000000 := by
  have ka0 := hb a0 (by simp)
  have ka1 := hb a1 (by simp)
  have ka2 := hb a2 (by simp)
  have kb0 := hb b0 (by simp)
  have kb1 := hb b1 (by simp)
  have kb2 := hb b2 (by simp)
  have kc0 := hb c0 (by simp)
  have kc1 := hb c1 (by simp)
  have kc2 := hb c2 (by simp)
  clear hb
  have hR : lessT s 1 [[a0, a1, a2], [b0, b1, b2], [c0, c1, c2]] = [[s - a0, -a1, -a2], [-b0, s - b1, -b2], [-c0, -c1, s - c2]] := by
    simp [lessT, lessRow, negRow, List.range_succ, neg_w ka0, neg_w ka1, neg_w ka2, neg_w kb0, neg_w kb1, neg_w kb2, neg_w kc0, neg_w kc1, neg_w kc2, dia_w ka0 hs, dia_w kb1 hs, dia_w kc2 hs]
  rw [hR]
  clear hR
  have hcov : ∀ u, u < 3 → u = 0 ∨ u = 1 ∨ u = 2 := by omega
  intro i hi
  rcases hcov i hi with rfl | rfl | rfl
  · have hM : minorT [[s - a0, -a1, -a2], [-b0, s - b1, -b2], [-c0, -c1, s - c2]] 0 0 = [[s - b1, -b2], [-c1, s - c2]] := by simp [minorT, cut]
    rw [hM]
    clear hM
    have hd : -(4611686018427387904) ≤ det 2 [[s - b1, -b2], [-c1, s - c2]] ∧ det 2 [[s - b1, -b2], [-c1, s - c2]] ≤ 4611686018427387904 := by
      refine det_bd60 (by omega) rfl (fun p r hr => ?_) (fun r hr x hx => ?_)
      · have hp := List.mem_of_getElem? hr
        simp only [List.mem_cons, List.not_mem_nil, or_false] at hp
        rcases hp with rfl | rfl <;> rfl
      · simp only [List.mem_cons, List.not_mem_nil, or_false] at hr
        rcases hr with rfl | rfl <;> simp only [List.mem_cons, List.not_mem_nil, or_false] at hx <;> omega
    have q1 := exit1 hirr hnn (i := 0) (j := 1) (k := 2) (l := 2) (show 0 < 3 by omega) (show 1 < 3 by omega) (show 0 ≠ 1 by omega) (fun u hu => by have hu : u < 3 := hu; omega)
    have q2 := exit1 hirr hnn (i := 0) (j := 2) (k := 1) (l := 1) (show 0 < 3 by omega) (show 2 < 3 by omega) (show 0 ≠ 2 by omega) (fun u hu => by have hu : u < 3 := hu; omega)
    have q3 := exit3 hirr hnn (i := 0) (j := 1) (k := 2) (l := 2) (show 0 < 3 by omega) (show 1 < 3 by omega) (show 0 ≠ 1 by omega) (show 0 ≠ 2 by omega) (show 0 ≠ 2 by omega) (fun u hu => by have hu : u < 3 := hu; omega)
    simp [en] at q1
    simp [en] at q2
    simp [en] at q3
    have ht := tree2 (a := b0) (b := b2) (d := c0) (e := c1) kb0 kb2 kc0 kc1 (by omega) (by omega) (by omega)
    rw [show b0 + b2 = s - b1 by omega, show c0 + c1 = s - c2 by omega] at ht
    rw [det_of_pdet hd ht]
    exact ht
  · have hM : minorT [[s - a0, -a1, -a2], [-b0, s - b1, -b2], [-c0, -c1, s - c2]] 1 1 = [[s - a0, -a2], [-c0, s - c2]] := by simp [minorT, cut]
    rw [hM]
    clear hM
    have hd : -(4611686018427387904) ≤ det 2 [[s - a0, -a2], [-c0, s - c2]] ∧ det 2 [[s - a0, -a2], [-c0, s - c2]] ≤ 4611686018427387904 := by
      refine det_bd60 (by omega) rfl (fun p r hr => ?_) (fun r hr x hx => ?_)
      · have hp := List.mem_of_getElem? hr
        simp only [List.mem_cons, List.not_mem_nil, or_false] at hp
        rcases hp with rfl | rfl <;> rfl
      · simp only [List.mem_cons, List.not_mem_nil, or_false] at hr
        rcases hr with rfl | rfl <;> simp only [List.mem_cons, List.not_mem_nil, or_false] at hx <;> omega
    have q1 := exit1 hirr hnn (i := 1) (j := 0) (k := 2) (l := 2) (show 1 < 3 by omega) (show 0 < 3 by omega) (show 1 ≠ 0 by omega) (fun u hu => by have hu : u < 3 := hu; omega)
    have q2 := exit1 hirr hnn (i := 1) (j := 2) (k := 0) (l := 0) (show 1 < 3 by omega) (show 2 < 3 by omega) (show 1 ≠ 2 by omega) (fun u hu => by have hu : u < 3 := hu; omega)
    have q3 := exit3 hirr hnn (i := 1) (j := 0) (k := 2) (l := 2) (show 1 < 3 by omega) (show 0 < 3 by omega) (show 1 ≠ 0 by omega) (show 1 ≠ 2 by omega) (show 1 ≠ 2 by omega) (fun u hu => by have hu : u < 3 := hu; omega)
    simp [en] at q1
    simp [en] at q2
    simp [en] at q3
    have ht := tree2 (a := a1) (b := a2) (d := c1) (e := c0) ka1 ka2 kc1 kc0 (by omega) (by omega) (by omega)
    rw [show a1 + a2 = s - a0 by omega, show c1 + c0 = s - c2 by omega] at ht
    rw [det_of_pdet hd ht]
    exact ht
  · have hM : minorT [[s - a0, -a1, -a2], [-b0, s - b1, -b2], [-c0, -c1, s - c2]] 2 2 = [[s - a0, -a1], [-b0, s - b1]] := by simp [minorT, cut]
    rw [hM]
    clear hM
    have hd : -(4611686018427387904) ≤ det 2 [[s - a0, -a1], [-b0, s - b1]] ∧ det 2 [[s - a0, -a1], [-b0, s - b1]] ≤ 4611686018427387904 := by
      refine det_bd60 (by omega) rfl (fun p r hr => ?_) (fun r hr x hx => ?_)
      · have hp := List.mem_of_getElem? hr
        simp only [List.mem_cons, List.not_mem_nil, or_false] at hp
        rcases hp with rfl | rfl <;> rfl
      · simp only [List.mem_cons, List.not_mem_nil, or_false] at hr
        rcases hr with rfl | rfl <;> simp only [List.mem_cons, List.not_mem_nil, or_false] at hx <;> omega
    have q1 := exit1 hirr hnn (i := 2) (j := 0) (k := 1) (l := 1) (show 2 < 3 by omega) (show 0 < 3 by omega) (show 2 ≠ 0 by omega) (fun u hu => by have hu : u < 3 := hu; omega)
    have q2 := exit1 hirr hnn (i := 2) (j := 1) (k := 0) (l := 0) (show 2 < 3 by omega) (show 1 < 3 by omega) (show 2 ≠ 1 by omega) (fun u hu => by have hu : u < 3 := hu; omega)
    have q3 := exit3 hirr hnn (i := 2) (j := 0) (k := 1) (l := 1) (show 2 < 3 by omega) (show 0 < 3 by omega) (show 2 ≠ 0 by omega) (show 2 ≠ 1 by omega) (show 2 ≠ 1 by omega) (fun u hu => by have hu : u < 3 := hu; omega)
    simp [en] at q1
    simp [en] at q2
    simp [en] at q3
    have ht := tree2 (a := a2) (b := a1) (d := b2) (e := b0) ka2 ka1 kb2 kb0 (by omega) (by omega) (by omega)
    rw [show a2 + a1 = s - a0 by omega, show b2 + b0 = s - b1 by omega] at ht
    rw [det_of_pdet hd ht]
    exact ht
set_option maxHeartbeats 1600000 in
theorem cof4 {a0 a1 a2 a3 b0 b1 b2 b3 c0 c1 c2 c3 d0 d1 d2 d3 s : Int} (hb : ∀ x ∈ [a0, a1, a2, a3, b0, b1, b2, b3, c0, c1, c2, c3, d0, d1, d2, d3], 0 ≤ x ∧ x ≤ 60) (hs : 1 ≤ s ∧ s ≤ 60) (h0 : a0 + a1 + a2 + a3 = s) (h1 : b0 + b1 + b2 + b3 = s) (h2 : c0 + c1 + c2 + c3 = s) (h3 : d0 + d1 + d2 + d3 = s) (hirr : irrT [[a0, a1, a2, a3], [b0, b1, b2, b3], [c0, c1, c2, c3], [d0, d1, d2, d3]] = true) (hnn : ∀ u v, 0 ≤ en [[a0, a1, a2, a3], [b0, b1, b2, b3], [c0, c1, c2, c3], [d0, d1, d2, d3]] u v) :
    ∀ i, i < 4 → 0 < det 3 (minorT (lessT s 1 [[a0, a1, a2, a3], [b0, b1, b2, b3], [c0, c1, c2, c3], [d0, d1, d2, d3]]) i i) ∧ det 3 (minorT (lessT s 1 [[a0, a1, a2, a3], [b0, b1, b2, b3], [c0, c1, c2, c3], [d0, d1, d2, d3]]) i i) ≤ 4000000 := by
  have ka0 := hb a0 (by simp)
  have ka1 := hb a1 (by simp)
  have ka2 := hb a2 (by simp)
  have ka3 := hb a3 (by simp)
  have kb0 := hb b0 (by simp)
  have kb1 := hb b1 (by simp)
  have kb2 := hb b2 (by simp)
  have kb3 := hb b3 (by simp)
  have kc0 := hb c0 (by simp)
  have kc1 := hb c1 (by simp)
  have kc2 := hb c2 (by simp)
  have kc3 := hb c3 (by simp)
  have kd0 := hb d0 (by simp)
  have kd1 := hb d1 (by simp)
  have kd2 := hb d2 (by simp)
  have kd3 := hb d3 (by simp)
  clear hb
  have hR : lessT s 1 [[a0, a1, a2, a3], [b0, b1, b2, b3], [c0, c1, c2, c3], [d0, d1, d2, d3]] = [[s - a0, -a1, -a2, -a3], [-b0, s - b1, -b2, -b3], [-c0, -c1, s - c2, -c3], [-d0, -d1, -d2, s - d3]] := by
    simp [lessT, lessRow, negRow, List.range_succ, neg_w ka0, neg_w ka1, neg_w ka2, neg_w ka3, neg_w kb0, neg_w kb1, neg_w kb2, neg_w kb3, neg_w kc0, neg_w kc1, neg_w kc2, neg_w kc3, neg_w kd0, neg_w kd1, neg_w kd2, neg_w kd3, dia_w ka0 hs, dia_w kb1 hs, dia_w kc2 hs, dia_w kd3 hs]
  rw [hR]
  clear hR
  have hcov : ∀ u, u < 4 → u = 0 ∨ u = 1 ∨ u = 2 ∨ u = 3 := by omega
  intro i hi
  rcases hcov i hi with rfl | rfl | rfl | rfl
  · have hM : minorT [[s - a0, -a1, -a2, -a3], [-b0, s - b1, -b2, -b3], [-c0, -c1, s - c2, -c3], [-d0, -d1, -d2, s - d3]] 0 0 = [[s - b1, -b2, -b3], [-c1, s - c2, -c3], [-d1, -d2, s - d3]] := by simp [minorT, cut]
    rw [hM]
    clear hM
    have hd : -(4611686018427387904) ≤ det 3 [[s - b1, -b2, -b3], [-c1, s - c2, -c3], [-d1, -d2, s - d3]] ∧ det 3 [[s - b1, -b2, -b3], [-c1, s - c2, -c3], [-d1, -d2, s - d3]] ≤ 4611686018427387904 := by
      refine det_bd60 (by omega) rfl (fun p r hr => ?_) (fun r hr x hx => ?_)
      · have hp := List.mem_of_getElem? hr
        simp only [List.mem_cons, List.not_mem_nil, or_false] at hp
        rcases hp with rfl | rfl | rfl <;> rfl
      · simp only [List.mem_cons, List.not_mem_nil, or_false] at hr
        rcases hr with rfl | rfl | rfl <;> simp only [List.mem_cons, List.not_mem_nil, or_false] at hx <;> omega
    have q1 := exit1 hirr hnn (i := 0) (j := 1) (k := 2) (l := 3) (show 0 < 4 by omega) (show 1 < 4 by omega) (show 0 ≠ 1 by omega) (fun u hu => by have hu : u < 4 := hu; omega)
    simp [en] at q1
    have q2 := exit1 hirr hnn (i := 0) (j := 2) (k := 1) (l := 3) (show 0 < 4 by omega) (show 2 < 4 by omega) (show 0 ≠ 2 by omega) (fun u hu => by have hu : u < 4 := hu; omega)
    simp [en] at q2
    have q3 := exit1 hirr hnn (i := 0) (j := 3) (k := 1) (l := 2) (show 0 < 4 by omega) (show 3 < 4 by omega) (show 0 ≠ 3 by omega) (fun u hu => by have hu : u < 4 := hu; omega)
    simp [en] at q3
    have q4 := exit2 hirr hnn (i := 0) (j := 1) (k := 2) (l := 3) (show 0 < 4 by omega) (show 1 < 4 by omega) (show 0 ≠ 1 by omega) (show 0 ≠ 2 by omega) (fun u hu => by have hu : u < 4 := hu; omega)
    simp [en] at q4
    have q5 := exit2 hirr hnn (i := 0) (j := 1) (k := 3) (l := 2) (show 0 < 4 by omega) (show 1 < 4 by omega) (show 0 ≠ 1 by omega) (show 0 ≠ 3 by omega) (fun u hu => by have hu : u < 4 := hu; omega)
    simp [en] at q5
    have q6 := exit2 hirr hnn (i := 0) (j := 2) (k := 3) (l := 1) (show 0 < 4 by omega) (show 2 < 4 by omega) (show 0 ≠ 2 by omega) (show 0 ≠ 3 by omega) (fun u hu => by have hu : u < 4 := hu; omega)
    simp [en] at q6
    have q7 := exit3 hirr hnn (i := 0) (j := 1) (k := 2) (l := 3) (show 0 < 4 by omega) (show 1 < 4 by omega) (show 0 ≠ 1 by omega) (show 0 ≠ 2 by omega) (show 0 ≠ 3 by omega) (fun u hu => by have hu : u < 4 := hu; omega)
    simp [en] at q7
    have ht := tree3 kb0 kb2 kb3 kc0 kc1 kc3 kd0 kd1 kd2 (by omega) (by omega) (by omega) (by omega) (by omega) (by omega) (by omega)
    rw [show b0 + b2 + b3 = s - b1 by omega, show c0 + c1 + c3 = s - c2 by omega, show d0 + d1 + d2 = s - d3 by omega] at ht
    rw [det_of_pdet hd ht]
    exact ht
  · have hM : minorT [[s - a0, -a1, -a2, -a3], [-b0, s - b1, -b2, -b3], [-c0, -c1, s - c2, -c3], [-d0, -d1, -d2, s - d3]] 1 1 = [[s - a0, -a2, -a3], [-c0, s - c2, -c3], [-d0, -d2, s - d3]] := by simp [minorT, cut]
    rw [hM]
    clear hM
    have hd : -(4611686018427387904) ≤ det 3 [[s - a0, -a2, -a3], [-c0, s - c2, -c3], [-d0, -d2, s - d3]] ∧ det 3 [[s - a0, -a2, -a3], [-c0, s - c2, -c3], [-d0, -d2, s - d3]] ≤ 4611686018427387904 := by
      refine det_bd60 (by omega) rfl (fun p r hr => ?_) (fun r hr x hx => ?_)
      · have hp := List.mem_of_getElem? hr
        simp only [List.mem_cons, List.not_mem_nil, or_false] at hp
        rcases hp with rfl | rfl | rfl <;> rfl
      · simp only [List.mem_cons, List.not_mem_nil, or_false] at hr
        rcases hr with rfl | rfl | rfl <;> simp only [List.mem_cons, List.not_mem_nil, or_false] at hx <;> omega
    have q1 := exit1 hirr hnn (i := 1) (j := 0) (k := 2) (l := 3) (show 1 < 4 by omega) (show 0 < 4 by omega) (show 1 ≠ 0 by omega) (fun u hu => by have hu : u < 4 := hu; omega)
    simp [en] at q1
    have q2 := exit1 hirr hnn (i := 1) (j := 2) (k := 0) (l := 3) (show 1 < 4 by omega) (show 2 < 4 by omega) (show 1 ≠ 2 by omega) (fun u hu => by have hu : u < 4 := hu; omega)
    simp [en] at q2
    have q3 := exit1 hirr hnn (i := 1) (j := 3) (k := 0) (l := 2) (show 1 < 4 by omega) (show 3 < 4 by omega) (show 1 ≠ 3 by omega) (fun u hu => by have hu : u < 4 := hu; omega)
    simp [en] at q3
    have q4 := exit2 hirr hnn (i := 1) (j := 0) (k := 2) (l := 3) (show 1 < 4 by omega) (show 0 < 4 by omega) (show 1 ≠ 0 by omega) (show 1 ≠ 2 by omega) (fun u hu => by have hu : u < 4 := hu; omega)
    simp [en] at q4
    have q5 := exit2 hirr hnn (i := 1) (j := 0) (k := 3) (l := 2) (show 1 < 4 by omega) (show 0 < 4 by omega) (show 1 ≠ 0 by omega) (show 1 ≠ 3 by omega) (fun u hu => by have hu : u < 4 := hu; omega)
    simp [en] at q5
    have q6 := exit2 hirr hnn (i := 1) (j := 2) (k := 3) (l := 0) (show 1 < 4 by omega) (show 2 < 4 by omega) (show 1 ≠ 2 by omega) (show 1 ≠ 3 by omega) (fun u hu => by have hu : u < 4 := hu; omega)
    simp [en] at q6
    have q7 := exit3 hirr hnn (i := 1) (j := 0) (k := 2) (l := 3) (show 1 < 4 by omega) (show 0 < 4 by omega) (show 1 ≠ 0 by omega) (show 1 ≠ 2 by omega) (show 1 ≠ 3 by omega) (fun u hu => by have hu : u < 4 := hu; omega)
    simp [en] at q7
    have ht := tree3 ka1 ka2 ka3 kc1 kc0 kc3 kd1 kd0 kd2 (by omega) (by omega) (by omega) (by omega) (by omega) (by omega) (by omega)
    rw [show a1 + a2 + a3 = s - a0 by omega, show c1 + c0 + c3 = s - c2 by omega, show d1 + d0 + d2 = s - d3 by omega] at ht
    rw [det_of_pdet hd ht]
    exact ht
  · have hM : minorT [[s - a0, -a1, -a2, -a3], [-b0, s - b1, -b2, -b3], [-c0, -c1, s - c2, -c3], [-d0, -d1, -d2, s - d3]] 2 2 = [[s - a0, -a1, -a3], [-b0, s - b1, -b3], [-d0, -d1, s - d3]] := by simp [minorT, cut]
    rw [hM]
    clear hM
    have hd : -(4611686018427387904) ≤ det 3 [[s - a0, -a1, -a3], [-b0, s - b1, -b3], [-d0, -d1, s - d3]] ∧ det 3 [[s - a0, -a1, -a3], [-b0, s - b1, -b3], [-d0, -d1, s - d3]] ≤ 4611686018427387904 := by
      refine det_bd60 (by omega) rfl (fun p r hr => ?_) (fun r hr x hx => ?_)
      · have hp := List.mem_of_getElem? hr
        simp only [List.mem_cons, List.not_mem_nil, or_false] at hp
        rcases hp with rfl | rfl | rfl <;> rfl
      · simp only [List.mem_cons, List.not_mem_nil, or_false] at hr
        rcases hr with rfl | rfl | rfl <;> simp only [List.mem_cons, List.not_mem_nil, or_false] at hx <;> omega
    have q1 := exit1 hirr hnn (i := 2) (j := 0) (k := 1) (l := 3) (show 2 < 4 by omega) (show 0 < 4 by omega) (show 2 ≠ 0 by omega) (fun u hu => by have hu : u < 4 := hu; omega)
    simp [en] at q1
    have q2 := exit1 hirr hnn (i := 2) (j := 1) (k := 0) (l := 3) (show 2 < 4 by omega) (show 1 < 4 by omega) (show 2 ≠ 1 by omega) (fun u hu => by have hu : u < 4 := hu; omega)
    simp [en] at q2
    have q3 := exit1 hirr hnn (i := 2) (j := 3) (k := 0) (l := 1) (show 2 < 4 by omega) (show 3 < 4 by omega) (show 2 ≠ 3 by omega) (fun u hu => by have hu : u < 4 := hu; omega)
    simp [en] at q3
    have q4 := exit2 hirr hnn (i := 2) (j := 0) (k := 1) (l := 3) (show 2 < 4 by omega) (show 0 < 4 by omega) (show 2 ≠ 0 by omega) (show 2 ≠ 1 by omega) (fun u hu => by have hu : u < 4 := hu; omega)
    simp [en] at q4
    have q5 := exit2 hirr hnn (i := 2) (j := 0) (k := 3) (l := 1) (show 2 < 4 by omega) (show 0 < 4 by omega) (show 2 ≠ 0 by omega) (show 2 ≠ 3 by omega) (fun u hu => by have hu : u < 4 := hu; omega)
    simp [en] at q5
    have q6 := exit2 hirr hnn (i := 2) (j := 1) (k := 3) (l := 0) (show 2 < 4 by omega) (show 1 < 4 by omega) (show 2 ≠ 1 by omega) (show 2 ≠ 3 by omega) (fun u hu => by have hu : u < 4 := hu; omega)
    simp [en] at q6
    have q7 := exit3 hirr hnn (i := 2) (j := 0) (k := 1) (l := 3) (show 2 < 4 by omega) (show 0 < 4 by omega) (show 2 ≠ 0 by omega) (show 2 ≠ 1 by omega) (show 2 ≠ 3 by omega) (fun u hu => by have hu : u < 4 := hu; omega)
    simp [en] at q7
    have ht := tree3 ka2 ka1 ka3 kb2 kb0 kb3 kd2 kd0 kd1 (by omega) (by omega) (by omega) (by omega) (by omega) (by omega) (by omega)
    rw [show a2 + a1 + a3 = s - a0 by omega, show b2 + b0 + b3 = s - b1 by omega, show d2 + d0 + d1 = s - d3 by omega] at ht
    rw [det_of_pdet hd ht]
    exact ht
  · have hM : minorT [[s - a0, -a1, -a2, -a3], [-b0, s - b1, -b2, -b3], [-c0, -c1, s - c2, -c3], [-d0, -d1, -d2, s - d3]] 3 3 = [[s - a0, -a1, -a2], [-b0, s - b1, -b2], [-c0, -c1, s - c2]] := by simp [minorT, cut]
    rw [hM]
    clear hM
    have hd : -(4611686018427387904) ≤ det 3 [[s - a0, -a1, -a2], [-b0, s - b1, -b2], [-c0, -c1, s - c2]] ∧ det 3 [[s - a0, -a1, -a2], [-b0, s - b1, -b2], [-c0, -c1, s - c2]] ≤ 4611686018427387904 := by
      refine det_bd60 (by omega) rfl (fun p r hr => ?_) (fun r hr x hx => ?_)
      · have hp := List.mem_of_getElem? hr
        simp only [List.mem_cons, List.not_mem_nil, or_false] at hp
        rcases hp with rfl | rfl | rfl <;> rfl
      · simp only [List.mem_cons, List.not_mem_nil, or_false] at hr
        rcases hr with rfl | rfl | rfl <;> simp only [List.mem_cons, List.not_mem_nil, or_false] at hx <;> omega
    have q1 := exit1 hirr hnn (i := 3) (j := 0) (k := 1) (l := 2) (show 3 < 4 by omega) (show 0 < 4 by omega) (show 3 ≠ 0 by omega) (fun u hu => by have hu : u < 4 := hu; omega)
    simp [en] at q1
    have q2 := exit1 hirr hnn (i := 3) (j := 1) (k := 0) (l := 2) (show 3 < 4 by omega) (show 1 < 4 by omega) (show 3 ≠ 1 by omega) (fun u hu => by have hu : u < 4 := hu; omega)
    simp [en] at q2
    have q3 := exit1 hirr hnn (i := 3) (j := 2) (k := 0) (l := 1) (show 3 < 4 by omega) (show 2 < 4 by omega) (show 3 ≠ 2 by omega) (fun u hu => by have hu : u < 4 := hu; omega)
    simp [en] at q3
    have q4 := exit2 hirr hnn (i := 3) (j := 0) (k := 1) (l := 2) (show 3 < 4 by omega) (show 0 < 4 by omega) (show 3 ≠ 0 by omega) (show 3 ≠ 1 by omega) (fun u hu => by have hu : u < 4 := hu; omega)
    simp [en] at q4
    have q5 := exit2 hirr hnn (i := 3) (j := 0) (k := 2) (l := 1) (show 3 < 4 by omega) (show 0 < 4 by omega) (show 3 ≠ 0 by omega) (show 3 ≠ 2 by omega) (fun u hu => by have hu : u < 4 := hu; omega)
    simp [en] at q5
    have q6 := exit2 hirr hnn (i := 3) (j := 1) (k := 2) (l := 0) (show 3 < 4 by omega) (show 1 < 4 by omega) (show 3 ≠ 1 by omega) (show 3 ≠ 2 by omega) (fun u hu => by have hu : u < 4 := hu; omega)
    simp [en] at q6
    have q7 := exit3 hirr hnn (i := 3) (j := 0) (k := 1) (l := 2) (show 3 < 4 by omega) (show 0 < 4 by omega) (show 3 ≠ 0 by omega) (show 3 ≠ 1 by omega) (show 3 ≠ 2 by omega) (fun u hu => by have hu : u < 4 := hu; omega)
    simp [en] at q7
    have ht := tree3 ka3 ka1 ka2 kb3 kb0 kb2 kc3 kc0 kc1 (by omega) (by omega) (by omega) (by omega) (by omega) (by omega) (by omega)
    rw [show a3 + a1 + a2 = s - a0 by omega, show b3 + b0 + b2 = s - b1 by omega, show c3 + c0 + c1 = s - c2 by omega] at ht
    rw [det_of_pdet hd ht]
    exact ht
theorem cof_good {t : List (List Int)} (hc : isChance t = true) (hirr : irrT t = true) : ∀ i, i < t.length → 0 < cofAt t i ∧ cofAt t i ≤ 4000000 := by
  have hf := chance_facts hc
  have hnn := chance_nn hc
  unfold cofAt
  obtain ⟨s, hs⟩ : ∃ s, isum 0 (t.getD 0 []) = s := ⟨_, rfl⟩
  rw [hs] at hf ⊢
  obtain ⟨h1, h4, hs1, hs2, hr⟩ := hf
  obtain e | e | e | e : t.length = 1 ∨ t.length = 2 ∨ t.length = 3 ∨ t.length = 4 := by omega
  · obtain ⟨r0, rfl⟩ := len1 e
    have g0 := hr r0 (by simp)
    obtain ⟨a0, rfl⟩ := len1 g0.1
    refine cof1 (fun x hx => ?_) ⟨hs1, hs2⟩ (by have := g0.2.2; simp at this; omega) hirr hnn
    simp only [List.mem_cons, List.not_mem_nil, or_false] at hx
    rcases hx with rfl
    all_goals first | (refine g0.2.1 _ ?_; simp; done)
  · obtain ⟨r0, r1, rfl⟩ := len2 e
    have g0 := hr r0 (by simp)
    have g1 := hr r1 (by simp)
    obtain ⟨a0, a1, rfl⟩ := len2 g0.1
    obtain ⟨b0, b1, rfl⟩ := len2 g1.1
    refine cof2 (fun x hx => ?_) ⟨hs1, hs2⟩ (by have := g0.2.2; simp at this; omega) (by have := g1.2.2; simp at this; omega) hirr hnn
    simp only [List.mem_cons, List.not_mem_nil, or_false] at hx
    rcases hx with rfl | rfl | rfl | rfl
    all_goals first | (refine g0.2.1 _ ?_; simp; done) | (refine g1.2.1 _ ?_; simp; done)
  · obtain ⟨r0, r1, r2, rfl⟩ := len3 e
    have g0 := hr r0 (by simp)
    have g1 := hr r1 (by simp)
    have g2 := hr r2 (by simp)
    obtain ⟨a0, a1, a2, rfl⟩ := len3 g0.1
    obtain ⟨b0, b1, b2, rfl⟩ := len3 g1.1
    obtain ⟨c0, c1, c2, rfl⟩ := len3 g2.1
    refine cof3 (fun x hx => ?_) ⟨hs1, hs2⟩ (by have := g0.2.2; simp at this; omega) (by have := g1.2.2; simp at this; omega) (by have := g2.2.2; simp at this; omega) hirr hnn
    simp only [List.mem_cons, List.not_mem_nil, or_false] at hx
    rcases hx with rfl | rfl | rfl | rfl | rfl | rfl | rfl | rfl | rfl
    all_goals first | (refine g0.2.1 _ ?_; simp; done) | (refine g1.2.1 _ ?_; simp; done) | (refine g2.2.1 _ ?_; simp; done)
  · obtain ⟨r0, r1, r2, r3, rfl⟩ := len4 e
    have g0 := hr r0 (by simp)
    have g1 := hr r1 (by simp)
    have g2 := hr r2 (by simp)
    have g3 := hr r3 (by simp)
    obtain ⟨a0, a1, a2, a3, rfl⟩ := len4 g0.1
    obtain ⟨b0, b1, b2, b3, rfl⟩ := len4 g1.1
    obtain ⟨c0, c1, c2, c3, rfl⟩ := len4 g2.1
    obtain ⟨d0, d1, d2, d3, rfl⟩ := len4 g3.1
    refine cof4 (fun x hx => ?_) ⟨hs1, hs2⟩ (by have := g0.2.2; simp at this; omega) (by have := g1.2.2; simp at this; omega) (by have := g2.2.2; simp at this; omega) (by have := g3.2.2; simp at this; omega) hirr hnn
    simp only [List.mem_cons, List.not_mem_nil, or_false] at hx
    rcases hx with rfl | rfl | rfl | rfl | rfl | rfl | rfl | rfl | rfl | rfl | rfl | rfl | rfl | rfl | rfl | rfl
    all_goals first | (refine g0.2.1 _ ?_; simp; done) | (refine g1.2.1 _ ?_; simp; done) | (refine g2.2.1 _ ?_; simp; done) | (refine g3.2.1 _ ?_; simp; done)
end Go.Proofs.Ytjkpndhfdlnpdaa
