/- The numbers of the diagonal form: what the law asks of them. -/
import Derived.Test.YtgcemkpinmjaeaaDoorDgF
namespace Go.Proofs.YtgcemkpinmjaeaaDoor
open Go.RowKit
set_option linter.all false
theorem dsum_dvd {G : Int} {D : List (List Int) → Int} {t : List (List Int)} : ∀ (xs : List Int) (j : Nat) (g : Int), (∀ k, j ≤ k → k < j + xs.length → G ∣ D (minorT t 0 k)) → G ∣ dsum D t xs j g
  | [], _, _, _ => Int.dvd_zero _
  | x :: xs, j, g, h => by
    unfold dsum
    exact Int.dvd_add (Int.dvd_mul_of_dvd_right (h j (Nat.le_refl _) (by simp))) (dsum_dvd xs (j + 1) (-g) (fun k h1 h2 => h k (by omega) (by simp; omega)))
theorem minors_div {t : List (List Int)} (hb : Bnd 100 t) (hn : t.length ≤ 4) {k : Nat} (hk : k < t.length) : minorsI t k ∣ minorsI t (k + 1) := by
  rw [dvd_minors]
  intro rs hrs cs hcs
  have hr := (setsTo_mem hrs).1
  have hc := (setsTo_mem hcs).1
  rw [det_some (k := k + 1) hb (by omega) hr hc]
  unfold detI
  apply dsum_dvd
  intro j _ hj
  obtain ⟨r0, h0⟩ : ∃ r0, (someT t rs cs)[0]? = some r0 := ⟨_, List.getElem?_eq_getElem (by rw [someT_len]; omega)⟩
  have h1 := someT_rowsLen t rs cs 0 _ h0
  have e : (someT t rs cs).getD 0 [] = r0 := by simp [List.getD, h0]
  rw [e, h1] at hj
  have hm := dvd_minors.1 (Int.dvd_refl (minorsI t k)) _ (sets_erase hn (by omega) hrs (j := 0) (by omega)) _ (sets_erase hn (by omega) hcs (j := j) (by omega))
  rw [minor_some]
  have e1 : (rs.eraseIdx 0).length = k := by rw [List.length_eraseIdx_of_lt (by omega)]; omega
  have e2 : (cs.eraseIdx j).length = k := by rw [List.length_eraseIdx_of_lt (by omega)]; omega
  rw [det_some (k := k) hb (by omega) e1 e2] at hm
  exact hm
theorem sets0_all : ∀ n : Fin 5, sets n.val 0 = [[]] := by decide
theorem minors0 {t : List (List Int)} (hn : t.length ≤ 4) : minorsI t 0 = 1 := by
  have h : sets t.length 0 = [[]] := sets0_all ⟨t.length, by omega⟩
  unfold minorsI
  rw [h]
  simp [gcdAll, gcdRow, det, gcdI]
theorem minors_ne {t : List (List Int)} (hn : t.length ≤ 4) {k : Nat} (hk : k < t.length) (h : minorsI t (k + 1) ≠ 0) : minorsI t k ≠ 0 := fun e => h (minors_mono hn hk e)
def dgAt (t : List (List Int)) (j : Nat) : Int := if minorsI t (j + 1) = 0 then 0 else (minorsI t (j + 1)).tdiv (minorsI t j)
theorem diag_at {t : List (List Int)} (hn : t.length ≤ 4) : ∀ j, j ≤ t.length → ∃ b, (minorsI t j ≠ 0 → b = minorsI t j) ∧ diagL t (t.length - j) (j + 1) b = (diagN t).drop j
  | 0, _ => ⟨1, fun _ => (minors0 hn).symm, by simp [diagN]⟩
  | j + 1, h => by
    obtain ⟨b, hb, he⟩ := diag_at hn j (by omega)
    rw [show t.length - j = (t.length - (j + 1)) + 1 by omega] at he
    by_cases h0 : minorsI t (j + 1) = 0
    · have := diag_zero he h0
      exact ⟨b, fun e => absurd h0 e, this.2⟩
    · have := diag_step he h0
      exact ⟨_, fun _ => rfl, this.2⟩
theorem diag_get {t : List (List Int)} (hn : t.length ≤ 4) {j : Nat} (h : j < t.length) : (diagN t)[j]? = some (dgAt t j) := by
  obtain ⟨b, hb, he⟩ := diag_at hn j (by omega)
  rw [show t.length - j = (t.length - (j + 1)) + 1 by omega] at he
  unfold dgAt
  by_cases h0 : minorsI t (j + 1) = 0
  · rw [if_pos h0]; exact (diag_zero he h0).1
  · rw [if_neg h0, ← hb (minors_ne hn h h0)]; exact (diag_step he h0).1
section
variable {t : List (List Int)} (hb : Bnd 100 t) (hn : t.length ≤ 4)
include hb hn
theorem minors_nn (k : Nat) (hk : k ≤ 4) : 0 ≤ minorsI t k := (minorsI_small hb hk).1
theorem dgn_mul {j : Nat} (h : j < t.length) : minorsI t j * dgAt t j = minorsI t (j + 1) := by
  unfold dgAt
  split
  · rename_i h0; rw [Int.mul_zero, h0]
  · exact Int.mul_tdiv_cancel' (minors_div hb hn h)
theorem dgn_nn {j : Nat} (h : j < t.length) : 0 ≤ dgAt t j := by
  unfold dgAt
  split
  · omega
  · exact Int.tdiv_nonneg (minors_nn hb hn _ (by omega)) (minors_nn hb hn _ (by omega))
theorem dgn_zero {j : Nat} (h : j < t.length) : dgAt t j = 0 ↔ minorsI t (j + 1) = 0 := by
  constructor
  · intro e
    have := dgn_mul hb hn h
    rw [e, Int.mul_zero] at this
    exact this.symm
  · intro e; unfold dgAt; rw [if_pos e]
theorem sq_all {k : Nat} (h : k + 1 < t.length) : minorsI t (k + 1) * minorsI t (k + 1) ∣ minorsI t k * minorsI t (k + 2) := by
  have key : k = 0 ∨ k = 1 ∨ k = 2 := by omega
  rcases key with rfl | rfl | rfl
  · rw [minors0 hn, Int.one_mul]; exact sq1 hb hn
  · exact sq2 hb hn
  · exact sq3 hb hn
theorem dgn_dvd {j : Nat} (h : j + 1 < t.length) : dgAt t j ∣ dgAt t (j + 1) := by
  by_cases h0 : minorsI t (j + 2) = 0
  · rw [(dgn_zero hb hn h).2 h0]; exact Int.dvd_zero _
  have h1 : minorsI t (j + 1) ≠ 0 := minors_ne hn h h0
  have h2 : minorsI t j ≠ 0 := minors_ne hn (by omega) h1
  have hs := sq_all hb hn h
  have e1 := dgn_mul hb hn (j := j) (by omega)
  have e2 := dgn_mul hb hn (j := j + 1) h
  rw [show j + 1 + 1 = j + 2 by omega] at e2
  have a1 : minorsI t (j + 1) * minorsI t (j + 1) = (minorsI t j * minorsI t (j + 1)) * dgAt t j := by
    calc minorsI t (j + 1) * minorsI t (j + 1) = (minorsI t j * dgAt t j) * minorsI t (j + 1) := by rw [e1]
      _ = _ := by grind
  have a2 : minorsI t j * minorsI t (j + 2) = (minorsI t j * minorsI t (j + 1)) * dgAt t (j + 1) := by
    calc minorsI t j * minorsI t (j + 2) = minorsI t j * (minorsI t (j + 1) * dgAt t (j + 1)) := by rw [e2]
      _ = _ := by grind
  rw [a1, a2] at hs
  exact Int.dvd_of_mul_dvd_mul_left (Int.mul_ne_zero h2 h1) hs
/-- What the law's loop keeps: the product and the rank so far. -/
theorem rk_step {j : Nat} (h : j < t.length) : (dgAt t j = 0 → rankF t (j + 1) = rankF t j) ∧ (dgAt t j ≠ 0 → rankF t (j + 1) = j + 1 ∧ rankF t j = j) := by
  have hz := dgn_zero hb hn h
  refine ⟨fun e => ?_, fun e => ?_⟩
  · show (if minorsI t (j + 1) = 0 then rankF t j else j + 1) = _
    rw [if_pos (hz.1 e)]
  · have h1 : minorsI t (j + 1) ≠ 0 := fun q => e (hz.2 q)
    refine ⟨?_, rankF_top (.inr (minors_ne hn h h1))⟩
    show (if minorsI t (j + 1) = 0 then rankF t j else j + 1) = _
    rw [if_neg h1]
end
def iotb (n : Nat) : List Int := (List.range n).map fun (i : Nat) => (i : Int)
theorem iotb_len (n : Nat) : (iotb n).length = n := by simp [iotb]
theorem iotb_get {n k : Nat} (h : k < n) : (iotb n)[k]? = some (k : Int) := by simp [iotb, h]
theorem pick_iotb {r : List Int} {k : Nat} (h : k ≤ r.length) : pickRow r (iotb k) = r.take k := by
  apply List.ext_getElem?
  intro j
  by_cases hj : j < k
  · have hx : r[j]? = some r[j] := List.getElem?_eq_getElem (by omega)
    rw [pickRow_get (iotb_get hj) hx, List.getElem?_take, if_pos hj, hx]
  · rw [List.getElem?_eq_none (by rw [pickRow_len, iotb_len]; omega), List.getElem?_eq_none (by simp; omega)]
theorem setsN_all : ∀ n : Fin 5, 1 ≤ n.val → sets n.val n.val = [iotb n.val] := by decide
theorem some_iotb {t : List (List Int)} {n : Nat} (hl : t.length = n) (hr : RowsLen t n) : someT t (iotb n) (iotb n) = t := by
  apply List.ext_getElem?
  intro i
  by_cases hi : i < n
  · have h1 : t[i]? = some t[i] := List.getElem?_eq_getElem (by omega)
    have h2 := hr i _ h1
    rw [someT_get (iotb_get hi) h1, pick_iotb (by omega), List.take_of_length_le (by omega), h1]
  · rw [List.getElem?_eq_none (by rw [someT_len, iotb_len]; omega), List.getElem?_eq_none (by omega)]
theorem minors_det {t : List (List Int)} {n : Nat} (hl : t.length = n) (hr : RowsLen t n) (h1 : 1 ≤ n) (hn : n ≤ 4) : minorsI t n = ((det n t).natAbs : Int) := by
  have h : sets n n = [iotb n] := setsN_all ⟨n, by omega⟩ h1
  unfold minorsI
  rw [hl, h]
  simp only [gcdAll, gcdRow, some_iotb hl hr]
  simp [gcdI]
/- The turned table. -/
def trn (t : List (List Int)) : List (List Int) := (List.range t.length).map fun i => (List.range t.length).map fun j => el t j i
theorem trn_len (t : List (List Int)) : (trn t).length = t.length := by simp [trn]
theorem trn_el {t : List (List Int)} {i j : Nat} (hi : i < t.length) (hj : j < t.length) : el (trn t) i j = el t j i := by
  simp [el, trn, List.getD, hi, hj]
theorem trn_smith {t : List (List Int)} (h : smith t = true) : smith (trn t) = true := by
  have hl := smith_len h
  unfold smith
  rw [trn_len, inR_mk (x := (t.length : Int)) (lo := 1) (hi := 4) (by omega), Bool.and_true]
  simp only [tabIn, trn, List.all_map, List.all_eq_true, List.mem_range]
  intro i hi
  simp only [Function.comp, List.length_map, List.length_range, decide_true, Bool.true_and, allIn, List.all_eq_true, List.mem_map, List.mem_range]
  rintro x ⟨j, hj, rfl⟩
  have h1 : t[j]? = some t[j] := List.getElem?_eq_getElem hj
  have h2 := smith_row h h1
  have h3 : t[j][i]? = some (t[j][i]'(by omega)) := List.getElem?_eq_getElem _
  have h4 := allIn_get h2.2 h3
  have e : el t j i = t[j][i]'(by omega) := by simp only [el, List.getD, h1, Option.getD_some, h3]
  rw [e]
  exact inR_mk h4
theorem trn_det {t : List (List Int)} (hb : Bnd 100 t) (hb' : Bnd 100 (trn t)) (hn : t.length ≤ 4) {k : Nat} (hk : k ≤ 4) {rs cs : List Int} (hr : rs ∈ sets t.length k) (hc : cs ∈ sets t.length k) :
    det k (someT (trn t) rs cs) = det k (someT t cs rs) := by
  have l1 := (setsTo_mem hr).1
  have l2 := (setsTo_mem hc).1
  rw [det_some (k := k) hb' hk l1 l2, det_some (k := k) hb hk l2 l1]
  have key : k = 0 ∨ k = 1 ∨ k = 2 ∨ k = 3 ∨ k = 4 := by omega
  rcases key with rfl | rfl | rfl | rfl | rfl
  · rfl
  · obtain ⟨r, h1, rfl⟩ := sets1_all ⟨t.length, by omega⟩ rs hr
    obtain ⟨c, h2, rfl⟩ := sets1_all ⟨t.length, by omega⟩ cs hc
    rw [some1, some1]
    exact trn_el h1 h2
  · obtain ⟨r, s, h1, h2, rfl⟩ := sets2_all ⟨t.length, by omega⟩ rs hr
    obtain ⟨c, d, h3, h4, rfl⟩ := sets2_all ⟨t.length, by omega⟩ cs hc
    have g2 : s.val < t.length := h2
    have g4 : d.val < t.length := h4
    have g1 : r.val < t.length := by omega
    have g3 : c.val < t.length := by omega
    rw [some2, some2]
    unfold M2
    rw [trn_el g1 g3, trn_el g2 g4, trn_el g1 g4, trn_el g2 g3]
    grind
  · obtain ⟨r, s, u, h1, h2, h3, rfl⟩ := sets3_all ⟨t.length, by omega⟩ rs hr
    obtain ⟨c, d, e, h4, h5, h6, rfl⟩ := sets3_all ⟨t.length, by omega⟩ cs hc
    have g3 : u.val < t.length := h3
    have g6 : e.val < t.length := h6
    have g1 : r.val < t.length := by omega
    have g2 : s.val < t.length := by omega
    have g4 : c.val < t.length := by omega
    have g5 : d.val < t.length := by omega
    rw [some3, some3]
    unfold D3
    rw [trn_el g1 g4, trn_el g1 g5, trn_el g1 g6, trn_el g2 g4, trn_el g2 g5, trn_el g2 g6, trn_el g3 g4, trn_el g3 g5, trn_el g3 g6]
    grind
  · obtain ⟨h4, rfl⟩ := sets4_all ⟨t.length, by omega⟩ rs hr
    obtain ⟨_, rfl⟩ := sets4_all ⟨t.length, by omega⟩ cs hc
    have hl : t.length = 4 := h4
    have E := fun (i j : Nat) (hi : i < 4) (hj : j < 4) => trn_el (t := t) (i := i) (j := j) (by omega) (by omega)
    rw [some4, some4]
    unfold D4 D3
    rw [E 0 0 (by omega) (by omega), E 0 1 (by omega) (by omega), E 0 2 (by omega) (by omega), E 0 3 (by omega) (by omega), E 1 0 (by omega) (by omega), E 1 1 (by omega) (by omega), E 1 2 (by omega) (by omega), E 1 3 (by omega) (by omega),
      E 2 0 (by omega) (by omega), E 2 1 (by omega) (by omega), E 2 2 (by omega) (by omega), E 2 3 (by omega) (by omega), E 3 0 (by omega) (by omega), E 3 1 (by omega) (by omega), E 3 2 (by omega) (by omega), E 3 3 (by omega) (by omega)]
    grind
theorem trn_minors {t : List (List Int)} (h : smith t = true) {k : Nat} (hk : k ≤ 4) : minorsI (trn t) k = minorsI t k := by
  have hb := smith_bnd h
  have hb' := smith_bnd (trn_smith h)
  have hn := (smith_len h).2
  have n1 := (minorsI_small hb' hk).1
  have n2 := (minorsI_small hb hk).1
  apply Int.dvd_antisymm n1 n2
  · rw [dvd_minors]
    intro rs hr cs hc
    have := dvd_minors.1 (Int.dvd_refl (minorsI (trn t) k)) cs (by rw [trn_len]; exact hc) rs (by rw [trn_len]; exact hr)
    rw [trn_det hb hb' hn hk hc hr] at this
    exact this
  · rw [dvd_minors]
    intro rs hr cs hc
    rw [trn_len] at hr hc
    rw [trn_det hb hb' hn hk hr hc]
    exact dvd_minors.1 (Int.dvd_refl (minorsI t k)) cs hc rs hr
theorem trn_diag {t : List (List Int)} (h : smith t = true) : diagV (trn t) = diagV t := by
  have hn := (smith_len h).2
  simp only [diagV, h, trn_smith h, if_true]
  apply List.ext_getElem?
  intro j
  by_cases hj : j < t.length
  · rw [diag_get (by rw [trn_len]; exact hn) (by rw [trn_len]; exact hj), diag_get hn hj]
    unfold dgAt
    rw [trn_minors h (by omega), trn_minors h (by omega)]
  · rw [List.getElem?_eq_none (by rw [diagN_len, trn_len]; omega), List.getElem?_eq_none (by rw [diagN_len]; omega)]
end Go.Proofs.YtgcemkpinmjaeaaDoor
