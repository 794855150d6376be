/- Parts of the proof of a law, joined: BlkP PairG BlkQ IArcs5 ISumOf IIsGraph IArcsOf IBlockG SMulM SPowM ITimes IMulM IPowM SEqMat EqMat JoinG IPairG SIn Row0 NextT LanI STrace SClosed SCntP. -/
import Derived.Test.YtdmpokanfnlbgaaGreatDoorProg
import Derived.BigQuiet
import Derived.Test.YtdmpokanfnlbgaaGreatDoorBG1a
import Derived.Test.YtdmpokanfnlbgaaGreatDoorBThA
import Derived.Test.YtdmpokanfnlbgaaGreatDoorBG0b
import Derived.Test.YtdmpokanfnlbgaaGreatDoorBSTimes
import Derived.Test.YtdmpokanfnlbgaaGreatDoorBG0a
import Derived.Test.YtdmpokanfnlbgaaGreatDoorBSPairs
import Derived.Test.YtdmpokanfnlbgaaGreatDoorBILively
import Derived.Test.YtdmpokanfnlbgaaGreatDoorBIFilt
namespace Go.Proofs.YtdmpokanfnlbgaaGreatDoor
open Go.RowKit
set_option linter.all false
theorem isMat_mk2 {m : List (List Int)} (h1 : 1 ≤ m.length) (h9 : m.length ≤ 9) (hr : ∀ i, i < m.length → (m.getD i []).length = m.length) (he : ∀ i j, i < m.length → j < m.length → 0 ≤ entA m i j ∧ entA m i j ≤ 1000000) : isMat m = true := by
  unfold isMat
  rw [Bool.and_eq_true]
  refine ⟨?_, inR_mk ⟨by omega, by omega⟩⟩
  unfold tabIn
  rw [List.all_eq_true]
  intro r hr2
  obtain ⟨i, hi, e⟩ := List.getElem_of_mem hr2
  have hd : m.getD i [] = r := getD_get ((List.getElem?_eq_getElem hi).trans (congrArg some e))
  have hl := hr i hi
  rw [hd] at hl
  rw [Bool.and_eq_true, decide_eq_true_eq]
  refine ⟨hl, ?_⟩
  unfold allIn
  rw [List.all_eq_true]
  intro x hx
  obtain ⟨j, hj, e2⟩ := List.getElem_of_mem hx
  have h2 := he i j hi (by omega)
  unfold entA at h2
  rw [hd, getD_get ((List.getElem?_eq_getElem hj).trans (congrArg some e2))] at h2
  exact inR_mk h2
theorem nine_pow2 {t : Nat} (h : t ≤ 5) : (9 : Int) ^ t * 9 ≤ 1000000 ∧ (9 : Int) ^ (t + 1) = 9 ^ t * 9 ∧ 0 ≤ (9 : Int) ^ t := by
  refine ⟨?_, Int.pow_succ 9 t, ?_⟩
  · have h6 : t = 0 ∨ t = 1 ∨ t = 2 ∨ t = 3 ∨ t = 4 ∨ t = 5 := by omega
    rcases h6 with rfl | rfl | rfl | rfl | rfl | rfl <;> decide
  · exact Int.pow_nonneg (by omega)
theorem Sm_mono : ∀ (n : Nat) (f g : Nat → Int), (∀ j, j < n → f j ≤ g j) → Sm n f ≤ Sm n g
  | 0, _, _, _ => Int.le_refl _
  | n + 1, f, g, h => by
    have h1 := Sm_mono n f g (fun j hj => h j (by omega))
    have h2 := h n (by omega)
    show Sm n f + f n ≤ Sm n g + g n
    omega
theorem Sm_nn : ∀ (n : Nat) (f : Nat → Int), (∀ j, j < n → 0 ≤ f j) → 0 ≤ Sm n f
  | 0, _, _ => Int.le_refl _
  | n + 1, f, h => by
    have h1 := Sm_nn n f (fun j hj => h j (by omega))
    have h2 := h n (by omega)
    show 0 ≤ Sm n f + f n
    omega
theorem iterM_col {m : List (List Int)} (hm : isMat m = true) (hc : ∀ l, l < m.length → Sm m.length (fun j => entA m j l) ≤ 9) : ∀ (k t : Nat) (acc : List (List Int)), t + k ≤ 6 → isMat acc = true → acc.length = m.length →
    (∀ i l, i < m.length → l < m.length → entA acc i l ≤ 9 ^ t) → ∃ p, iterM m k acc = some p
  | 0, _, acc, _, _, _, _ => ⟨acc, rfl⟩
  | k + 1, t, acc, hk, h1, h2, h => by
    have hmn := isMat_len hm
    obtain ⟨hp1, hp2, hp0⟩ := nine_pow2 (t := t) (by omega)
    have key : ∀ i l, i < m.length → l < m.length → 0 ≤ entA (mulT acc m m.length) i l ∧ entA (mulT acc m m.length) i l ≤ 9 ^ (t + 1) := by
      intro i l hi hl
      have hrl : (acc.getD i []).length = m.length := by
        have := isMat_row h1 (get_lt acc i [] (by omega))
        omega
      have hrow : (mulT acc m m.length).getD i [] = mulRow m m.length (acc.getD i []) := getD_get (mulT_get (get_lt acc i [] (by omega)))
      have hr := row_mul hrl hl
      have hnn : 0 ≤ Sm m.length (fun j => (acc.getD i []).getD j 0 * entA m j l) := Sm_nn _ _ fun j hj => by
        have ha := ent_range h1 (j := i) (l := j) (by omega) (by omega)
        have hc := ent_range hm hj hl
        exact Int.mul_nonneg ha.1 hc.1
      have hle : Sm m.length (fun j => (acc.getD i []).getD j 0 * entA m j l) ≤ 9 ^ t * Sm m.length (fun j => entA m j l) := by
        rw [← Sm_mul]
        refine Sm_mono _ _ _ fun j hj => ?_
        have hc := ent_range hm hj hl
        have h3 := h i j hi hj
        exact Int.mul_le_mul_of_nonneg_right h3 hc.1
      have h7 : 9 ^ t * Sm m.length (fun j => entA m j l) ≤ 9 ^ t * 9 := Int.mul_le_mul_of_nonneg_left (hc l hl) hp0
      have h8 : entA (mulT acc m m.length) i l = Sm m.length (fun j => (acc.getD i []).getD j 0 * entA m j l) := by
        have hw : entA (mulT acc m m.length) i l = (mulRow m m.length (acc.getD i [])).getD l 0 := by unfold entA; rw [hrow]
        rw [hw]
        exact hr.1.same hr.2 (wrap_id (by omega))
      rw [h8, hp2]
      omega
    have hmt : isMat (mulT acc m m.length) = true := by
      refine isMat_mk2 (by rw [mulT_len]; omega) (by rw [mulT_len]; omega) (fun i hi => ?_) (fun i j hi hj => ?_)
      · rw [mulT_len] at hi ⊢
        rw [getD_get (mulT_get (get_lt acc i [] hi)), mulRow_len, h2]
      · rw [mulT_len] at hi hj
        have := key i j (by omega) (by omega)
        rw [hp2] at this
        omega
    rw [iterM_some (mulM_some h1 hm h2 hmt)]
    exact iterM_col hm hc k (t + 1) _ (by omega) hmt (by rw [mulT_len, h2]) (fun i l hi hl => (key i l hi hl).2)
theorem pow_col {m : List (List Int)} (hm : isMat m = true) (hc : ∀ l, l < m.length → Sm m.length (fun j => entA m j l) ≤ 9) {k : Nat} (h6 : k ≤ 6) :
    ∃ p, powM m k = some p ∧ p.length = m.length ∧ isMat p = true ∧ ∀ i l, i < m.length → l < m.length → entA p i l = TT m.length i (entA m) k l := by
  have hmn := isMat_len hm
  obtain ⟨p, hp⟩ := iterM_col hm hc k 0 (oneT m.length) (by omega) (oneT_mat hmn.1 hmn.2) (oneT_len _) (fun i l hi hl => by
    rw [one_ent hi hl]
    split <;> simp)
  have hpw : powM m k = some p := by rw [powM_iter hm (inR_mk ⟨by omega, by omega⟩)]; exact hp
  have hmp := powM_mat hpw
  refine ⟨p, hpw, hmp.2.2, hmp.2.1, fun i l hi hl => ?_⟩
  have := iterM_exact hm _ 0 _ p (oneT_mat hmn.1 hmn.2) (oneT_len _) (fun i l hi hl => one_ent hi hl) hp i l hi hl
  rw [Nat.zero_add] at this
  exact this
/- Arcs counted. -/
def at2 (i j : Nat) (a : List Int) : Int := (if a.getD 0 0 = i then 1 else 0) * (if a.getD 1 0 = j then 1 else 0)
def cnt2 (i j : Nat) (L : List (List Int)) : Int := (L.map (at2 i j)).sum
theorem cnt2_app (i j : Nat) (L M : List (List Int)) : cnt2 i j (L ++ M) = cnt2 i j L + cnt2 i j M := by simp [cnt2]
theorem cnt2_rep (i j : Nat) (a : List Int) (c : Nat) : cnt2 i j (List.replicate c a) = c * at2 i j a := by
  induction c with
  | zero => simp [cnt2]
  | succ c ih =>
    rw [List.replicate_succ]
    show at2 i j a + cnt2 i j (List.replicate c a) = _
    rw [ih]
    have : ((c + 1 : Nat) : Int) = c + 1 := by omega
    rw [this, Int.add_mul]
    omega
theorem at2_lit (i j p q : Nat) : at2 i j [(p : Int), (q : Int)] = if p = i ∧ q = j then 1 else 0 := by
  unfold at2
  show (if (p : Int) = i then (1 : Int) else 0) * (if (q : Int) = j then 1 else 0) = _
  by_cases h1 : p = i
  · by_cases h2 : q = j
    · rw [if_pos (by omega), if_pos (by omega), if_pos ⟨h1, h2⟩]; rfl
    · rw [if_pos (by omega), if_neg (by omega), if_neg (fun e => h2 e.2)]; rfl
  · rw [if_neg (show ¬ (p : Int) = (i : Int) by omega), Int.zero_mul, if_neg (fun e => h1 e.1)]
theorem cnt2_J (i j p : Nat) : ∀ (r : List Int) (q : Nat), (∀ x ∈ r, 0 ≤ x) → cnt2 i j (arcsJ p q r) = if p = i ∧ q ≤ j then r.getD (j - q) 0 else 0
  | [], q, _ => by simp [arcsJ, cnt2]
  | x :: r, q, h => by
    have hx := h x (List.mem_cons_self ..)
    rw [arcsJ, cnt2_app, cnt2_rep, at2_lit, cnt2_J i j p r (q + 1) (fun y hy => h y (List.mem_cons_of_mem _ hy))]
    by_cases h1 : p = i
    · by_cases h2 : q = j
      · rw [if_pos ⟨h1, h2⟩, if_neg (by omega), if_pos ⟨h1, by omega⟩, h2, Nat.sub_self, List.getD_cons_zero]
        omega
      · by_cases h3 : q < j
        · rw [if_neg (by omega), if_pos (by omega), if_pos (by omega), show j - q = (j - (q + 1)) + 1 by omega, List.getD_cons_succ]
          omega
        · rw [if_neg (by omega), if_neg (by omega), if_neg (by omega)]
          omega
    · rw [if_neg (by omega), if_neg (by omega), if_neg (by omega)]
      omega
theorem cnt2_I (i j : Nat) : ∀ (m : List (List Int)) (p : Nat), (∀ r ∈ m, ∀ x ∈ r, 0 ≤ x) → cnt2 i j (arcsI p m) = if p ≤ i then (m.getD (i - p) []).getD j 0 else 0
  | [], p, _ => by simp [arcsI, cnt2]
  | r :: rs, p, h => by
    rw [arcsI, cnt2_app, cnt2_J i j p r 0 (h r (List.mem_cons_self ..)), cnt2_I i j rs (p + 1) (fun q hq => h q (List.mem_cons_of_mem _ hq))]
    by_cases h1 : p = i
    · rw [if_pos (by omega), if_neg (by omega), if_pos (by omega), h1, Nat.sub_self, List.getD_cons_zero, Nat.sub_zero]
      omega
    · by_cases h3 : p < i
      · rw [if_neg (by omega), if_pos (by omega), if_pos (by omega), show i - p = (i - (p + 1)) + 1 by omega, List.getD_cons_succ]
        omega
      · rw [if_neg (by omega), if_neg (by omega), if_neg (by omega)]
        omega
theorem Sm_map {α : Type} (d : α) (f : α → Int) : ∀ L : List α, Sm L.length (fun q => f (L.getD q d)) = (L.map f).sum
  | [] => rfl
  | x :: L => by
    rw [List.length_cons, Sm_first, List.map_cons, List.sum_cons, ← Sm_map d f L]
    rfl
theorem arcs_cnt {m : List (List Int)} (hm : isMat m = true) (i j : Nat) : entA m i j = Sm (arcsL m).length (fun q => (if entA (arcsL m) q 0 = i then 1 else 0) * (if entA (arcsL m) q 1 = j then 1 else 0)) := by
  have h := Sm_map [] (at2 i j) (arcsL m)
  have e : Sm (arcsL m).length (fun q => at2 i j ((arcsL m).getD q [])) = Sm (arcsL m).length (fun q => (if entA (arcsL m) q 0 = i then 1 else 0) * (if entA (arcsL m) q 1 = j then 1 else 0)) := Sm_congr _ _ _ fun q _ => rfl
  rw [← e, h]
  have h2 := cnt2_I i j m 0 (fun r hr x hx => by
    obtain ⟨a, ha⟩ := List.getElem?_of_mem hr
    obtain ⟨b, hb⟩ := List.getElem?_of_mem hx
    exact (allIn_get (isMat_row hm ha).2 hb).1)
  rw [if_pos (Nat.zero_le _), Nat.sub_zero] at h2
  exact h2.symm
theorem mem_J2 {i : Nat} : ∀ {r : List Int} {j : Nat} {a : List Int}, a ∈ arcsJ i j r → ∃ k : Nat, k < j + r.length ∧ a = [(i : Int), (k : Int)]
  | [], _, _, h => by simp [arcsJ] at h
  | x :: r, j, a, h => by
    rw [arcsJ] at h
    rcases List.mem_append.1 h with h | h
    · exact ⟨j, by simp, List.eq_of_mem_replicate h⟩
    · obtain ⟨k, h1, h2⟩ := mem_J2 h
      exact ⟨k, by rw [List.length_cons]; omega, h2⟩
theorem mem_I2 {n : Nat} : ∀ {m : List (List Int)} {i : Nat} {a : List Int}, (∀ r ∈ m, r.length = n) → a ∈ arcsI i m → ∃ p q : Nat, p < i + m.length ∧ q < n ∧ a = [(p : Int), (q : Int)]
  | [], _, _, _, h => by simp [arcsI] at h
  | r :: rs, i, a, hn, h => by
    rw [arcsI] at h
    rcases List.mem_append.1 h with h | h
    · obtain ⟨k, h1, h2⟩ := mem_J2 h
      rw [hn r (List.mem_cons_self ..)] at h1
      exact ⟨i, k, by rw [List.length_cons]; omega, by omega, h2⟩
    · obtain ⟨p, q, h1, h2, h3⟩ := mem_I2 (fun s hs => hn s (List.mem_cons_of_mem _ hs)) h
      exact ⟨p, q, by rw [List.length_cons]; omega, h2, h3⟩
theorem arcs_ends {m : List (List Int)} (hm : isMat m = true) {q : Nat} (hq : q < (arcsL m).length) : ∃ a b : Nat, a < m.length ∧ b < m.length ∧ entA (arcsL m) q 0 = a ∧ entA (arcsL m) q 1 = b := by
  have hg : (arcsL m)[q]? = some (arcsL m)[q] := List.getElem?_eq_getElem hq
  obtain ⟨a, b, h1, h2, h3⟩ := mem_I2 (n := m.length) (m := m) (i := 0) (fun r hr => by
    obtain ⟨k, hk⟩ := List.getElem?_of_mem hr
    exact (isMat_row hm hk).1) (List.getElem_mem hq)
  refine ⟨a, b, by omega, h2, ?_, ?_⟩ <;> unfold entA <;> rw [getD_get hg, h3] <;> rfl
def stF (A : List (List Int)) (i q : Nat) : Int := if entA A q 0 = i then 1 else 0
def enF (A : List (List Int)) (q j : Nat) : Int := if entA A q 1 = j then 1 else 0
theorem one_of {n a : Nat} (ha : a < n) : Sm n (fun i => if (a : Int) = (i : Int) then (1 : Int) else 0) = 1 := by
  have h := Sm_one n a (fun _ => 1) ha
  refine Eq.trans (Sm_congr _ _ _ fun i _ => ?_) h
  by_cases e : i = a
  · rw [if_pos (by omega), if_pos e]; rfl
  · rw [if_neg (by omega), if_neg e, Int.zero_mul]
section
variable {m : List (List Int)} (hm : isMat m = true)
include hm
theorem st_one {q : Nat} (hq : q < (arcsL m).length) : Sm m.length (fun i => stF (arcsL m) i q) = 1 := by
  obtain ⟨a, b, ha, hb, e0, e1⟩ := arcs_ends hm hq
  unfold stF
  rw [e0]
  exact one_of ha
theorem en_one {q : Nat} (hq : q < (arcsL m).length) : Sm m.length (fun j => enF (arcsL m) q j) = 1 := by
  obtain ⟨a, b, ha, hb, e0, e1⟩ := arcs_ends hm hq
  unfold enF
  rw [e1]
  exact one_of hb
theorem prod_A (i j : Nat) : entA m i j = Sm (arcsL m).length (fun q => stF (arcsL m) i q * enF (arcsL m) q j) := arcs_cnt hm i j
theorem prod_X {p q : Nat} (hp : p < (arcsL m).length) (hq : q < (arcsL m).length) : (if entA (arcsL m) p 1 = entA (arcsL m) q 0 then (1 : Int) else 0) = Sm m.length (fun i => enF (arcsL m) p i * stF (arcsL m) i q) := by
  obtain ⟨a, b, ha, hb, e0, e1⟩ := arcs_ends hm hp
  obtain ⟨a2, b2, ha2, hb2, f0, f1⟩ := arcs_ends hm hq
  unfold enF stF
  rw [e1, f0]
  have h := Sm_one m.length b (fun i => if (a2 : Int) = (i : Int) then (1 : Int) else 0) hb
  rw [show (if (b : Int) = (a2 : Int) then (1 : Int) else 0) = if (a2 : Int) = (b : Int) then 1 else 0 by
    by_cases e : (b : Int) = (a2 : Int)
    · rw [if_pos e, if_pos e.symm]
    · rw [if_neg e, if_neg (fun e2 => e e2.symm)], ← h]
  refine Sm_congr _ _ _ fun i _ => ?_
  congr 1
  by_cases e : i = b
  · rw [if_pos e, if_pos (by omega)]
  · rw [if_neg e, if_neg (by omega)]
theorem col_le (l : Nat) : Sm m.length (fun j => entA m j l) ≤ (arcsL m).length := by
  have e1 : Sm m.length (fun j => entA m j l) = Sm (arcsL m).length (fun q => enF (arcsL m) q l) := by
    rw [Sm_congr _ _ _ (fun j _ => prod_A hm j l), Sm_comm]
    refine Sm_congr _ _ _ fun q hq => ?_
    rw [Sm_mulr, st_one hm hq, Int.one_mul]
  rw [e1]
  have := Sm_bound 1 (arcsL m).length (fun q => enF (arcsL m) q l) (fun q _ => by unfold enF; split <;> omega)
  omega
end
theorem blk_facts {m : List (List Int)} (h : blkOk m = true) : isMat m = true ∧ arcsV m = arcsL m ∧ 1 ≤ (arcsL m).length ∧ (arcsL m).length ≤ 9 ∧ blkV m = mkT (arcsL m).length (blkF m) ∧ isMat (blkV m) = true := by
  have hg : isGraph m = true := by
    cases hq : isGraph m
    · unfold blkOk arcsV at h
      simp [hq] at h
      exact absurd h (by decide)
    · rfl
  have hav : arcsV m = arcsL m := by unfold arcsV; rw [if_pos hg]
  have hm := (graph_arcs hg).1
  have hr := h
  unfold blkOk at hr
  rw [hav] at hr
  have hr2 := inR_true hr
  have hv : blkV m = mkT (arcsL m).length (blkF m) := by unfold blkV; rw [if_pos h, hav]
  refine ⟨hm, hav, by omega, by omega, hv, ?_⟩
  rw [hv]
  exact mkT_isMat (by omega) (by omega) fun x y _ _ => by unfold blkF; split <;> omega
theorem blk_col {m : List (List Int)} (h : blkOk m = true) : ∀ l, l < (blkV m).length → Sm (blkV m).length (fun j => entA (blkV m) j l) ≤ 9 := by
  obtain ⟨hm, hav, h1, h9, hv, hmat⟩ := blk_facts h
  intro l hl
  have hlen : (blkV m).length = (arcsL m).length := by rw [hv, mkT_len]
  have := Sm_bound 1 (blkV m).length (fun j => entA (blkV m) j l) (fun j hj => by
    rw [hv] at hj hl ⊢
    rw [mkT_len] at hj hl
    show 0 ≤ entA _ j l ∧ _
    rw [mkT_ent hj hl]
    unfold blkF
    split <;> omega)
  omega
theorem blk_closed {m : List (List Int)} (h : blkOk m = true) {i : Nat} (h1 : 1 ≤ i) (h4 : i ≤ 4) : closed (blkV m) i = closed m i := by
  obtain ⟨hm, hav, ha1, ha9, hv, hmat⟩ := blk_facts h
  obtain ⟨p, hp, _⟩ := pow_col hm (fun l _ => by have := col_le hm l; omega) (k := i) (by omega)
  obtain ⟨q, hq, _⟩ := pow_col hmat (blk_col h) (k := i) (by omega)
  rw [(closed_exact h1 (by omega) hp).1, (closed_exact h1 (by omega) hq).1]
  obtain ⟨t, rfl⟩ : ∃ t, i = t + 1 := ⟨i - 1, by omega⟩
  have hlen : (blkV m).length = (arcsL m).length := by rw [hv, mkT_len]
  rw [hlen]
  refine (tr_two (R := stF (arcsL m)) (S := enF (arcsL m)) (n := m.length) (m := (arcsL m).length) (A := entA m) (X := entA (blkV m)) (fun i j _ _ => prod_A hm i j) (fun p q hp hq => ?_) t).symm
  rw [hv, mkT_ent hp hq]
  unfold blkF
  rw [hav]
  exact prod_X hm hp hq
theorem Sm_row2 : ∀ (r : List Int), Sm r.length (fun k => r.getD k 0) = r.sum
  | [] => rfl
  | x :: r => by
    rw [List.length_cons, Sm_first, List.sum_cons, ← Sm_row2 r]
    rfl
theorem sum_Sm {T : List (List Int)} (h : isMat T = true) : sumOf T = Sm T.length (fun i => Sm T.length (fun l => entA T i l)) := by
  unfold sumOf msum
  rw [if_pos h, ← Sm_map [] List.sum T]
  refine Sm_congr _ _ _ fun i hi => ?_
  have hq : T[i]? = some T[i] := List.getElem?_eq_getElem hi
  have hl := (isMat_row h hq).1
  show (T.getD i []).sum = _
  rw [getD_get hq, ← Sm_row2, hl]
  refine Sm_congr _ _ _ fun l _ => ?_
  unfold entA
  rw [getD_get hq]
theorem blk_sum {m : List (List Int)} (h : blkOk m = true) : sumOf (blkV m) = cntP m 2 := by
  obtain ⟨hm, hav, ha1, ha9, hv, hmat⟩ := blk_facts h
  obtain ⟨p, hp, hpl, hpm, hpe⟩ := pow_col hm (fun l _ => by have := col_le hm l; omega) (k := 2) (by omega)
  have hc : cntP m 2 = sumOf p := by unfold cntP; rw [show (2 : Int) = ((2 : Nat) : Int) from rfl, hp]
  rw [hc, sum_Sm hmat, sum_Sm hpm, hpl]
  have hlen : (blkV m).length = (arcsL m).length := by rw [hv, mkT_len]
  rw [hlen]
  have e1 : Sm m.length (fun i => Sm m.length (fun l => entA p i l)) = Sm m.length (fun j => Sm m.length (fun i => entA m i j) * Sm m.length (fun l => entA m j l)) := by
    have a1 : Sm m.length (fun i => Sm m.length (fun l => entA p i l)) = Sm m.length (fun i => Sm m.length (fun l => Sm m.length (fun j => entA m i j * entA m j l))) := Sm_congr _ _ _ fun i hi => Sm_congr _ _ _ fun l hl => by
      rw [hpe i l hi hl]
      show Sm m.length (fun j => TT m.length i (entA m) 1 j * entA m j l) = _
      exact Sm_congr _ _ _ fun j _ => by rw [TT_one m.length i (entA m) hi]
    have a2 : Sm m.length (fun i => Sm m.length (fun l => Sm m.length (fun j => entA m i j * entA m j l))) = Sm m.length (fun i => Sm m.length (fun j => entA m i j * Sm m.length (fun l => entA m j l))) := Sm_congr _ _ _ fun i _ => by
      rw [Sm_comm]
      exact Sm_congr _ _ _ fun j _ => Sm_mul _ _ _
    rw [a1, a2, Sm_comm]
    exact Sm_congr _ _ _ fun j _ => Sm_mulr _ _ _
  have e2 : Sm (arcsL m).length (fun p => Sm (arcsL m).length (fun q => entA (blkV m) p q)) = Sm m.length (fun j => Sm (arcsL m).length (fun p => enF (arcsL m) p j) * Sm (arcsL m).length (fun q => stF (arcsL m) j q)) := by
    have a1 : Sm (arcsL m).length (fun p => Sm (arcsL m).length (fun q => entA (blkV m) p q)) = Sm (arcsL m).length (fun p => Sm (arcsL m).length (fun q => Sm m.length (fun i => enF (arcsL m) p i * stF (arcsL m) i q))) := Sm_congr _ _ _ fun p hp => Sm_congr _ _ _ fun q hq => by
      rw [hv, mkT_ent hp hq]
      unfold blkF
      rw [hav]
      exact prod_X hm hp hq
    have a2 : Sm (arcsL m).length (fun p => Sm (arcsL m).length (fun q => Sm m.length (fun i => enF (arcsL m) p i * stF (arcsL m) i q))) = Sm (arcsL m).length (fun p => Sm m.length (fun i => enF (arcsL m) p i * Sm (arcsL m).length (fun q => stF (arcsL m) i q))) := Sm_congr _ _ _ fun p _ => by
      rw [Sm_comm]
      exact Sm_congr _ _ _ fun i _ => Sm_mul _ _ _
    rw [a1, a2, Sm_comm]
    exact Sm_congr _ _ _ fun i _ => Sm_mulr _ _ _
  rw [e1, e2]
  refine Sm_congr _ _ _ fun j _ => ?_
  congr 1
  · rw [Sm_congr _ _ _ (fun i _ => prod_A hm i j), Sm_comm]
    exact (Sm_congr _ _ _ fun q hq => by rw [Sm_mulr, st_one hm hq, Int.one_mul]).symm
  · rw [Sm_congr _ _ _ (fun l _ => prod_A hm j l), Sm_comm]
    exact (Sm_congr _ _ _ fun q hq => by rw [Sm_mul, en_one hm hq, Int.mul_one]).symm
end Go.Proofs.YtdmpokanfnlbgaaGreatDoor

namespace Go.Proofs.YtdmpokanfnlbgaaGreatDoor
open Go.RowKit
set_option linter.all false
def PmT (a b : List (List Int)) (i j k l : Nat) : Nat → Nat → Int := fun x y =>
  if x / b.length < i ∨ (x / b.length = i ∧ (y / b.length < j ∨ (y / b.length = j ∧ (x % b.length < k ∨ (x % b.length = k ∧ y % b.length < l))))) then pairF a b x y else 0
theorem div_mod_at {n i k x : Nat} (hk : k < n) : x = i * n + k ↔ x / n = i ∧ x % n = k := by
  constructor
  · rintro rfl
    rw [Nat.mul_comm]
    exact ⟨by rw [Nat.mul_add_div (by omega), Nat.div_eq_of_lt hk]; rfl, by rw [Nat.mul_add_mod, Nat.mod_eq_of_lt hk]⟩
  · rintro ⟨rfl, rfl⟩
    rw [Nat.mul_comm]
    exact (Nat.div_add_mod x n).symm
section
variable {a b : List (List Int)}
theorem pm_start (N : Nat) : List.replicate N (List.replicate N (0 : Int)) = mkT N (PmT a b 0 0 0 0) := by
  rw [mkT_zero]
  refine mkT_congr fun x y _ _ => ?_
  unfold PmT
  rw [if_neg (by generalize x / b.length = X; generalize y / b.length = Y; generalize x % b.length = X2; generalize y % b.length = Y2; omega)]
theorem pm_step {i j k l N : Nat} (hk : k < b.length) (hl : l < b.length) : ∀ x y, x < N → y < N → PmT a b i j k (l + 1) x y = if x = i * b.length + k ∧ y = j * b.length + l then entA a i j * entA b k l else PmT a b i j k l x y := by
  intro x y _ _
  unfold PmT
  by_cases e : x = i * b.length + k ∧ y = j * b.length + l
  · rw [if_pos e]
    obtain ⟨e1, e2⟩ := (div_mod_at hk).1 e.1
    obtain ⟨e3, e4⟩ := (div_mod_at hl).1 e.2
    rw [if_pos (by omega)]
    unfold pairF
    rw [e1, e2, e3, e4]
  · rw [if_neg e]
    rw [div_mod_at hk, div_mod_at hl] at e
    generalize x / b.length = X at *
    generalize y / b.length = Y at *
    generalize x % b.length = X2 at *
    generalize y % b.length = Y2 at *
    by_cases h : X < i ∨ (X = i ∧ (Y < j ∨ (Y = j ∧ (X2 < k ∨ (X2 = k ∧ Y2 < l)))))
    · rw [if_pos h, if_pos (by omega)]
    · rw [if_neg h, if_neg (by omega)]
theorem pm_row (i j k N : Nat) (hb : 0 < b.length) : mkT N (PmT a b i j k b.length) = mkT N (PmT a b i j (k + 1) 0) := by
  refine mkT_congr fun x y hx hy => ?_
  have h2 := Nat.mod_lt y hb
  unfold PmT
  generalize x / b.length = X at *
  generalize y / b.length = Y at *
  generalize x % b.length = X2 at *
  generalize y % b.length = Y2 at *
  split
  · rename_i h; rw [if_pos (by omega)]
  · rename_i h; rw [if_neg (by omega)]
theorem pm_col (i j N : Nat) (hb : 0 < b.length) : mkT N (PmT a b i j b.length 0) = mkT N (PmT a b i (j + 1) 0 0) := by
  refine mkT_congr fun x y hx hy => ?_
  have h2 := Nat.mod_lt x hb
  unfold PmT
  generalize x / b.length = X at *
  generalize y / b.length = Y at *
  generalize x % b.length = X2 at *
  generalize y % b.length = Y2 at *
  split
  · rename_i h; rw [if_pos (by omega)]
  · rename_i h; rw [if_neg (by omega)]
theorem pm_line (i : Nat) (hb : 0 < b.length) : mkT (a.length * b.length) (PmT a b i a.length 0 0) = mkT (a.length * b.length) (PmT a b (i + 1) 0 0 0) := by
  refine mkT_congr fun x y hx hy => ?_
  have h2 : y / b.length < a.length := (Nat.div_lt_iff_lt_mul hb).2 hy
  unfold PmT
  generalize x / b.length = X at *
  generalize y / b.length = Y at *
  generalize x % b.length = X2 at *
  generalize y % b.length = Y2 at *
  split
  · rename_i h; rw [if_pos (by omega)]
  · rename_i h; rw [if_neg (by omega)]
theorem pm_end (hb : 0 < b.length) : mkT (a.length * b.length) (PmT a b a.length 0 0 0) = mkT (a.length * b.length) (pairF a b) := by
  refine mkT_congr fun x y hx hy => ?_
  have h2 : x / b.length < a.length := (Nat.div_lt_iff_lt_mul hb).2 hx
  unfold PmT
  rw [if_pos (by omega)]
theorem pair_no9 (h : 9 < a.length * b.length) : pairOk a b = false := by
  unfold pairOk
  have e : isMat (mkT (a.length * b.length) (pairF a b)) = false := by
    cases hq : isMat (mkT (a.length * b.length) (pairF a b))
    · rfl
    · have := (isMat_mkT hq).2.1; omega
  rw [e]
  simp
theorem mul_lt_mul2 {i k n m : Nat} (hi : i < m) (hk : k < n) : i * n + k < m * n := by
  have h1 : i * n + n ≤ m * n := by
    rw [← Nat.succ_mul]
    exact Nat.mul_le_mul_right n hi
  omega
theorem prod_wrap {x y : Int} (hx : 0 ≤ x ∧ x ≤ 1000000) (hy : 0 ≤ y ∧ y ≤ 1000000) : wrap64 (x * y) = x * y := by
  have h1 := Int.mul_nonneg hx.1 hy.1
  have h2 : x * y ≤ 1000000 * 1000000 := Int.mul_le_mul hx.2 hy.2 hy.1 (by omega)
  exact wrap_id (by omega)
end
end Go.Proofs.YtdmpokanfnlbgaaGreatDoor

namespace Go.Proofs.YtdmpokanfnlbgaaGreatDoor
open Go.RowKit
set_option linter.all false
theorem Sm_split (n : Nat) : ∀ (k : Nat) (f : Nat → Int), Sm (n + k) f = Sm n f + Sm k (fun j => f (n + j))
  | 0, f => by show Sm n f = Sm n f + 0; omega
  | k + 1, f => by
    show Sm (n + k) f + f (n + k) = _ + (Sm k (fun j => f (n + j)) + f (n + k))
    rw [Sm_split n k f]
    omega
theorem join_TT {na nb : Nat} {A B J : Nat → Nat → Int} (hJ : ∀ x y, x < na + nb → y < na + nb → J x y = if x < na then (if y < na then A x y else 0) else if y < na then 0 else B (x - na) (y - na)) {x : Nat} (hx : x < na + nb) :
    ∀ (k y : Nat), y < na + nb → TT (na + nb) x J k y = if x < na then (if y < na then TT na x A k y else 0) else if y < na then 0 else TT nb (x - na) B k (y - na)
  | 0, y, hy => by
    show (if y = x then (1 : Int) else 0) = _
    by_cases h1 : x < na
    · rw [if_pos h1]
      by_cases h2 : y < na
      · rw [if_pos h2]; rfl
      · rw [if_neg h2, if_neg (by omega)]
    · rw [if_neg h1]
      by_cases h2 : y < na
      · rw [if_pos h2, if_neg (by omega)]
      · rw [if_neg h2]
        show _ = if y - na = x - na then (1 : Int) else 0
        by_cases h3 : y = x
        · rw [if_pos h3, if_pos (by omega)]
        · rw [if_neg h3, if_neg (by omega)]
  | k + 1, y, hy => by
    have ih := join_TT hJ hx k
    show Sm (na + nb) (fun j => TT (na + nb) x J k j * J j y) = _
    rw [Sm_split]
    by_cases h1 : x < na
    · rw [if_pos h1]
      have z2 : Sm nb (fun j => TT (na + nb) x J k (na + j) * J (na + j) y) = 0 := by
        rw [← Sm_zero nb]
        refine Sm_congr _ _ _ fun j hj => ?_
        rw [ih (na + j) (by omega), if_pos h1, if_neg (by omega), Int.zero_mul]
      rw [z2, Int.add_zero]
      by_cases h2 : y < na
      · rw [if_pos h2]
        refine Sm_congr _ _ _ fun j hj => ?_
        rw [ih j (by omega), if_pos h1, if_pos hj, hJ j y (by omega) hy, if_pos hj, if_pos h2]
      · rw [if_neg h2, ← Sm_zero na]
        refine Sm_congr _ _ _ fun j hj => ?_
        rw [hJ j y (by omega) hy, if_pos hj, if_neg h2, Int.mul_zero]
    · rw [if_neg h1]
      have z1 : Sm na (fun j => TT (na + nb) x J k j * J j y) = 0 := by
        rw [← Sm_zero na]
        refine Sm_congr _ _ _ fun j hj => ?_
        rw [ih j (by omega), if_neg h1, if_pos hj, Int.zero_mul]
      rw [z1, Int.zero_add]
      by_cases h2 : y < na
      · rw [if_pos h2, ← Sm_zero nb]
        refine Sm_congr _ _ _ fun j hj => ?_
        rw [hJ (na + j) y (by omega) hy, if_neg (by omega), if_pos h2, Int.mul_zero]
      · rw [if_neg h2]
        refine Sm_congr _ _ _ fun j hj => ?_
        rw [ih (na + j) (by omega), if_neg h1, if_neg (by omega), hJ (na + j) y (by omega) hy, if_neg (by omega), if_neg h2, Nat.add_sub_cancel_left]
theorem join_tr {na nb : Nat} {A B J : Nat → Nat → Int} (hJ : ∀ x y, x < na + nb → y < na + nb → J x y = if x < na then (if y < na then A x y else 0) else if y < na then 0 else B (x - na) (y - na)) (k : Nat) : tr (na + nb) J k = tr na A k + tr nb B k := by
  unfold tr
  rw [Sm_split]
  congr 1
  · refine Sm_congr _ _ _ fun i hi => ?_
    rw [join_TT hJ (by omega) k i (by omega), if_pos hi, if_pos hi]
  · refine Sm_congr _ _ _ fun i hi => ?_
    rw [join_TT hJ (by omega) k (na + i) (by omega), if_neg (by omega), if_neg (by omega), Nat.add_sub_cancel_left]
theorem closed_tr {m : List (List Int)} {k : Nat} (h : 0 ≤ closed m k) : closed m k = tr m.length (entA m) k ∧ 0 ≤ closed m k ∧ closed m k ≤ 9000000 ∧ 1 ≤ k := by
  have h1 : 1 ≤ k := by
    by_cases h0 : 1 ≤ k
    · exact h0
    · rw [closed_n (inR_no (.inl (by omega)))] at h; omega
  have := closed_down h h1 (Nat.le_refl _)
  exact ⟨this.1, this.2.1, this.2.2, h1⟩
theorem join_closed {a b : List (List Int)} (h : joinOk a b = true) {k : Nat} (ha : 0 ≤ closed a k) (hb : 0 ≤ closed b k) (hj : 0 ≤ closed (joinV a b) k) : closed (joinV a b) k = wrap64 (closed a k + closed b k) := by
  have ca := closed_tr ha
  have cb := closed_tr hb
  have cj := closed_tr hj
  have hv : joinV a b = mkT (a.length + b.length) (joinF a b) := by unfold joinV; rw [if_pos h]
  rw [wrap_id (by omega), ca.1, cb.1, cj.1, hv, mkT_len]
  exact join_tr (fun x y hx hy => by rw [mkT_ent hx hy]; rfl) k
theorem Sm_grid (n : Nat) (f g : Nat → Int) : ∀ m : Nat, Sm (m * n) (fun z => f (z / n) * g (z % n)) = Sm m f * Sm n g
  | 0 => by rw [Nat.zero_mul]; show (0 : Int) = 0 * _; rw [Int.zero_mul]
  | m + 1 => by
    rw [Nat.succ_mul, Sm_split, Sm_grid n f g m]
    show _ = (Sm m f + f m) * Sm n g
    rw [Int.add_mul]
    congr 1
    rw [← Sm_mul]
    refine Sm_congr _ _ _ fun j hj => ?_
    obtain ⟨e1, e2⟩ := (div_mod_at (n := n) (i := m) (k := j) (x := m * n + j) hj).1 rfl
    rw [e1, e2]
theorem pair_TT {na nb : Nat} (hb : 0 < nb) {A B P : Nat → Nat → Int} (hP : ∀ x y, x < na * nb → y < na * nb → P x y = A (x / nb) (y / nb) * B (x % nb) (y % nb)) {x : Nat} :
    ∀ (k y : Nat), y < na * nb → TT (na * nb) x P k y = TT na (x / nb) A k (y / nb) * TT nb (x % nb) B k (y % nb)
  | 0, y, hy => by
    show (if y = x then (1 : Int) else 0) = (if y / nb = x / nb then 1 else 0) * (if y % nb = x % nb then 1 else 0)
    by_cases h : y = x
    · rw [if_pos h, h, if_pos rfl, if_pos rfl]; rfl
    · rw [if_neg h]
      by_cases h1 : y / nb = x / nb
      · rw [if_neg (show ¬ y % nb = x % nb from fun h2 => h (by rw [← Nat.div_add_mod y nb, ← Nat.div_add_mod x nb, h1, h2])), Int.mul_zero]
      · rw [if_neg h1, Int.zero_mul]
  | k + 1, y, hy => by
    show Sm (na * nb) (fun z => TT (na * nb) x P k z * P z y) = Sm na (fun j => TT na (x / nb) A k j * A j (y / nb)) * Sm nb (fun j => TT nb (x % nb) B k j * B j (y % nb))
    rw [← Sm_grid]
    refine Sm_congr _ _ _ fun z hz => ?_
    rw [pair_TT hb hP k z hz, hP z y hz hy]
    grind
theorem pair_tr {na nb : Nat} (hb : 0 < nb) {A B P : Nat → Nat → Int} (hP : ∀ x y, x < na * nb → y < na * nb → P x y = A (x / nb) (y / nb) * B (x % nb) (y % nb)) (k : Nat) : tr (na * nb) P k = tr na A k * tr nb B k := by
  unfold tr
  rw [← Sm_grid]
  exact Sm_congr _ _ _ fun i hi => pair_TT hb hP k i hi
theorem pair_closed {a b : List (List Int)} (h : pairOk a b = true) {k : Nat} (ha : 0 ≤ closed a k) (hb : 0 ≤ closed b k) (hp : 0 ≤ closed (pairV a b) k) : closed (pairV a b) k = wrap64 (closed a k * closed b k) := by
  have ca := closed_tr ha
  have cb := closed_tr hb
  have cp := closed_tr hp
  have hv : pairV a b = mkT (a.length * b.length) (pairF a b) := by unfold pairV; rw [if_pos h]
  have hmb : isMat b = true := by
    unfold pairOk at h
    rw [Bool.and_eq_true, Bool.and_eq_true] at h
    exact h.2.1
  have e : closed (pairV a b) k = closed a k * closed b k := by
    rw [ca.1, cb.1, cp.1, hv, mkT_len]
    exact pair_tr (by have := (isMat_len hmb).1; omega) (fun x y hx hy => by rw [mkT_ent hx hy]; rfl) k
  rw [← e]
  exact (wrap_id (by omega)).symm
end Go.Proofs.YtdmpokanfnlbgaaGreatDoor

namespace Go.Proofs.YtdmpokanfnlbgaaGreatDoor
open Go.RowKit
set_option linter.all false
set_option maxRecDepth 20000 in
set_option maxHeartbeats 3200000 in
theorem iArcs5_any (p : Option Addr) (n c : Nat) (m : List (List Int)) (w : World) (h : Intss w p n m) (hmat : isMat m = true) (h60 : (arcsL m).length ≤ 60) :
    Calls Tryz.prog 60 #[.slice p n c] w fun e w' => ∃ v, e = .returned v ∧ OIntss w' w.heap.size v (arcsL m).length (arcsL m) ∧ Below w.heap.size w w' := by
  have HL : Hid (m.length = n) := h.1
  have H := Lib.hid h
  have HM := Lib.hid hmat
  have H60 := Lib.hid h60
  have HRL := Lib.hid (isMat_rowsLen hmat h.1)
  have hn9 : n ≤ 9 := by have := isMat_len hmat; have := HL.out; omega
  clear h hmat h60
  go_enter Tryz.func60, Tryz.ntmps60
  go_wp2_with fail
  go_loopw [3, 11] (fun v x wr => ∃ (i : Nat) (acc : List (List Int)), i ≤ n ∧ x = .int .i64 i ∧ OIntss wr w.heap.size v acc.length acc ∧ Hid (acc ++ arcsI i (m.drop i) = arcsL m) ∧ Below w.heap.size w wr) (fun _ x _ => n - (intOf x).toNat)
  case atStart => exact ⟨0, [], Nat.zero_le _, rfl, OIntss.empty w _ (Nat.le_refl _), rfl, (Below.refl _ _).alloc (Nat.le_refl _) _⟩
  case round =>
    obtain ⟨i, acc, hi, rfl, hown, heq, hbl⟩ := hrel
    by_cases hlt : i < n
    · obtain ⟨b1, o1, a1, c1, r, rfl, hca, hrow, hget⟩ := H.out.at_ hlt
      have HR := Lib.hid hget.out
      have HRn : Hid (r.length = n) := HRL.out _ _ hget.out
      rw [HRn.out] at hca hrow
      have Hrow := Lib.hid hrow
      have q1 := (hbl.cell (World.block_lt_of_cell? w _ hca)).trans hca
      have Hown := Lib.hid hown
      have Hbl := Lib.hid hbl
      have HEQ := Lib.hid (arcsI_step HR.out heq.out)
      clear hown hbl heq hca hrow hget
      go_wp2_with fail
      clear q1
      go_loopw [3, 18] (fun v x wr => ∃ (j : Nat) (acc : List (List Int)), j ≤ n ∧ x = .int .i64 j ∧ OIntss wr w.heap.size v acc.length acc ∧ Hid (acc ++ (arcsJ i j (r.drop j) ++ arcsI (i + 1) (m.drop (i + 1))) = arcsL m) ∧ Below w.heap.size w wr) (fun _ x _ => n - (intOf x).toNat)
      case atStart => exact ⟨0, _, Nat.zero_le _, rfl, Hown.out, HEQ, Hbl.out⟩
      case round =>
        obtain ⟨j, acc, hj, rfl, hown, heq, hbl⟩ := hrel
        clear Hown HEQ Hbl
        by_cases hjl : j < n
        · obtain ⟨b2, o2, x, rfl, hcx, hgx⟩ := Hrow.out.at_ (k := j) hjl
          have hxr := arcs_low HM.out HR.out hgx.out
          have HC := Lib.hid (arcsJ_step hgx.out heq.out)
          have q2 := (hbl.cell (World.block_lt_of_cell? w _ hcx)).trans hcx
          obtain ⟨cx, rfl⟩ : ∃ cx : Nat, x = cx := ⟨x.toNat, by omega⟩
          rw [Int.toNat_natCast] at HC
          have Hown := Lib.hid hown
          have Hbl := Lib.hid hbl
          clear hown hbl heq hcx hgx
          go_wp2_with fail
          clear q2
          go_loopw [3, 24] (fun v x wr => ∃ (k : Nat) (acc : List (List Int)), k ≤ cx ∧ x = .int .i64 k ∧ OIntss wr w.heap.size v acc.length acc ∧ Hid (acc ++ (List.replicate (cx - k) [(i : Int), (j : Int)] ++ (arcsJ i (j + 1) (r.drop (j + 1)) ++ arcsI (i + 1) (m.drop (i + 1)))) = arcsL m) ∧ Below w.heap.size w wr) (fun _ x _ => cx - (intOf x).toNat)
          case atStart => exact ⟨0, _, Nat.zero_le _, rfl, Hown.out, HC, Hbl.out⟩
          case round =>
            obtain ⟨k, acc, hk, rfl, hown, heq, hbl⟩ := hrel
            clear Hown HC Hbl
            by_cases hkc : k < cx
            · have HQ := Lib.hid (rep_step hkc heq.out)
              have hl := toCome_le HQ.out
              have hl2 : acc.length + 1 ≤ 60 := by have := H60.out; simp at hl; omega
              have Hown := Lib.hid hown
              have Hbl := Lib.hid hbl
              have HO := Lib.hid (OInts.lit2 wr wr.heap.size (i : Int) (j : Int) (Nat.le_refl _))
              have HB := Lib.hid (belowA wr (.cells #[.int .i64 (i : Int), .int .i64 (j : Int)] 3))
              clear hown hbl heq hl
              go_wp2_with (first | (at_builtin; refine wpList_push_fresh _ _ wr rfl (.tmp 26) (.tmp 30) rfl w.heap.size _ acc.length acc rfl Hown.out (by omega) Hbl.out.size HB.out _ _ HO.out _ ?_ rfl ?_; (simp); intro v4 w4 ho4 hb4 _; have Ho4 := Lib.hid ho4; have Hb4 := Lib.hid hb4; clear ho4 hb4))
              go_roundw
              case rel =>
                have h9 := Ho4.out
                rw [show acc.length + 1 = (acc ++ [[(i : Int), (j : Int)]]).length by simp] at h9
                first | exact ⟨k + 1, _, hkc, by go_num, h9, HQ, Hbl.out.trans Hb4.out⟩ | ((repeat apply Exists.intro); exact ⟨⟨k + 1, _, hkc, by go_num, h9, HQ, Hbl.out.trans Hb4.out⟩, rfl⟩)
              case measure => simp [intOf]; omega
            · have HQ := Lib.hid (rep_end (by omega) heq.out)
              have Hown := Lib.hid hown
              have Hbl := Lib.hid hbl
              clear hown hbl heq
              go_wp2_with fail
              go_roundw
              case rel => exact ⟨j + 1, acc, hjl, by go_num, Hown.out, HQ, Hbl.out⟩
              case measure => simp [intOf]; omega
        · have HQ := Lib.hid (arcsJ_end (by have := HRn.out; omega) heq.out)
          have Hown := Lib.hid hown
          have Hbl := Lib.hid hbl
          clear hown hbl heq
          go_wp2_with fail
          go_roundw
          case rel => exact ⟨i + 1, acc, hlt, by go_num, Hown.out, HQ, Hbl.out⟩
          case measure => simp [intOf]; omega
    · have HQ := Lib.hid (arcsI_end (by have := HL.out; omega) heq.out)
      have Hown := Lib.hid hown
      have Hbl := Lib.hid hbl
      clear hown hbl heq
      go_wp2_with fail
      go_ret
      have h9 := Hown.out
      rw [HQ.out] at h9
      exact ⟨_, rfl, h9, Hbl.out⟩
end Go.Proofs.YtdmpokanfnlbgaaGreatDoor

namespace Go.Proofs.YtdmpokanfnlbgaaGreatDoor
open Go.RowKit
set_option linter.all false
set_option maxHeartbeats 800000 in
theorem iSumOf_any (ao : Option Addr) (n cap : Nat) (xss : List (List Int)) (w : World) (h : Intss w ao n xss) :
    Calls Tryz.prog 85 #[.slice ao n cap] w fun e w' => e = .returned (.int .i64 (sumOf xss)) ∧ w = w' := by
  have hm := h.2.1
  have HL := Lib.hid h.1
  have H := Lib.hid h
  clear h
  cases hmat : isMat xss
  · have hg : Hid (sumOf xss = -1) := by show sumOf xss = _; simp [sumOf, hmat]
    go_enter Tryz.func85, Tryz.ntmps85
    go_wp2_with (first | (go_at_call 39; refine (iIsMatrix_any _ _ _ xss _ H.out).mono ?_; rintro e w' ⟨rfl, rfl⟩))
    go_ret
    exact ⟨ret_int hg.out.symm, rfl⟩
  · have hg : Hid (sumOf xss = msum xss) := by show sumOf xss = _; simp [sumOf, hmat]
    have HM := Lib.hid hmat
    have hms := isMat_msum hmat
    go_enter Tryz.func85, Tryz.ntmps85
    go_wp2_with (first | (go_at_call 39; refine (iIsMatrix_any _ _ _ xss _ H.out).mono ?_; rintro e w' ⟨rfl, rfl⟩))
    go_loop [3, 11] (fun s i => ∃ (k : Nat) (t : Int), k ≤ n ∧ i = .int .i64 k ∧ s = .int .i64 t ∧ 0 ≤ t ∧ Hid (t + msum (xss.drop k) = msum xss)) (fun _ i => n - (intOf i).toNat)
    case atStart => exact ⟨0, 0, Nat.zero_le _, rfl, rfl, by omega, Int.zero_add _⟩
    case round =>
      obtain ⟨k, t, hk, rfl, rfl, ht, hr⟩ := hrel
      by_cases hlt : k < n
      · obtain ⟨b, o, ai, ci, r, rfl, hcell, hrow, hget⟩ := H.out.at_ hlt
        have Hrow := Lib.hid hrow
        clear hrow H
        have h1 := row_sum HM.out hget.out
        have h2 := rest_nonneg HM.out (k + 1)
        have hd := hr.out
        rw [drop_of_get hget.out, msum_cons] at hd
        have h0 : 0 ≤ isum 0 r := by omega
        have h3 : t + isum 0 r ≤ 81000000 := by omega
        have hr1 : Hid (t + isum 0 r + msum (xss.drop (k + 1)) = msum xss) := by show t + isum 0 r + msum (xss.drop (k + 1)) = msum xss; omega
        clear hr hd h1 h2
        go_wp2_with (first | (go_at_call 103; refine (total_any _ _ _ r _ Hrow.out).mono ?_; rintro e w' ⟨rfl, rfl⟩))
        go_round
        case rel => exact ⟨k + 1, _, hlt, by go_num, rfl, by omega, hr1⟩
        case measure => simp [intOf]; omega
      · go_wp2
        go_ret
        rw [drop_all xss k (by have := HL.out; omega)] at hr
        exact ⟨ret_int (by rw [hg.out, ← hr.out]; simp [msum]), rfl⟩
end Go.Proofs.YtdmpokanfnlbgaaGreatDoor

namespace Go.Proofs.YtdmpokanfnlbgaaGreatDoor
open Go.RowKit
set_option linter.all false
set_option maxHeartbeats 800000 in
theorem iIsGraph_any (ao : Option Addr) (n cap : Nat) (xss : List (List Int)) (w : World) (h : Intss w ao n xss) :
    Calls Tryz.prog 59 #[.slice ao n cap] w fun e w' => e = .returned (.bool (isGraph xss)) ∧ w = w' := by
  have H := Lib.hid h
  clear h
  cases hmat : isMat xss
  · have hg : Hid (isGraph xss = false) := by show isGraph xss = _; simp [isGraph, hmat]
    go_enter Tryz.func59, Tryz.ntmps59
    go_wp2_with (first | (go_at_call 39; refine (iIsMatrix_any _ _ _ xss _ H.out).mono ?_; rintro e w' ⟨rfl, rfl⟩))
    go_ret
    exact ⟨ret_bool hg.out.symm, rfl⟩
  · have hg : Hid (isGraph xss = decide (sumOf xss ≤ 60)) := by show isGraph xss = _; simp [isGraph, hmat]
    go_enter Tryz.func59, Tryz.ntmps59
    go_wp2_with (first | (go_at_call 39; refine (iIsMatrix_any _ _ _ xss _ H.out).mono ?_; rintro e w' ⟨rfl, rfl⟩) | (go_at_call 85; refine (iSumOf_any _ _ _ xss _ H.out).mono ?_; rintro e w' ⟨rfl, rfl⟩))
    go_ret
    exact ⟨ret_bool hg.out.symm, rfl⟩
end Go.Proofs.YtdmpokanfnlbgaaGreatDoor

namespace Go.Proofs.YtdmpokanfnlbgaaGreatDoor
open Go.RowKit
set_option linter.all false
set_option maxHeartbeats 800000 in
theorem iArcsOf_any (p : Option Addr) (n c : Nat) (m : List (List Int)) (w : World) (h : Intss w p n m) :
    Calls Tryz.prog 30 #[.slice p n c] w fun e w' => ∃ v, e = .returned v ∧ OIntss w' w.heap.size v (arcsV m).length (arcsV m) ∧ Below w.heap.size w w' := by
  have H := Lib.hid h
  clear h
  cases hg : isGraph m
  · have hv : Hid (arcsV m = []) := by show _ = _; simp [arcsV, hg]
    go_enter Tryz.func30, Tryz.ntmps30
    go_wp2_with (go_at_call 59; refine (iIsGraph_any _ _ _ m _ H.out).mono ?_; rw [hg]; rintro e w' ⟨rfl, rfl⟩)
    go_ret
    rw [hv.out]
    exact ⟨_, rfl, OIntss.none_ _ _, Below.refl _ _⟩
  · have hv : Hid (arcsV m = arcsL m) := by show _ = _; simp [arcsV, hg]
    have HA := Lib.hid (graph_arcs hg)
    have HG := Lib.hid hg
    clear hg
    go_enter Tryz.func30, Tryz.ntmps30
    go_wp2_with fail
    refine (iIsGraph_any _ _ _ m _ H.out).mono ?_
    rw [HG.out]
    rintro e w' ⟨rfl, rfl⟩
    go_wp2_with fail
    refine (iArcs5_any _ _ _ m _ H.out HA.out.1 (by have := HA.out; omega)).mono ?_
    rintro e w1 ⟨v1, rfl, ho1, hb1⟩
    have Ho1 := Lib.hid ho1
    have Hb1 := Lib.hid hb1
    clear ho1 hb1
    go_wp2_with fail
    go_ret
    rw [hv.out]
    exact ⟨_, rfl, Ho1.out, Hb1.out⟩
end Go.Proofs.YtdmpokanfnlbgaaGreatDoor

namespace Go.Proofs.YtdmpokanfnlbgaaGreatDoor
open Go.RowKit
set_option linter.all false
theorem blk_val {m : List (List Int)} {i j : Nat} {p q : Int} (hi : entA (arcsV m) i 1 = p) (hj : entA (arcsV m) j 0 = q) : (p = q → blkF m i j = 1) ∧ (p ≠ q → blkF m i j = 0) := by
  unfold blkF
  rw [hi, hj]
  exact ⟨fun e => if_pos e, fun e => if_neg e⟩
set_option maxRecDepth 20000 in
set_option maxHeartbeats 6400000 in
theorem iBlockG_any (p : Option Addr) (n c : Nat) (m : List (List Int)) (w : World) (h : Intss w p n m) :
    Calls Tryz.prog 6 #[.slice p n c] w fun e w' => ∃ v, e = .returned (.tuple #[v, .bool (blkOk m)]) ∧ OIntss w' w.heap.size v (blkV m).length (blkV m) ∧ Below w.heap.size w w' := by
  have H := Lib.hid h
  clear h
  obtain ⟨A, hA⟩ : ∃ A, arcsV m = A := ⟨_, rfl⟩
  have HT : Hid (∀ (i : Nat) (a : List Int), A[i]? = some a → ∃ p q : Nat, a = [(p : Int), (q : Int)] ∧ entA A i 0 = p ∧ entA A i 1 = q) := fun i a h => by rw [← hA] at h ⊢; exact arcs_two h
  have HAE := Lib.hid hA
  go_enter Tryz.func6, Tryz.ntmps6
  go_wp2_with fail
  refine (iArcsOf_any _ _ _ m _ H.out).mono ?_
  rw [hA]
  clear hA
  rintro e w1 ⟨va, rfl, hoa, hb1⟩
  obtain ⟨aa, ca, rfl, hra⟩ := hoa.form
  have HA1 := Lib.hid hra
  have HB1 := Lib.hid hb1
  clear hoa hra hb1
  by_cases h0 : A.length = 0
  · have hk : Hid (blkOk m = false) := by show _ = _; unfold blkOk; rw [HAE.out]; exact inR_no (.inl (by omega))
    have hv : Hid (blkV m = []) := by show _ = _; unfold blkV; rw [hk.out]; rfl
    have hd : ((A.length : Int) == 0) = true := beq_iff_eq.2 (by omega)
    clear h0
    go_wp2_with fail
    go_ret2
    rw [hk.out, hv.out]
    exact ⟨_, rfl, OIntss.none_ _ _, HB1.out⟩
  have hd0 : ((A.length : Int) == 0) = false := beq_eq_false_iff_ne.2 (by omega)
  by_cases h9 : 9 < A.length
  · have hk : Hid (blkOk m = false) := by show _ = _; unfold blkOk; rw [HAE.out]; exact inR_no (.inr (by omega))
    have hv : Hid (blkV m = []) := by show _ = _; unfold blkV; rw [hk.out]; rfl
    have hd : decide ((9 : Int) < (A.length : Int)) = true := decide_eq_true (by omega)
    clear h0
    go_wp2_with fail
    go_ret2
    rw [hk.out, hv.out]
    exact ⟨_, rfl, OIntss.none_ _ _, HB1.out⟩
  have hd9 : decide ((9 : Int) < (A.length : Int)) = false := decide_eq_false (by omega)
  have hk : Hid (blkOk m = true) := by show _ = _; unfold blkOk; rw [HAE.out]; exact inR_mk ⟨by omega, by omega⟩
  have hv : Hid (blkV m = mkT A.length (blkF m)) := by show _ = _; unfold blkV; rw [hk.out, HAE.out]; rfl
  have hn9 : A.length ≤ 9 := by omega
  have hn1 : 1 ≤ A.length := by omega
  clear h0 h9
  go_wp2_with fail
  refine (iZeros_any A.length _ (by omega)).mono ?_
  rintro e w2 ⟨v, rfl, hown, hbl⟩
  obtain ⟨g, cap, rfl⟩ := hown.head (by omega)
  rw [mix_start _ (blkF m)] at hown
  have Hown := Lib.hid hown
  have Hbl := Lib.hid hbl
  clear hown hbl hd0 hd9
  go_wp2_with fail
  go_loopw [25] (fun x wr => ∃ i : Nat, i ≤ A.length ∧ x = .int .i64 i ∧ OIntss wr w1.heap.size (.slice (some ⟨g, 0, none⟩) A.length cap) A.length (mkT A.length (mixT (blkF m) i 0)) ∧ Below w1.heap.size w1 wr) (fun x _ => A.length - (intOf x).toNat)
  case atStart => exact ⟨0, Nat.zero_le _, rfl, Hown.out, Hbl.out⟩
  case round =>
    obtain ⟨i, hi, rfl, hown, hbl⟩ := hrel
    clear Hown Hbl
    by_cases hlt : i < A.length
    · obtain ⟨b1, o1, a1, c1, r1, rfl, q1, hr1, hg1⟩ := HA1.out.at_ hlt
      obtain ⟨p1, y1, rfl, _, ey⟩ := HT.out i r1 hg1.out
      change _ = some (Value.slice a1 2 c1) at q1
      obtain ⟨b3, o3, x3, rfl, q3, g3⟩ := hr1.at_ (k := 1) (by simp)
      have e3 : (y1 : Int) = x3 := by have := g3.out; injection this
      subst e3
      have q1r := (hbl.cell (World.block_lt_of_cell? w1 _ q1)).trans q1
      have HQ3 := Lib.hid q3
      have HEY := Lib.hid ey
      have Hown := Lib.hid hown
      have Hbl := Lib.hid hbl
      clear hown hbl hr1 hg1 g3 ey q1 q3
      go_wp2_with fail
      clear q1r
      go_loopw [32] (fun x wr => ∃ j : Nat, j ≤ A.length ∧ x = .int .i64 j ∧ OIntss wr w1.heap.size (.slice (some ⟨g, 0, none⟩) A.length cap) A.length (mkT A.length (mixT (blkF m) i j)) ∧ Below w1.heap.size w1 wr) (fun x _ => A.length - (intOf x).toNat)
      case atStart => exact ⟨0, Nat.zero_le _, rfl, Hown.out, Hbl.out⟩
      case round =>
        clear Hown Hbl
        obtain ⟨j, hj, rfl, hown, hbl⟩ := hrel
        by_cases hjn : j < A.length
        · obtain ⟨b2, o2, a2, c2, r2, e2, q2, hr2, hg2⟩ := (HA1.out.keep hbl).at_ hjn
          cases e2
          obtain ⟨p2, y2, rfl, ep, _⟩ := HT.out j r2 hg2.out
          change _ = some (Value.slice a2 2 c2) at q2
          obtain ⟨b4, o4, x4, rfl, q4, g4⟩ := hr2.at_ (k := 0) (by simp)
          have e4 : (p2 : Int) = x4 := by have := g4.out; injection this
          subst e4
          simp only [Nat.add_zero] at q4
          have q3 := (hbl.cell (World.block_lt_of_cell? w1 _ HQ3.out)).trans HQ3.out
          have hval := blk_val (m := m) (i := i) (j := j) (p := (y1 : Int)) (q := (p2 : Int)) (by rw [HAE.out]; exact HEY.out) (by rw [HAE.out]; exact ep)
          obtain ⟨gi, ci, h5, hlo, _, hcl, hst⟩ := hown.mkEnt hlt
          obtain ⟨u, h6⟩ := (hcl j hjn).1
          have h7 := (hcl j hjn).2
          by_cases hxy : (y1 : Int) = (p2 : Int)
          · have hb : ((y1 : Int) == (p2 : Int)) = true := beq_iff_eq.2 hxy
            have HS := Lib.hid (hst j 1 (mixT (blkF m) i (j + 1)) hjn (by rw [← hval.1 hxy]; exact mix_step))
            have Hb' := Lib.hid (hbl.setCell (p := ⟨gi, j, none⟩) hlo (.int .i64 1))
            clear hst hcl hown hbl hr2 hg2 g4 ep hval hxy
            go_wp2_with fail
            go_quiet (fail)
            go_wp2_with fail
            go_roundw
            case rel => exact ⟨j + 1, hjn, by go_num, by first | exact HS.out | exact HS.out.drewN _, by first | exact Hb'.out | exact below_drewN Hb'.out _⟩
            case measure => (simp [intOf] <;> omega)
          · have hb : ((y1 : Int) == (p2 : Int)) = false := beq_eq_false_iff_ne.2 hxy
            rw [mix_skip (hval.2 hxy)] at hown
            have HO2 := Lib.hid hown
            have HB2 := Lib.hid hbl
            clear hst hcl hown hbl hr2 hg2 g4 ep hval hxy
            go_wp2_with fail
            go_quiet (fail)
            go_wp2_with fail
            go_roundw
            case rel => exact ⟨j + 1, hjn, by go_num, by first | exact HO2.out | exact HO2.out.drewN _, by first | exact HB2.out | exact below_drewN HB2.out _⟩
            case measure => (simp [intOf] <;> omega)
        · have e : j = A.length := by omega
          subst e
          rw [mix_row] at hown
          have Hown := Lib.hid hown
          have Hbl := Lib.hid hbl
          clear hown hbl
          go_wp2_with fail
          go_roundw
          case rel => exact ⟨i + 1, hlt, by go_num, Hown.out, Hbl.out⟩
          case measure => (simp [intOf] <;> omega)
    · have e : i = A.length := by omega
      subst e
      rw [mix_fin] at hown
      have Hown := Lib.hid hown
      have Hbl := Lib.hid hbl
      clear hown hbl
      go_wp2_with fail
      go_ret2
      rw [hk.out, hv.out, mkT_len]
      exact ⟨_, rfl, Hown.out.mono HB1.out.size, step2 HB1.out Hbl.out⟩
end Go.Proofs.YtdmpokanfnlbgaaGreatDoor

namespace Go.Proofs.YtdmpokanfnlbgaaGreatDoor
open Go.RowKit
set_option linter.all false
set_option maxHeartbeats 1600000 in
theorem sMulM_any (pa : Option Addr) (na ca : Nat) (a : List (List Int)) (pb : Option Addr) (nb cb : Nat) (b : List (List Int)) (w : World) (ha : Intss w pa na a) (hb : Intss w pb nb b) :
    Calls Tryz.prog 70 #[.slice pa na ca, .slice pb nb cb] w fun e w' => ∃ v, e = .returned (.tuple #[v, .bool (mulM a b).isSome]) ∧ OIntss w' w.heap.size v ((mulM a b).getD []).length ((mulM a b).getD []) ∧ Below w.heap.size w w' := by
  have hma := ha.2.1
  have hmb := hb.2.1
  have HA := Lib.hid ha
  have HB := Lib.hid hb
  have HLA : Hid (a.length = na) := ha.1
  have HLB : Hid (b.length = nb) := hb.1
  clear ha hb
  have hempty := OIntss.empty w w.heap.size (Nat.le_refl _)
  have hbe : Below w.heap.size w (w.alloc (.cells #[] 49)) := (Below.refl _ _).alloc (Nat.le_refl _) _
  have Hempty := Lib.hid hempty
  have Hbe := Lib.hid hbe
  clear hempty hbe
  cases h1 : isMat a
  · have hg : Hid (mulM a b = none) := mulM_none1 h1
    go_enter Tryz.func70, Tryz.ntmps70
    go_wp2_with (first | (go_at_call 41; refine (sIsMatrix_any _ _ _ a _ HA.out).mono ?_; rintro e w' ⟨rfl, rfl⟩))
    go_ret2
    rw [hg.out]
    exact ⟨_, rfl, Hempty.out, Hbe.out⟩
  cases h2 : isMat b
  · have hg : Hid (mulM a b = none) := mulM_none2 h2
    go_enter Tryz.func70, Tryz.ntmps70
    go_wp2_with fail
    refine (sIsMatrix_any _ _ _ a _ HA.out).mono ?_
    rintro e w' ⟨rfl, rfl⟩
    go_wp2_with fail
    refine (sIsMatrix_any _ _ _ b _ HB.out).mono ?_
    rintro e w' ⟨rfl, rfl⟩
    go_wp2_with fail
    go_ret2
    rw [hg.out]
    exact ⟨_, rfl, Hempty.out, Hbe.out⟩
  by_cases hn : na = nb
  · subst hn
    have hne : ((na : Int) != (na : Int)) = false := by simp
    have hn9 : na ≤ 9 := by have := isMat_len h1; have := HLA.out; omega
    have HRA := Lib.hid (isMat_rowsLen h1 HLA.out)
    have HRB := Lib.hid (isMat_rowsLen h2 HLB.out)
    have hlab : Hid (a.length = b.length) := by show a.length = b.length; rw [HLA.out, HLB.out]
    have H12 : Hid (isMat a = true ∧ isMat b = true) := ⟨h1, h2⟩
    go_enter Tryz.func70, Tryz.ntmps70
    go_wp2_with fail
    refine (sIsMatrix_any _ _ _ a _ HA.out).mono ?_
    rintro e w' ⟨rfl, rfl⟩
    go_wp2_with fail
    refine (sIsMatrix_any _ _ _ b _ HB.out).mono ?_
    rintro e w' ⟨rfl, rfl⟩
    go_wp2_with fail
    clear h1 h2
    refine (sL4Times_any _ _ _ a _ _ _ b na _ HA.out HB.out HRA.out HRB.out (by omega) (by omega)).mono ?_
    rintro e w1 ⟨v, rfl, hown, hbl⟩
    obtain ⟨ao, cap, rfl, hi⟩ := hown.form
    have Hown := Lib.hid hown
    have Hbl := Lib.hid hbl
    have Hi := Lib.hid hi
    clear hown hbl hi
    cases h3 : isMat (mulT a b na)
    · have hg : Hid (mulM a b = none) := mulM_none4 (by rw [HLB.out]; exact h3)
      go_wp2_with fail
      refine (sIsMatrix_any _ _ _ (mulT a b na) _ Hi.out).mono ?_
      rintro e w' ⟨rfl, rfl⟩
      go_wp2_with fail
      go_ret2
      rw [hg.out]
      exact ⟨_, rfl, OIntss.empty w1 _ Hbl.out.size, Hbl.out.alloc Hbl.out.size _⟩
    · have hg : Hid (mulM a b = some (mulT a b na)) := by
        have := mulM_some H12.out.1 H12.out.2 hlab.out (by rw [HLB.out]; exact h3)
        rw [HLB.out] at this
        exact this
      go_wp2_with fail
      refine (sIsMatrix_any _ _ _ (mulT a b na) _ Hi.out).mono ?_
      rintro e w' ⟨rfl, rfl⟩
      go_wp2_with fail
      go_ret2
      rw [hg.out]
      refine ⟨_, rfl, ?_, Hbl.out⟩
      show OIntss w1 w.heap.size _ (mulT a b na).length (mulT a b na)
      rw [Hown.out.len]
      exact Hown.out
  · have hg : Hid (mulM a b = none) := mulM_none3 (by rw [HLA.out, HLB.out]; exact hn)
    have hne : ((na : Int) != (nb : Int)) = true := by simp; omega
    clear hn
    go_enter Tryz.func70, Tryz.ntmps70
    go_wp2_with fail
    refine (sIsMatrix_any _ _ _ a _ HA.out).mono ?_
    rintro e w' ⟨rfl, rfl⟩
    go_wp2_with fail
    refine (sIsMatrix_any _ _ _ b _ HB.out).mono ?_
    rintro e w' ⟨rfl, rfl⟩
    go_wp2_with fail
    go_ret2
    rw [hg.out]
    exact ⟨_, rfl, Hempty.out, Hbe.out⟩
end Go.Proofs.YtdmpokanfnlbgaaGreatDoor

namespace Go.Proofs.YtdmpokanfnlbgaaGreatDoor
open Go.RowKit
set_option linter.all false
set_option maxHeartbeats 1600000 in
theorem sPowM_any (pm : Option Addr) (nm cm : Nat) (m : List (List Int)) (n : Int) (w : World) (hm : Intss w pm nm m) :
    Calls Tryz.prog 45 #[.slice pm nm cm, .int .i64 n] w fun e w' => ∃ v, e = .returned (.tuple #[v, .bool (powM m n).isSome]) ∧ OIntss w' w.heap.size v ((powM m n).getD []).length ((powM m n).getD []) ∧ Below w.heap.size w w' := by
  have HM := Lib.hid hm
  have HLM : Hid (m.length = nm) := hm.1
  clear hm
  have Hempty := Lib.hid (OIntss.empty w w.heap.size (Nat.le_refl _))
  have Hbe : Hid (Below w.heap.size w (w.alloc (.cells #[] 49))) := (Below.refl _ _).alloc (Nat.le_refl _) _
  cases h1 : isMat m
  · have hg : Hid (powM m n = none) := powM_none1 h1
    go_enter Tryz.func45, Tryz.ntmps45
    go_wp2_with (first | (go_at_call 41; refine (sIsMatrix_any _ _ _ m _ HM.out).mono ?_; rintro e w' ⟨rfl, rfl⟩))
    go_ret2
    rw [hg.out]
    exact ⟨_, rfl, Hempty.out, Hbe.out⟩
  cases h2 : inR n 0 30
  · have hg : Hid (powM m n = none) := powM_none2 h2
    go_enter Tryz.func45, Tryz.ntmps45
    go_wp2_with (first | (go_at_call 41; refine (sIsMatrix_any _ _ _ m _ HM.out).mono ?_; rintro e w' ⟨rfl, rfl⟩) | (go_at_call 33; refine (l1In_any _ _ _ _).mono ?_; rintro e w' ⟨rfl, rfl⟩))
    go_ret2
    rw [hg.out]
    exact ⟨_, rfl, Hempty.out, Hbe.out⟩
  obtain ⟨q, rfl⟩ := Int.eq_ofNat_of_zero_le (inR_true h2).1
  have hq : q ≤ 30 := by have := (inR_true h2).2; omega
  have hg : Hid (powM m q = iterM m q (oneT nm)) := by have := powM_iter h1 h2; rw [HLM.out] at this; exact this
  have hn9 : nm ≤ 9 := by have := isMat_len h1; have := HLM.out; omega
  go_enter Tryz.func45, Tryz.ntmps45
  go_wp2_with (first | (go_at_call 41; refine (sIsMatrix_any _ _ _ m _ HM.out).mono ?_; rintro e w' ⟨rfl, rfl⟩) | (go_at_call 33; refine (l1In_any _ _ _ _).mono ?_; rintro e w' ⟨rfl, rfl⟩))
  clear h1 h2
  refine (sL4One_any nm _ (by omega)).mono ?_
  rintro e w1 ⟨v, rfl, hown, hbl⟩
  have Hown := Lib.hid hown
  have Hbl := Lib.hid hbl
  clear hown hbl
  go_wp2_with fail
  go_loopw [6, 7] (fun v i wr => ∃ (k : Nat) (acc : List (List Int)), k ≤ q ∧ i = .int .i64 k ∧ OIntss wr w.heap.size v nm acc ∧ Hid (iterM m (q - k) acc = iterM m q (oneT nm)) ∧ Below w.heap.size w wr) (fun _ i _ => q - (intOf i).toNat)
  case atStart => exact ⟨0, _, Nat.zero_le _, rfl, Hown.out, rfl, Hbl.out⟩
  case round =>
    obtain ⟨k, acc, hk, rfl, hown, hit, hbl⟩ := hrel
    obtain ⟨wo, rfl⟩ : ∃ wo : World, wo = wr := ⟨_, rfl⟩
    clear Hown Hbl
    by_cases hlt : k < q
    · have Hstep : Hid (q - k = (q - (k + 1)) + 1) := by show q - k = _; omega
      obtain ⟨ao, cap, rfl, hi⟩ := hown.form
      have Hi := Lib.hid hi
      have Hbl := Lib.hid hbl
      clear hi hbl hown
      go_wp2_with fail
      refine (sMulM_any _ _ _ acc _ _ _ m _ Hi.out (HM.out.keep (Hbl.out.mono (Nat.le_refl _)))).mono ?_
      rintro e w2 ⟨v2, rfl, hown2, hb2⟩
      cases hp : mulM acc m with
      | none =>
        have hr1 : Hid (powM m q = none) := by
          have h5 := hit.out
          rw [Hstep.out, iterM_none hp] at h5
          show powM m q = none
          rw [hg.out, h5]
        have Hb2 := Lib.hid (Hbl.out.trans (hb2.mono Hbl.out.size))
        clear hown2 hb2 hit
        go_wp2_with fail
        go_ret2
        rw [hr1.out]
        exact ⟨_, rfl, OIntss.empty w2 _ Hb2.out.size, Hb2.out.alloc Hb2.out.size _⟩
      | some p =>
        have hit' : Hid (iterM m (q - (k + 1)) p = iterM m q (oneT nm)) := by
          have h5 := hit.out
          rw [Hstep.out, iterM_some hp] at h5
          exact h5
        have hpl : p.length = nm := by have := (mulM_mat hp).2; rw [this, HLM.out]
        rw [hp] at hown2
        have hown3 : OIntss w2 w.heap.size v2 nm p := by
          have h6 : OIntss w2 wo.heap.size v2 p.length p := hown2
          rw [hpl] at h6
          exact h6.mono Hbl.out.size
        have Hown3 := Lib.hid hown3
        have Hb2 := Lib.hid (Hbl.out.trans (hb2.mono Hbl.out.size))
        clear hown2 hb2 hit hown3 hpl
        go_wp2_with fail
        go_roundw
        case rel => exact ⟨k + 1, p, hlt, by go_num, Hown3.out, hit', Hb2.out⟩
        case measure => simp [intOf]; omega
    · have hr1 : Hid (powM m q = some acc) := by
        have h5 := hit.out
        rw [show q - k = 0 from by omega] at h5
        show powM m q = some acc
        rw [hg.out, ← h5]
        rfl
      have Hown := Lib.hid hown
      have Hbl := Lib.hid hbl
      clear hown hbl hit
      go_wp2_with fail
      go_ret2
      rw [hr1.out]
      refine ⟨_, rfl, ?_, Hbl.out⟩
      show OIntss wo w.heap.size _ acc.length acc
      rw [Hown.out.len]
      exact Hown.out
end Go.Proofs.YtdmpokanfnlbgaaGreatDoor

namespace Go.Proofs.YtdmpokanfnlbgaaGreatDoor
open Go.RowKit
set_option linter.all false
set_option maxHeartbeats 3200000 in
theorem iTimes_any (pa : Option Addr) (na ca : Nat) (a : List (List Int)) (pb : Option Addr) (nb cb : Nat) (b : List (List Int)) (c : Nat) (w : World) (ha : Intss w pa na a) (hb : Intss w pb nb b)
    (hra : RowsLen a nb) (hrb : RowsLen b c) (hna : na ≤ 1048576) (hc : c ≤ 1048576) (hnb : 0 < nb) :
    Calls Tryz.prog 91 #[.slice pa na ca, .slice pb nb cb] w fun e w' => ∃ v, e = .returned v ∧ OIntss w' w.heap.size v na (mulT a b c) ∧ Below w.heap.size w w' := by
  have hmb := hb.2.1
  have HA := Lib.hid ha
  have HB := Lib.hid hb
  have HRA := Lib.hid hra
  have HRB := Lib.hid hrb
  have HLA : Hid (a.length = na) := ha.1
  have HLB : Hid (b.length = nb) := hb.1
  obtain ⟨b0, o0, a0, c0, r0, rfl, hc0, hrow0, hget0⟩ := hb.at_ hnb
  have hr0 : r0.length = c := hrb _ _ hget0.out
  rw [hr0, Nat.add_zero] at hc0
  have HC0 := Lib.hid hc0
  clear ha hb hra hrb hrow0 hget0 hr0 hc0
  have hmk := make_ints c (by omega)
  go_enter Tryz.func91, Tryz.ntmps91
  go_wp2_with fail
  go_loopw [5, 16] (fun v i wr => ∃ k : Nat, k ≤ na ∧ i = .int .i64 k ∧ OIntss wr w.heap.size v k ((mulT a b c).take k) ∧ Below w.heap.size w wr) (fun _ i _ => na - (intOf i).toNat)
  case atStart => exact ⟨0, Nat.zero_le _, rfl, OIntss.empty w _ (Nat.le_refl _), (Below.refl _ _).alloc (Nat.le_refl _) _⟩
  case round =>
    obtain ⟨i, hi, rfl, hown, hbl⟩ := hrel
    obtain ⟨wo, rfl⟩ : ∃ wo : World, wo = wr := ⟨_, rfl⟩
    by_cases hlt : i < na
    · obtain ⟨b1, o1, a1, c1, ra, rfl, hca, hrow, hgeta⟩ := HA.out.at_ hlt
      have Hrow := Lib.hid hrow
      have HRL : Hid (ra.length = nb) := HRA.out _ _ hgeta.out
      have hrl1 : ra.length ≤ nb := by have := HRL.out; omega
      have h1 := (hbl.cell (World.block_lt_of_cell? w _ hca)).trans hca
      have h0 := (hbl.cell (World.block_lt_of_cell? w _ HC0.out)).trans HC0.out
      have Hown := Lib.hid hown
      have Hbl := Lib.hid hbl
      clear hrow hca hown hbl
      go_wp2_with fail
      clear h1 h0
      have hmade := OInts.made wo c (by omega)
      rw [← wline_zero b ra] at hmade
      go_loopw [27] (fun i' wx => ∃ k : Nat, k ≤ ra.length ∧ i' = .int .i64 k ∧ OInts wx wo.heap.size (.slice (some ⟨wo.heap.size, 0, none⟩) c c) c (wline b ra c k) ∧ Below wo.heap.size wo wx) (fun i _ => ra.length - (intOf i).toNat)
      case atStart => exact ⟨0, Nat.zero_le _, rfl, hmade, (Below.refl _ _).alloc (Nat.le_refl _) _⟩
      case round =>
        obtain ⟨k, hk, rfl, hline, hbx⟩ := hrel
        clear hmade
        have hbw := Hbl.out.trans (hbx.mono Hbl.out.size)
        by_cases hkr : k < ra.length
        · obtain ⟨b2, o2, a2, c2, rb, e, hcb, hrowb, hgetb⟩ := HB.out.at_ (k := k) (by omega)
          injection e with e
          injection e with e1 e2
          subst e1
          subst e2
          have hrbl : rb.length = c := HRB.out _ _ hgetb.out
          obtain ⟨b3, o3, x, rfl, hcx, hgetx⟩ := Hrow.out.at_ (k := k) hkr
          have h2 := (hbw.cell (World.block_lt_of_cell? w _ hcb)).trans hcb
          have h3 := (hbw.cell (World.block_lt_of_cell? w _ hcx)).trans hcx
          have hkb : k < nb := by omega
          have hlc1 : rb.length ≤ c := by omega
          have hlc2 : c ≤ rb.length := by omega
          have Hrowb := Lib.hid hrowb
          have Hline := Lib.hid hline
          have Hbx := Lib.hid hbx
          clear hrowb hrbl hcb hcx hline hbx hbw
          go_wp2_with fail
          clear h2 h3
          go_loopw [37] (fun i' wy => ∃ j : Nat, j ≤ rb.length ∧ i' = .int .i64 j ∧ OInts wy wo.heap.size (.slice (some ⟨wo.heap.size, 0, none⟩) c c) c ((wline b ra c (k + 1)).take j ++ (wline b ra c k).drop j) ∧ Below wo.heap.size wo wy) (fun i _ => c - (intOf i).toNat)
          case atStart => exact ⟨0, Nat.zero_le _, rfl, by simpa using Hline.out, Hbx.out⟩
          case round =>
            obtain ⟨j, hj, rfl, hline, hbx⟩ := hrel
            clear Hline Hbx
            have hbw := Hbl.out.trans (hbx.mono Hbl.out.size)
            by_cases hjc : j < rb.length
            · obtain ⟨b4, o4, y, rfl, hcy, hgety⟩ := Hrowb.out.at_ (k := j) hjc
              have HW : Hid (wd b ra (k + 1) j = wrap64 (wd b ra k j + wrap64 (x * y))) := wd_succ hgetx.out hgetb.out hgety.out
              have h4 := (hbw.cell (World.block_lt_of_cell? w _ hcy)).trans hcy
              have hjc' : j < c := by omega
              have h6 := hline.cell j hjc'
              rw [List.getD, mix_get (by rw [wline_len]; omega) (wline_get hjc'), Option.getD_some] at h6
              have h7 := hline.frozen j
              have hset := hline.set j (wd b ra (k + 1) j)
              rw [mix_set (wline_get hjc') (wline_get hjc')] at hset
              have hb' := hbx.setCell (p := ⟨wo.heap.size, j, none⟩) (Nat.le_refl _) (.int .i64 (wd b ra (k + 1) j))
              have Hset := Lib.hid hset
              have Hb' := Lib.hid hb'
              clear hset hb' hline hbx hbw hcy
              go_wp2_with fail
              go_roundw
              case rel => exact ⟨j + 1, hjc, by go_num, by rw [← HW.out]; first | exact Hset.out | exact Hset.out.drewN 1, by rw [← HW.out]; first | exact Hb'.out | exact Hb'.out.drew⟩
              case measure => simp [intOf]; omega
            · have hjc' : j = c := by omega
              subst hjc'
              rw [mix_end (wline_len b ra j (k + 1)) (wline_len b ra j k)] at hline
              have Hline := Lib.hid hline
              have Hbx := Lib.hid hbx
              clear hline hbx hbw
              go_wp2_with fail
              go_roundw
              case rel => exact ⟨k + 1, hkr, by go_num, Hline.out, Hbx.out⟩
              case measure => simp [intOf]; omega
        · rw [wline_end (by omega) (by have := HLB.out; have := HRL.out; omega)] at hline
          have Hline := Lib.hid hline
          have Hbx := Lib.hid hbx
          clear hline hbx hbw
          go_wp2_with (first | (at_builtin; refine wpList_push_fresh _ _ wo rfl _ _ rfl w.heap.size _ i _ rfl Hown.out (by omega) Hbl.out.size Hbx.out c _ Hline.out _ ?ctb rfl ?_))
          case ctb => rfl
          intro v' w' hown' hbel _
          rw [push_take (mulT_get hgeta.out)] at hown'
          have hb' := Hbl.out.trans hbel
          go_wp2_with fail
          go_roundw
          case rel => exact ⟨i + 1, hlt, by go_num, hown', hb'⟩
          case measure => simp [intOf]; omega
    · have Hown := Lib.hid hown
      have Hbl := Lib.hid hbl
      clear hown hbl
      go_wp2_with fail
      go_ret
      have : i = na := by omega
      subst this
      have h := Hown.out
      rw [List.take_of_length_le (by rw [mulT_len]; have := HLA.out; omega)] at h
      exact ⟨_, rfl, h, Hbl.out⟩
end Go.Proofs.YtdmpokanfnlbgaaGreatDoor

namespace Go.Proofs.YtdmpokanfnlbgaaGreatDoor
open Go.RowKit
set_option linter.all false
set_option maxHeartbeats 800000 in
theorem iChecked_any (p : Option Addr) (n c : Nat) (a : List (List Int)) (lo : Nat) (w : World) (h : OIntss w lo (.slice p n c) n a) :
    Calls Tryz.prog 40 #[.slice p n c] w fun e w' => ∃ v, e = .returned (.tuple #[v, .bool (isMat a)]) ∧ OIntss w' lo v (if isMat a then a else []).length (if isMat a then a else []) ∧ w = w' := by
  obtain ⟨ao, cap, e, hi⟩ := h.form
  injection e with e1 e2 e3
  subst e1
  subst e3
  have Hi := Lib.hid hi
  have H := Lib.hid h
  clear h hi
  cases h1 : isMat a
  · go_enter Tryz.func40, Tryz.ntmps40
    go_wp2_with (first | (go_at_call 39; refine (iIsMatrix_any _ _ _ a _ Hi.out).mono ?_; rintro e w' ⟨rfl, rfl⟩))
    go_ret2
    exact ⟨_, rfl, OIntss.none_ _ _, rfl⟩
  · go_enter Tryz.func40, Tryz.ntmps40
    go_wp2_with (first | (go_at_call 39; refine (iIsMatrix_any _ _ _ a _ Hi.out).mono ?_; rintro e w' ⟨rfl, rfl⟩))
    go_ret2
    refine ⟨_, rfl, ?_, rfl⟩
    show OIntss w lo _ a.length a
    rw [H.out.len]
    exact H.out

set_option maxHeartbeats 1600000 in
theorem iMulM_any (pa : Option Addr) (na ca : Nat) (a : List (List Int)) (pb : Option Addr) (nb cb : Nat) (b : List (List Int)) (w : World) (ha : Intss w pa na a) (hb : Intss w pb nb b) :
    Calls Tryz.prog 68 #[.slice pa na ca, .slice pb nb cb] w fun e w' => ∃ v, e = .returned (.tuple #[v, .bool (mulM a b).isSome]) ∧ OIntss w' w.heap.size v ((mulM a b).getD []).length ((mulM a b).getD []) ∧ Below w.heap.size w w' := by
  have hma := ha.2.1
  have hmb := hb.2.1
  have HA := Lib.hid ha
  have HB := Lib.hid hb
  have HLA : Hid (a.length = na) := ha.1
  have HLB : Hid (b.length = nb) := hb.1
  clear ha hb
  cases h1 : isMat a
  · have hg : Hid (mulM a b = none) := mulM_none1 h1
    go_enter Tryz.func68, Tryz.ntmps68
    go_wp2_with (first | (go_at_call 39; refine (iIsMatrix_any _ _ _ a _ HA.out).mono ?_; rintro e w' ⟨rfl, rfl⟩))
    go_ret2
    rw [hg.out]
    exact ⟨_, rfl, OIntss.none_ _ _, Below.refl _ _⟩
  cases h2 : isMat b
  · have hg : Hid (mulM a b = none) := mulM_none2 h2
    go_enter Tryz.func68, Tryz.ntmps68
    go_wp2_with fail
    refine (iIsMatrix_any _ _ _ a _ HA.out).mono ?_
    rintro e w' ⟨rfl, rfl⟩
    go_wp2_with fail
    refine (iIsMatrix_any _ _ _ b _ HB.out).mono ?_
    rintro e w' ⟨rfl, rfl⟩
    go_wp2_with fail
    go_ret2
    rw [hg.out]
    exact ⟨_, rfl, OIntss.none_ _ _, Below.refl _ _⟩
  by_cases hn : na = nb
  · subst hn
    have hne : ((na : Int) != (na : Int)) = false := by simp
    have hn9 : na ≤ 9 := by have := isMat_len h1; have := HLA.out; omega
    have hn0 : 0 < na := by have := isMat_len h1; have := HLA.out; omega
    have HRA := Lib.hid (isMat_rowsLen h1 HLA.out)
    have HRB := Lib.hid (isMat_rowsLen h2 HLB.out)
    have hg : Hid (mulM a b = if isMat (mulT a b na) then some (mulT a b na) else none) := by
      show mulM a b = _
      unfold mulM
      rw [h1, h2, HLA.out, HLB.out]
      simp
    go_enter Tryz.func68, Tryz.ntmps68
    go_wp2_with fail
    refine (iIsMatrix_any _ _ _ a _ HA.out).mono ?_
    rintro e w' ⟨rfl, rfl⟩
    go_wp2_with fail
    refine (iIsMatrix_any _ _ _ b _ HB.out).mono ?_
    rintro e w' ⟨rfl, rfl⟩
    go_wp2_with fail
    clear h1 h2
    refine (iTimes_any _ _ _ a _ _ _ b na _ HA.out HB.out HRA.out HRB.out (by omega) (by omega) hn0).mono ?_
    rintro e w1 ⟨v, rfl, hown, hbl⟩
    obtain ⟨ao, cap, rfl, hi⟩ := hown.form
    have Hown := Lib.hid hown
    have Hbl := Lib.hid hbl
    clear hown hbl hi
    go_wp2_with fail
    refine (iChecked_any _ _ _ (mulT a b na) _ _ Hown.out).mono ?_
    rintro e w' ⟨v, rfl, hv, rfl⟩
    have Hv := Lib.hid hv
    clear hv
    go_wp2_with fail
    go_ret2
    rw [hg.out]
    refine ⟨v, ?_, ?_, Hbl.out⟩
    · cases isMat (mulT a b na) <;> rfl
    · have := Hv.out
      revert this
      cases isMat (mulT a b na) <;> exact id
  · have hg : Hid (mulM a b = none) := mulM_none3 (by rw [HLA.out, HLB.out]; exact hn)
    have hne : ((na : Int) != (nb : Int)) = true := by simp; omega
    clear hn
    go_enter Tryz.func68, Tryz.ntmps68
    go_wp2_with fail
    refine (iIsMatrix_any _ _ _ a _ HA.out).mono ?_
    rintro e w' ⟨rfl, rfl⟩
    go_wp2_with fail
    refine (iIsMatrix_any _ _ _ b _ HB.out).mono ?_
    rintro e w' ⟨rfl, rfl⟩
    go_wp2_with fail
    go_ret2
    rw [hg.out]
    exact ⟨_, rfl, OIntss.none_ _ _, Below.refl _ _⟩
end Go.Proofs.YtdmpokanfnlbgaaGreatDoor

namespace Go.Proofs.YtdmpokanfnlbgaaGreatDoor
open Go.RowKit
set_option linter.all false
set_option maxHeartbeats 1600000 in
theorem iPowM_any (pm : Option Addr) (nm cm : Nat) (m : List (List Int)) (n : Int) (w : World) (hm : Intss w pm nm m) :
    Calls Tryz.prog 44 #[.slice pm nm cm, .int .i64 n] w fun e w' => ∃ v, e = .returned (.tuple #[v, .bool (powM m n).isSome]) ∧ OIntss w' w.heap.size v ((powM m n).getD []).length ((powM m n).getD []) ∧ Below w.heap.size w w' := by
  have HM := Lib.hid hm
  have HLM : Hid (m.length = nm) := hm.1
  clear hm
  cases h1 : isMat m
  · have hg : Hid (powM m n = none) := powM_none1 h1
    go_enter Tryz.func44, Tryz.ntmps44
    go_wp2_with (first | (go_at_call 39; refine (iIsMatrix_any _ _ _ m _ HM.out).mono ?_; rintro e w' ⟨rfl, rfl⟩))
    go_ret2
    rw [hg.out]
    exact ⟨_, rfl, OIntss.none_ _ _, Below.refl _ _⟩
  by_cases h2 : n < 0
  · have hg : Hid (powM m n = none) := powM_none2 (inR_no (.inl h2))
    have hd : decide (n < 0) = true := by simpa using h2
    go_enter Tryz.func44, Tryz.ntmps44
    go_wp2_with (first | (go_at_call 39; refine (iIsMatrix_any _ _ _ m _ HM.out).mono ?_; rintro e w' ⟨rfl, rfl⟩))
    go_ret2
    rw [hg.out]
    exact ⟨_, rfl, OIntss.none_ _ _, Below.refl _ _⟩
  by_cases h3 : 30 < n
  · have hg : Hid (powM m n = none) := powM_none2 (inR_no (.inr h3))
    have hd : decide (n < 0) = false := by simpa using h2
    go_enter Tryz.func44, Tryz.ntmps44
    go_wp2_with (first | (go_at_call 39; refine (iIsMatrix_any _ _ _ m _ HM.out).mono ?_; rintro e w' ⟨rfl, rfl⟩))
    go_ret2
    rw [hg.out]
    exact ⟨_, rfl, OIntss.none_ _ _, Below.refl _ _⟩
  obtain ⟨q, rfl⟩ := Int.eq_ofNat_of_zero_le (show 0 ≤ n by omega)
  have hq : q ≤ 30 := by omega
  have hd : decide ((q : Int) < 0) = false := by simp
  have hg : Hid (powM m q = iterM m q (oneT nm)) := by have := powM_iter h1 (n := q) (inR_mk ⟨by omega, by omega⟩); rw [HLM.out] at this; exact this
  have hn9 : nm ≤ 9 := by have := isMat_len h1; have := HLM.out; omega
  clear h2 h3
  go_enter Tryz.func44, Tryz.ntmps44
  go_wp2_with (first | (go_at_call 39; refine (iIsMatrix_any _ _ _ m _ HM.out).mono ?_; rintro e w' ⟨rfl, rfl⟩))
  clear h1 hd
  refine (iUnit_any nm _ (by omega)).mono ?_
  rintro e w1 ⟨v, rfl, hown, hbl⟩
  have Hown := Lib.hid hown
  have Hbl := Lib.hid hbl
  clear hown hbl
  go_wp2_with fail
  go_loopw [6, 23] (fun v i wr => ∃ (k : Nat) (acc : List (List Int)), k ≤ q ∧ i = .int .i64 k ∧ OIntss wr w.heap.size v nm acc ∧ Hid (iterM m (q - k) acc = iterM m q (oneT nm)) ∧ Below w.heap.size w wr) (fun _ i _ => q - (intOf i).toNat)
  case atStart => exact ⟨0, _, Nat.zero_le _, rfl, Hown.out, rfl, Hbl.out⟩
  case round =>
    obtain ⟨k, acc, hk, rfl, hown, hit, hbl⟩ := hrel
    obtain ⟨wo, rfl⟩ : ∃ wo : World, wo = wr := ⟨_, rfl⟩
    clear Hown Hbl
    by_cases hlt : k < q
    · have Hstep : Hid (q - k = (q - (k + 1)) + 1) := by show q - k = _; omega
      obtain ⟨ao, cap, rfl, hi⟩ := hown.form
      have Hi := Lib.hid hi
      have Hbl := Lib.hid hbl
      clear hi hbl hown
      go_wp2_with fail
      refine (iMulM_any _ _ _ acc _ _ _ m _ Hi.out (HM.out.keep (Hbl.out.mono (Nat.le_refl _)))).mono ?_
      rintro e w2 ⟨v2, rfl, hown2, hb2⟩
      cases hp : mulM acc m with
      | none =>
        have hr1 : Hid (powM m q = none) := by
          have h5 := hit.out
          rw [Hstep.out, iterM_none hp] at h5
          show powM m q = none
          rw [hg.out, h5]
        have Hb2 := Lib.hid (Hbl.out.trans (hb2.mono Hbl.out.size))
        clear hown2 hb2 hit
        go_wp2_with fail
        go_ret2
        rw [hr1.out]
        exact ⟨_, rfl, OIntss.none_ _ _, Hb2.out⟩
      | some p =>
        have hit' : Hid (iterM m (q - (k + 1)) p = iterM m q (oneT nm)) := by
          have h5 := hit.out
          rw [Hstep.out, iterM_some hp] at h5
          exact h5
        have hpl : p.length = nm := by have := (mulM_mat hp).2; rw [this, HLM.out]
        rw [hp] at hown2
        have hown3 : OIntss w2 w.heap.size v2 nm p := by
          have h6 : OIntss w2 wo.heap.size v2 p.length p := hown2
          rw [hpl] at h6
          exact h6.mono Hbl.out.size
        have Hown3 := Lib.hid hown3
        have Hb2 := Lib.hid (Hbl.out.trans (hb2.mono Hbl.out.size))
        clear hown2 hb2 hit hown3 hpl
        go_wp2_with fail
        go_roundw
        case rel => exact ⟨k + 1, p, hlt, by go_num, Hown3.out, hit', Hb2.out⟩
        case measure => simp [intOf]; omega
    · have hr1 : Hid (powM m q = some acc) := by
        have h5 := hit.out
        rw [show q - k = 0 from by omega] at h5
        show powM m q = some acc
        rw [hg.out, ← h5]
        rfl
      have Hown := Lib.hid hown
      have Hbl := Lib.hid hbl
      clear hown hbl hit
      go_wp2_with fail
      go_ret2
      rw [hr1.out]
      refine ⟨_, rfl, ?_, Hbl.out⟩
      show OIntss wo w.heap.size _ acc.length acc
      rw [Hown.out.len]
      exact Hown.out
end Go.Proofs.YtdmpokanfnlbgaaGreatDoor

namespace Go.Proofs.YtdmpokanfnlbgaaGreatDoor
open Go.RowKit
set_option linter.all false
theorem eqL_step4 {α : Type} [DecidableEq α] {xs ys : List α} {k : Nat} {x y : α} (hx : xs[k]? = some x) (hy : ys[k]? = some y) {b : Bool} (h : eqL (xs.drop k) (ys.drop k) = b) :
    (x = y → eqL (xs.drop (k + 1)) (ys.drop (k + 1)) = b) ∧ (x ≠ y → b = false) := by
  obtain ⟨h1, rfl⟩ := List.getElem?_eq_some_iff.1 hx
  obtain ⟨h2, rfl⟩ := List.getElem?_eq_some_iff.1 hy
  exact eqL_step h1 h2 h

set_option maxHeartbeats 800000 in
theorem sEqMat_any (ao : Option Addr) (n cap : Nat) (xs : List (List Int)) (ao' : Option Addr) (n' cap' : Nat) (ys : List (List Int)) (w : World) (h : Intss w ao n xs) (h' : Intss w ao' n' ys) :
    Calls Tryz.prog 56 #[.slice ao n cap, .slice ao' n' cap'] w fun e w' => e = .returned (.bool (eqL xs ys)) ∧ Drew w w' := by
  have hm := h.2.1
  have hm' := h'.2.1
  have HX := Lib.hid h.1
  have HY := Lib.hid h'.1
  by_cases hl : n = n'
  · subst hl
    have hl1 : ((n : Int) != (n : Int)) = false := by simp
    have H := Lib.hid h
    have H' := Lib.hid h'
    clear h h'
    go_enter Tryz.func56, Tryz.ntmps56
    go_wp2
    go_loopw [5] (fun i wr => ∃ k : Nat, k ≤ n ∧ i = .int .i64 k ∧ Drew w wr ∧ Hid (eqL (xs.drop k) (ys.drop k) = eqL xs ys)) (fun i _ => n - (intOf i).toNat)
    case atStart => exact ⟨0, Nat.zero_le _, rfl, Drew.refl w, rfl⟩
    case round =>
      obtain ⟨k, hk, rfl, ⟨m, rfl⟩, hr⟩ := hrel
      by_cases hlt : k < n
      · obtain ⟨b, o, ai, ci, r, rfl, hcell, hrow, hget⟩ := H.out.at_ hlt
        obtain ⟨b', o', ai', ci', r', rfl, hcell', hrow', hget'⟩ := H'.out.at_ hlt
        clear H H'
        have Hst := Lib.hid (eqL_step4 hget.out hget'.out hr.out)
        have Hr := Lib.hid hrow
        have Hr' := Lib.hid hrow'
        clear hrow hrow' hr
        by_cases he : r = r'
        · have he1 : eqL r r' = true := eqL_true he
          have hr1 : Hid _ := Hst.out.1 he
          clear he Hst
          go_wp2_with fail
          go_quiet ((go_at_call 84; exact quiet_Da (l4SameRow_any _ _ _ r _ _ _ r' _ Hr.out Hr'.out)))
          go_wp2
          go_roundw
          case rel => exact ⟨k + 1, hlt, by go_num, (by first | exact Drew.refl _ | exact Drew.mk _ _ | exact (Drew.mk _ _).drewN _), hr1⟩
          case measure => simp [intOf]; omega
        · have he1 : eqL r r' = false := eqL_false he
          have hr1 : Hid _ := Hst.out.2 he
          clear he Hst
          go_wp2_with fail
          go_quiet ((go_at_call 84; exact quiet_Da (l4SameRow_any _ _ _ r _ _ _ r' _ Hr.out Hr'.out)))
          go_wp2
          go_ret
          exact ⟨ret_bool hr1.out.symm, (by first | exact Drew.refl _ | exact Drew.mk _ _ | exact (Drew.mk _ _).drewN _)⟩
      · go_wp2
        go_ret
        rw [eqL_nil (by have := HX.out; omega) (by have := HY.out; omega)] at hr
        exact ⟨ret_bool hr.out, (by first | exact Drew.refl _ | exact Drew.mk _ _ | exact (Drew.mk _ _).drewN _)⟩
  · have hl1 : ((n : Int) != (n' : Int)) = true := by simp; omega
    have HL : Hid _ := eqL_len (xs := xs) (ys := ys) (by have := HX.out; have := HY.out; omega)
    clear hl h h'
    go_enter Tryz.func56, Tryz.ntmps56
    go_wp2
    go_ret
    exact ⟨ret_bool HL.out.symm, Drew.refl w⟩
end Go.Proofs.YtdmpokanfnlbgaaGreatDoor

namespace Go.Proofs.YtdmpokanfnlbgaaGreatDoor
open Go.RowKit
set_option linter.all false
set_option maxRecDepth 20000 in
set_option maxHeartbeats 1600000 in
theorem equalFunc_any (p : Option Addr) (n c : Nat) (a : List (List Int)) (p' : Option Addr) (n' c' : Nat) (b : List (List Int)) (w : World) (h : Intss w p n a) (h' : Intss w p' n' b) :
    Calls Tryz.prog 82 #[.slice p n c, .slice p' n' c', .func (.func 83) #[] #[]] w fun e w' => e = .returned (.bool (eqL a b)) ∧ Drew w w' := by
  have HL : Hid (a.length = n) := h.1
  have HL' : Hid (b.length = n') := h'.1
  have hm := h.2.1
  have H := Lib.hid h
  have H' := Lib.hid h'
  clear h h'
  by_cases hl : n = n'
  · subst hl
    have hl1 : ((n : Int) != (n : Int)) = false := by simp
    go_enter Tryz.func82, Tryz.ntmps82
    go_wp2_with fail
    go_loopw [17] (fun i wr => ∃ k : Nat, k ≤ n ∧ i = .int .i64 k ∧ Drew w wr ∧ Hid (eqL (a.drop k) (b.drop k) = eqL a b)) (fun i _ => n - (intOf i).toNat)
    case atStart => exact ⟨0, Nat.zero_le _, rfl, Drew.refl w, rfl⟩
    case round =>
      obtain ⟨k, hk, rfl, ⟨m, rfl⟩, hr⟩ := hrel
      by_cases hlt : k < n
      · obtain ⟨b1, o1, a1, c1, r, rfl, hc1, hrow1, hget1⟩ := H.out.at_ hlt
        obtain ⟨b2, o2, a2, c2, r', rfl, hc2, hrow2, hget2⟩ := H'.out.at_ hlt
        have hst := eqL_step (xs := a) (ys := b) (k := k) (by have := HL.out; omega) (by have := HL'.out; omega) hr.out
        have e1 : a[k]'(by have := HL.out; omega) = r := (List.getElem?_eq_some_iff.1 hget1.out).2
        have e2 : b[k]'(by have := HL'.out; omega) = r' := (List.getElem?_eq_some_iff.1 hget2.out).2
        rw [e1, e2] at hst
        have Hst := Lib.hid hst
        have HR1 := Lib.hid hrow1
        have HR2 := Lib.hid hrow2
        clear hst e1 e2 hr hget1 hget2 hrow1 hrow2
        by_cases he : r = r'
        · have HE := Lib.hid (eqL_true he)
          have hr1 := Lib.hid (Hst.out.1 he)
          clear he Hst
          go_wp2_with (go_at_call 83; refine (slicesEqual_any _ _ _ r _ _ _ r' _ (HR1.out.drewN m) (HR2.out.drewN m)).mono ?_; rw [HE.out]; rintro e w1 ⟨rfl, ⟨m1, rfl⟩⟩)
          go_roundw
          case rel => exact ⟨k + 1, hlt, by go_num, Drew.mk _ _, hr1.out⟩
          case measure => (simp [intOf] <;> omega)
        · have HE := Lib.hid (eqL_false he)
          have hr1 := Lib.hid (Hst.out.2 he)
          clear he Hst
          go_wp2_with (go_at_call 83; refine (slicesEqual_any _ _ _ r _ _ _ r' _ (HR1.out.drewN m) (HR2.out.drewN m)).mono ?_; rw [HE.out]; rintro e w1 ⟨rfl, ⟨m1, rfl⟩⟩)
          go_ret
          exact ⟨ret_bool hr1.out.symm, Drew.mk _ _⟩
      · have HE : Hid (eqL a b = true) := by
          show _ = _
          rw [← hr.out]; exact eqL_nil (by have := HL.out; omega) (by have := HL'.out; omega)
        clear hr
        go_wp2_with fail
        go_ret
        exact ⟨ret_bool HE.out.symm, Drew.mk _ _⟩
  · have hl1 : ((n : Int) != (n' : Int)) = true := by simp; omega
    have HE : Hid (eqL a b = false) := eqL_len (by have := HL.out; have := HL'.out; omega)
    clear hl
    go_enter Tryz.func82, Tryz.ntmps82
    go_wp2_with fail
    go_ret
    exact ⟨ret_bool HE.out.symm, Drew.refl w⟩
theorem iEqMat_any (p : Option Addr) (n c : Nat) (a : List (List Int)) (p' : Option Addr) (n' c' : Nat) (b : List (List Int)) (w : World) (h : Intss w p n a) (h' : Intss w p' n' b) :
    Calls Tryz.prog 55 #[.slice p n c, .slice p' n' c'] w fun e w' => e = .returned (.bool (eqL a b)) ∧ Drew w w' := by
  have H := Lib.hid h
  have H' := Lib.hid h'
  clear h h'
  go_enter Tryz.func55, Tryz.ntmps55
  go_wp2_with (go_at_call 82; refine (equalFunc_any _ _ _ a _ _ _ b _ H.out H'.out).mono ?_; rintro e w1 ⟨rfl, hd⟩)
  go_ret
  exact ⟨rfl, hd⟩
end Go.Proofs.YtdmpokanfnlbgaaGreatDoor

namespace Go.Proofs.YtdmpokanfnlbgaaGreatDoor
open Go.RowKit
set_option linter.all false
def J1 (a : List (List Int)) (i j : Nat) : Nat → Nat → Int := fun x y => if y < a.length ∧ (x < i ∨ (x = i ∧ y < j)) then entA a x y else 0
def J2 (a b : List (List Int)) (i j : Nat) : Nat → Nat → Int := fun x y => if x < a.length then (if y < a.length then entA a x y else 0) else if a.length ≤ y ∧ (x < a.length + i ∨ (x = a.length + i ∧ y < a.length + j)) then entA b (x - a.length) (y - a.length) else 0
section
variable {a b : List (List Int)}
theorem j1_start (N : Nat) : List.replicate N (List.replicate N (0 : Int)) = mkT N (J1 a 0 0) := by
  rw [mkT_zero]
  refine mkT_congr fun x y _ _ => ?_
  unfold J1
  rw [if_neg (by omega)]
theorem j1_step {i j N : Nat} (hj : j < a.length) : ∀ x y, x < N → y < N → J1 a i (j + 1) x y = if x = i ∧ y = j then entA a i j else J1 a i j x y := by
  intro x y _ _
  unfold J1
  by_cases e : x = i ∧ y = j
  · rw [if_pos e, if_pos (by omega), e.1, e.2]
  · rw [if_neg e]
    by_cases h : y < a.length ∧ (x < i ∨ (x = i ∧ y < j))
    · rw [if_pos h, if_pos (by omega)]
    · rw [if_neg h, if_neg (by omega)]
theorem j1_row (i N : Nat) : mkT N (J1 a i a.length) = mkT N (J1 a (i + 1) 0) := by
  refine mkT_congr fun x y hx hy => ?_
  unfold J1
  by_cases h : y < a.length ∧ (x < i ∨ (x = i ∧ y < a.length))
  · rw [if_pos h, if_pos (by omega)]
  · rw [if_neg h, if_neg (by omega)]
theorem j1_end (N : Nat) : mkT N (J1 a a.length 0) = mkT N (J2 a b 0 0) := by
  refine mkT_congr fun x y hx hy => ?_
  unfold J1 J2
  by_cases h : x < a.length
  · rw [if_pos h]
    by_cases h2 : y < a.length
    · rw [if_pos h2, if_pos (by omega)]
    · rw [if_neg h2, if_neg (by omega)]
  · rw [if_neg h, if_neg (by omega), if_neg (by omega)]
theorem j2_step {i j N : Nat} : ∀ x y, x < N → y < N → J2 a b i (j + 1) x y = if x = a.length + i ∧ y = a.length + j then entA b i j else J2 a b i j x y := by
  intro x y _ _
  unfold J2
  by_cases e : x = a.length + i ∧ y = a.length + j
  · rw [if_pos e, if_neg (by omega), if_pos (by omega), e.1, e.2, Nat.add_sub_cancel_left, Nat.add_sub_cancel_left]
  · rw [if_neg e]
    by_cases h : x < a.length
    · rw [if_pos h, if_pos h]
    · rw [if_neg h, if_neg h]
      by_cases h2 : a.length ≤ y ∧ (x < a.length + i ∨ (x = a.length + i ∧ y < a.length + j))
      · rw [if_pos h2, if_pos (by omega)]
      · rw [if_neg h2, if_neg (by omega)]
theorem j2_row (i : Nat) : mkT (a.length + b.length) (J2 a b i b.length) = mkT (a.length + b.length) (J2 a b (i + 1) 0) := by
  refine mkT_congr fun x y hx hy => ?_
  unfold J2
  by_cases h : x < a.length
  · rw [if_pos h, if_pos h]
  · rw [if_neg h, if_neg h]
    by_cases h2 : a.length ≤ y ∧ (x < a.length + i ∨ (x = a.length + i ∧ y < a.length + b.length))
    · rw [if_pos h2, if_pos (by omega)]
    · rw [if_neg h2, if_neg (by omega)]
theorem j2_end : mkT (a.length + b.length) (J2 a b b.length 0) = mkT (a.length + b.length) (joinF a b) := by
  refine mkT_congr fun x y hx hy => ?_
  unfold J2 joinF
  by_cases h : x < a.length
  · rw [if_pos h, if_pos h]
  · rw [if_neg h, if_neg h]
    by_cases h2 : y < a.length
    · rw [if_pos h2, if_neg (by omega)]
    · rw [if_neg h2, if_pos (by omega)]
theorem ent_row {m : List (List Int)} {i : Nat} {r : List Int} (h : m[i]? = some r) (y : Nat) : r.getD y 0 = entA m i y := by unfold entA; rw [getD_get h]
theorem c1_row {i N : Nat} {r : List Int} (h : a[i]? = some r) (hr : r.length = a.length) : mkT N (copF i 0 r (J1 a i 0)) = mkT N (J1 a (i + 1) 0) := by
  refine mkT_congr fun x y hx hy => ?_
  unfold copF J1
  rw [hr]
  by_cases e : x = i ∧ 0 ≤ y ∧ y < 0 + a.length
  · rw [if_pos e, if_pos (by omega), Nat.sub_zero, ent_row h, e.1]
  · rw [if_neg e]
    by_cases h2 : y < a.length ∧ (x < i ∨ (x = i ∧ y < 0))
    · rw [if_pos h2, if_pos (by omega)]
    · rw [if_neg h2, if_neg (by omega)]
theorem c2_row {i : Nat} {r : List Int} (h : b[i]? = some r) (hr : r.length = b.length) : mkT (a.length + b.length) (copF (a.length + i) a.length r (J2 a b i 0)) = mkT (a.length + b.length) (J2 a b (i + 1) 0) := by
  refine mkT_congr fun x y hx hy => ?_
  unfold copF J2
  rw [hr]
  by_cases e : x = a.length + i ∧ a.length ≤ y ∧ y < a.length + b.length
  · rw [if_pos e, if_neg (by omega), if_pos (by omega), ent_row h, e.1, Nat.add_sub_cancel_left]
  · rw [if_neg e]
    by_cases h1 : x < a.length
    · rw [if_pos h1, if_pos h1]
    · rw [if_neg h1, if_neg h1]
      by_cases h2 : a.length ≤ y ∧ (x < a.length + i ∨ (x = a.length + i ∧ y < a.length + 0))
      · rw [if_pos h2, if_pos (by omega)]
      · rw [if_neg h2, if_neg (by omega)]
end
end Go.Proofs.YtdmpokanfnlbgaaGreatDoor

namespace Go.Proofs.YtdmpokanfnlbgaaGreatDoor
open Go.RowKit
set_option linter.all false
set_option maxRecDepth 20000 in
set_option maxHeartbeats 12800000 in
theorem iPairG_any (p : Option Addr) (n c : Nat) (a : List (List Int)) (p' : Option Addr) (n' c' : Nat) (b : List (List Int)) (w : World) (h : Intss w p n a) (h' : Intss w p' n' b) :
    Calls Tryz.prog 13 #[.slice p n c, .slice p' n' c'] w fun e w' => ∃ v, e = .returned (.tuple #[v, .bool (pairOk a b)]) ∧ OIntss w' w.heap.size v (pairV a b).length (pairV a b) ∧ Below w.heap.size w w' := by
  have hl := h.1
  have hl' := h'.1
  subst hl hl'
  have HA := Lib.hid h
  have HB := Lib.hid h'
  clear h h'
  go_enter Tryz.func13, Tryz.ntmps13
  go_wp2_with fail
  refine (iIsMatrix_any _ _ _ a _ HA.out).mono ?_
  rintro e w' ⟨rfl, rfl⟩
  cases hma : isMat a
  · have hk : Hid (pairOk a b = false) := by show _ = _; simp [pairOk, hma]
    have hv : Hid (pairV a b = []) := by show _ = _; unfold pairV; rw [hk.out]; rfl
    clear hma
    go_wp2_with fail
    go_ret2
    rw [hk.out, hv.out]
    exact ⟨_, rfl, OIntss.none_ _ _, Below.refl _ _⟩
  have HMA := Lib.hid hma
  clear hma
  go_wp2_with fail
  refine (iIsMatrix_any _ _ _ b _ HB.out).mono ?_
  rintro e w' ⟨rfl, rfl⟩
  cases hmb : isMat b
  · have hk : Hid (pairOk a b = false) := by show _ = _; simp [pairOk, hmb]
    have hv : Hid (pairV a b = []) := by show _ = _; unfold pairV; rw [hk.out]; rfl
    clear hmb
    go_wp2_with fail
    go_ret2
    rw [hk.out, hv.out]
    exact ⟨_, rfl, OIntss.none_ _ _, Below.refl _ _⟩
  have HMB := Lib.hid hmb
  clear hmb
  have la := isMat_len HMA.out
  have lb := isMat_len HMB.out
  have hb0 : 0 < b.length := by omega
  have HOK : Hid (pairOk a b = isMat (mkT (a.length * b.length) (pairF a b))) := by show _ = _; unfold pairOk; rw [HMA.out, HMB.out]; rfl
  obtain ⟨N, hN⟩ : ∃ N, a.length * b.length = N := ⟨_, rfl⟩
  have hNI : (a.length : Int) * (b.length : Int) = (N : Int) := by rw [← hN]; simp
  have hN81 : N ≤ 81 := by rw [← hN]; exact Nat.mul_le_mul (show a.length ≤ 9 by omega) (show b.length ≤ 9 by omega)
  have hN1 : 1 ≤ N := by rw [← hN]; exact Nat.mul_pos (by omega) (by omega)
  have HNN := Lib.hid hN
  clear hN
  go_wp2_with fail
  refine (iZeros_any N _ (by omega)).mono ?_
  rintro e w1 ⟨v, rfl, hown, hbl⟩
  obtain ⟨g, cap, rfl⟩ := hown.head (by omega)
  rw [pm_start (a := a) (b := b)] at hown
  have Hown := Lib.hid hown
  have Hbl := Lib.hid hbl
  clear hown hbl hNI
  go_wp2_with fail
  go_loopw [33] (fun x wr => ∃ i : Nat, i ≤ a.length ∧ x = .int .i64 i ∧ OIntss wr w.heap.size (.slice (some ⟨g, 0, none⟩) N cap) N (mkT N (PmT a b i 0 0 0)) ∧ Below w.heap.size w wr) (fun x _ => a.length - (intOf x).toNat)
  case atStart => exact ⟨0, Nat.zero_le _, rfl, Hown.out, Hbl.out⟩
  case round =>
    obtain ⟨i, hi, rfl, hown, hbl⟩ := hrel
    clear Hown Hbl
    by_cases hlt : i < a.length
    · obtain ⟨b1, o1, a1, c1, r, rfl, q1, hrow, hget⟩ := HA.out.at_ hlt
      have hrl : r.length = a.length := (isMat_row HMA.out hget.out).1
      rw [hrl] at q1 hrow
      have HG1 := Lib.hid hget.out
      have HR1 := Lib.hid hrow
      have q1r := (hbl.cell (World.block_lt_of_cell? w _ q1)).trans q1
      have Hown := Lib.hid hown
      have Hbl := Lib.hid hbl
      clear hown hbl hrow hget q1
      go_wp2_with fail
      clear q1r
      go_loopw [40] (fun x wr => ∃ j : Nat, j ≤ a.length ∧ x = .int .i64 j ∧ OIntss wr w.heap.size (.slice (some ⟨g, 0, none⟩) N cap) N (mkT N (PmT a b i j 0 0)) ∧ Below w.heap.size w wr) (fun x _ => a.length - (intOf x).toNat)
      case atStart => exact ⟨0, Nat.zero_le _, rfl, Hown.out, Hbl.out⟩
      case round =>
        clear Hown Hbl
        obtain ⟨j, hj, rfl, hown, hbl⟩ := hrel
        by_cases hjn : j < a.length
        · obtain ⟨b2, o2, x, rfl, q2, hgx⟩ := HR1.out.at_ (k := j) hjn
          have HEX : Hid (entA a i j = x) := by show _ = _; unfold entA; rw [getD_get HG1.out]; exact getD_get hgx.out
          have q2r := (hbl.cell (World.block_lt_of_cell? w _ q2)).trans q2
          have Hown := Lib.hid hown
          have Hbl := Lib.hid hbl
          clear hown hbl hgx q2
          go_wp2_with fail
          clear q2r
          go_loopw [47] (fun x wr => ∃ k : Nat, k ≤ b.length ∧ x = .int .i64 k ∧ OIntss wr w.heap.size (.slice (some ⟨g, 0, none⟩) N cap) N (mkT N (PmT a b i j k 0)) ∧ Below w.heap.size w wr) (fun x _ => b.length - (intOf x).toNat)
          case atStart => exact ⟨0, Nat.zero_le _, rfl, Hown.out, Hbl.out⟩
          case round =>
            clear Hown Hbl
            obtain ⟨k, hk, rfl, hown, hbl⟩ := hrel
            by_cases hkn : k < b.length
            · obtain ⟨b3, o3, a3, c3, r3, rfl, q3, hrow3, hget3⟩ := HB.out.at_ hkn
              have hrl3 : r3.length = b.length := (isMat_row HMB.out hget3.out).1
              rw [hrl3] at q3 hrow3
              have HG3 := Lib.hid hget3.out
              have HR3 := Lib.hid hrow3
              have q3r := (hbl.cell (World.block_lt_of_cell? w _ q3)).trans q3
              have Hown := Lib.hid hown
              have Hbl := Lib.hid hbl
              clear hown hbl hrow3 hget3 q3
              go_wp2_with fail
              clear q3r
              go_loopw [54] (fun x wr => ∃ l : Nat, l ≤ b.length ∧ x = .int .i64 l ∧ OIntss wr w.heap.size (.slice (some ⟨g, 0, none⟩) N cap) N (mkT N (PmT a b i j k l)) ∧ Below w.heap.size w wr) (fun x _ => b.length - (intOf x).toNat)
              case atStart => exact ⟨0, Nat.zero_le _, rfl, Hown.out, Hbl.out⟩
              case round =>
                clear Hown Hbl
                obtain ⟨l, hl, rfl, hown, hbl⟩ := hrel
                by_cases hln : l < b.length
                · obtain ⟨b4, o4, y, rfl, q4, hgy⟩ := HR3.out.at_ (k := l) hln
                  have hey : entA b k l = y := by unfold entA; rw [getD_get HG3.out]; exact getD_get hgy.out
                  have q4r := (hbl.cell (World.block_lt_of_cell? w _ q4)).trans q4
                  obtain ⟨I, hI⟩ : ∃ I : Nat, I = i * b.length + k := ⟨_, rfl⟩
                  obtain ⟨J, hJ⟩ : ∃ J : Nat, J = j * b.length + l := ⟨_, rfl⟩
                  have hIN : I < N := by rw [hI, ← HNN.out]; exact mul_lt_mul2 hlt hkn
                  have hJN : J < N := by rw [hJ, ← HNN.out]; exact mul_lt_mul2 hjn hln
                  obtain ⟨ib, hib⟩ : ∃ ib : Nat, ib = i * b.length := ⟨_, rfl⟩
                  obtain ⟨jb, hjb⟩ : ∃ jb : Nat, jb = j * b.length := ⟨_, rfl⟩
                  have hi1 : (i : Int) * (b.length : Int) = (ib : Int) := by rw [hib]; simp
                  have hj1 : (j : Int) * (b.length : Int) = (jb : Int) := by rw [hjb]; simp
                  have hib9 : ib + k = I := by omega
                  have hjb9 : jb + l = J := by omega
                  have hi2 : (ib : Int) + (k : Int) = (I : Int) := by omega
                  have hj2 : (jb : Int) + (l : Int) = (J : Int) := by omega
                  have hw : wrap64 (x * y) = x * y := prod_wrap (by rw [← HEX.out]; exact ent_low HMA.out hlt hjn) (by rw [← hey]; exact ent_low HMB.out hkn hln)
                  obtain ⟨gi, ci, h5, hlo, _, hcl, hst⟩ := hown.mkEnt hIN
                  obtain ⟨u, h6⟩ := (hcl J hJN).1
                  have h7 := (hcl J hJN).2
                  have HS := Lib.hid (hst J (x * y) (PmT a b i j k (l + 1)) hJN (by rw [← HEX.out, ← hey, hI, hJ]; exact pm_step hkn hln))
                  have Hb' := Lib.hid (hbl.setCell (p := ⟨gi, J, none⟩) hlo (.int .i64 (x * y)))
                  clear hst hcl hown hbl hgy hey hI hJ hib hjb q4
                  go_wp2_with fail
                  go_roundw
                  case rel => exact ⟨l + 1, hln, by go_num, HS.out, Hb'.out⟩
                  case measure => (simp [intOf] <;> omega)
                · have e : l = b.length := by omega
                  subst e
                  rw [pm_row i j k N hb0] at hown
                  have Hown := Lib.hid hown
                  have Hbl := Lib.hid hbl
                  clear hown hbl
                  go_wp2_with fail
                  go_roundw
                  case rel => exact ⟨k + 1, hkn, by go_num, Hown.out, Hbl.out⟩
                  case measure => (simp [intOf] <;> omega)
            · have e : k = b.length := by omega
              subst e
              rw [pm_col i j N hb0] at hown
              have Hown := Lib.hid hown
              have Hbl := Lib.hid hbl
              clear hown hbl
              go_wp2_with fail
              go_roundw
              case rel => exact ⟨j + 1, hjn, by go_num, Hown.out, Hbl.out⟩
              case measure => (simp [intOf] <;> omega)
        · have e : j = a.length := by omega
          subst e
          rw [← HNN.out, pm_line i hb0, HNN.out] at hown
          have Hown := Lib.hid hown
          have Hbl := Lib.hid hbl
          clear hown hbl
          go_wp2_with fail
          go_roundw
          case rel => exact ⟨i + 1, hlt, by go_num, Hown.out, Hbl.out⟩
          case measure => (simp [intOf] <;> omega)
    · have e : i = a.length := by omega
      subst e
      rw [← HNN.out, pm_end hb0, HNN.out] at hown
      have Hown := Lib.hid hown
      have Hbl := Lib.hid hbl
      clear hown hbl
      obtain ⟨ok, hok⟩ : ∃ t, isMat (mkT N (pairF a b)) = t := ⟨_, rfl⟩
      have hc := iChecked_any (some ⟨g, 0, none⟩) N cap (mkT N (pairF a b)) w.heap.size wr Hown.out
      have hj := HOK.out
      rw [HNN.out, hok] at hj
      rw [hok] at hc
      have HCK := Lib.hid hc
      have HJ := Lib.hid hj
      clear hok hc hj
      go_wp2_with fail
      refine HCK.out.mono ?_
      rintro e w3 ⟨v3, rfl, ho3, rfl⟩
      obtain ⟨a3, c3, rfl, _⟩ := ho3.form
      have HO3 := Lib.hid ho3
      clear ho3
      cases ok
      · have hv : Hid (pairV a b = []) := by show _ = _; unfold pairV; rw [HJ.out]; rfl
        have HO4 : Hid (OIntss wr w.heap.size (.slice a3 0 c3) 0 []) := HO3.out
        go_wp2_with fail
        go_ret2
        rw [hv.out, HJ.out]
        exact ⟨_, rfl, HO4.out, Hbl.out⟩
      · have hv : Hid (pairV a b = mkT N (pairF a b)) := by show _ = _; unfold pairV; rw [HJ.out, HNN.out]; rfl
        have HO4 : Hid (OIntss wr w.heap.size (.slice a3 (mkT N (pairF a b)).length c3) (mkT N (pairF a b)).length (mkT N (pairF a b))) := HO3.out
        go_wp2_with fail
        go_ret2
        rw [hv.out, HJ.out]
        exact ⟨_, rfl, HO4.out, Hbl.out⟩
end Go.Proofs.YtdmpokanfnlbgaaGreatDoor

namespace Go.Proofs.YtdmpokanfnlbgaaGreatDoor
open Go.RowKit
set_option linter.all false
set_option maxRecDepth 20000 in
set_option maxHeartbeats 6400000 in
theorem sIn_any (K : Int) (aF : Option Addr) (nF cF : Nat) (F : List ByteArray) (aP : Option Addr) (n cP : Nat) (P : List ByteArray) (s : ByteArray) (w : World) (h : Strs w aF nF F) (hF : ∀ f ∈ F, f.size ≤ 100) (hp : Strs w aP n P) (hP : ∀ p ∈ P, p.size ≤ 100) (hs : s.size ≤ 100) :
    Calls Tryz.prog 81 #[.agg #[.int .i64 K, .slice aF nF cF], .slice aP n cP, .string s] w fun e w' => e = .returned (.bool (inL F P s)) ∧ Below w.heap.size w w' := by
  have hm := hp.2.1
  have HB1 := Lib.hid (below1 w (.cells #[.int .i64 K, .slice aF nF cF] 30))
  have HF1 := Lib.hid (h.keep HB1.out)
  have HP1 := Lib.hid (hp.keep HB1.out)
  have HK1 := Lib.hid (Blk.new w 30 #[.int .i64 K, .slice aF nF cF])
  have k1 : (w.alloc (.cells #[.int .i64 K, .slice aF nF cF] 30)).cell? ⟨w.heap.size, 1, none⟩ = some (.slice aF nF cF) := HK1.out.cell 1
  have HL := Lib.hid hp.1
  have HPs := Lib.hid hP
  have hFs := Lib.hid hF
  clear h hp hP hF
  by_cases h0 : n = 0
  · have HR : Hid (inL F P s = false) := by
      show _ = _
      have e : P = [] := List.eq_nil_of_length_eq_zero (by rw [HL.out]; exact h0)
      subst e
      rfl
    have d0 : ((n : Int) == 0) = true := beq_iff_eq.2 (by omega)
    clear h0 k1
    go_enter Tryz.func81, Tryz.ntmps81
    go_wp2_with fail
    go_ret
    exact ⟨ret_bool HR.out.symm, HB1.out⟩
  have d0 : ((n : Int) == 0) = false := beq_eq_false_iff_ne.2 (by omega)
  have HNE : Hid (P.isEmpty = false) := by
    show _ = _
    cases P with
    | nil => exact absurd HL.out.symm h0
    | cons a b => rfl
  clear h0
  have HAV := fun W (q : Strs W aF nF F) => sAvoids_any aF nF cF F s W q hs hFs.out
  cases ha : avB F s
  · have HR : Hid (inL F P s = false) := by show _ = _; simp [inL, ha]
    rw [ha] at HAV
    have HAV := Lib.hid HAV
    clear ha
    go_enter Tryz.func81, Tryz.ntmps81
    go_wp2_with fail
    refine (HAV.out _ HF1.out).mono ?_
    rintro e w' ⟨rfl, rfl⟩
    go_wp2_with fail
    go_ret
    exact ⟨ret_bool HR.out.symm, HB1.out⟩
  rw [ha] at HAV
  have HAV := Lib.hid HAV
  have HA := Lib.hid ha
  clear ha
  by_cases h2 : 2 ≤ s.size
  · have d2 : decide ((2 : Int) ≤ (s.size : Int)) = true := decide_eq_true (by omega)
    have hw1 : (0 : Int) ≤ (s.size : Int) - 2 := by omega
    have hw2 : (2 : Int) ≤ (s.size : Int) := by omega
    have hw3 : (s.size : Int) - 2 ≤ (s.size : Int) := by omega
    have HC1 := fun W (q : Strs W aP n P) => sHas_any aP n cP P (s.extract 0 2) W q
    cases h1 : hasT P (s.extract 0 2)
    · have HR : Hid (inL F P s = false) := by show _ = _; simp [inL, h1, h2]
      rw [h1] at HC1
      have HC1 := Lib.hid HC1
      clear h1
      go_enter Tryz.func81, Tryz.ntmps81
      go_wp2_with fail
      refine (HAV.out _ HF1.out).mono ?_
      rintro e w' ⟨rfl, rfl⟩
      go_wp2_with fail
      refine (HC1.out _ HP1.out).mono ?_
      rintro e w' ⟨rfl, rfl⟩
      go_wp2_with fail
      go_ret
      exact ⟨ret_bool HR.out.symm, HB1.out⟩
    · have HR : Hid (inL F P s = hasT P (s.extract (s.size - 2) s.size)) := by show _ = _; simp [inL, h1, h2, HNE.out, HA.out]
      rw [h1] at HC1
      have HC1 := Lib.hid HC1
      clear h1
      go_enter Tryz.func81, Tryz.ntmps81
      go_wp2_with fail
      refine (HAV.out _ HF1.out).mono ?_
      rintro e w' ⟨rfl, rfl⟩
      go_wp2_with fail
      refine (HC1.out _ HP1.out).mono ?_
      rintro e w' ⟨rfl, rfl⟩
      go_wp2_with fail
      refine (sHas_any _ _ _ P _ _ HP1.out).mono ?_
      rintro e w' ⟨rfl, rfl⟩
      go_wp2_with fail
      go_ret
      refine ⟨ret_bool ?_, HB1.out⟩
      rw [HR.out]
      all_goals (first | rfl | (congr 2; omega) | simp)
  · have d2 : decide ((2 : Int) ≤ (s.size : Int)) = false := decide_eq_false (by omega)
    have HR : Hid (inL F P s = P.any fun p => occ p s) := by show _ = _; simp [inL, h2, HNE.out, HA.out]
    go_enter Tryz.func81, Tryz.ntmps81
    go_wp2_with fail
    refine (HAV.out _ HF1.out).mono ?_
    rintro e w' ⟨rfl, rfl⟩
    go_wp2_with fail
    go_loop [7] (fun v => ∃ k : Nat, k ≤ n ∧ v = .int .i64 k ∧ Hid ((P.drop k).any (fun p => occ p s) = inL F P s)) (fun v => n - (intOf v).toNat)
    case atStart => exact ⟨0, Nat.zero_le _, rfl, HR.out.symm⟩
    case round =>
      obtain ⟨k, hk, rfl, hr⟩ := hrel
      clear HR
      by_cases hlt : k < n
      · obtain ⟨b, o, p, rfl, hc, hp⟩ := HP1.out.at_ hlt
        have hp100 := HPs.out p (List.mem_of_getElem? hp.out)
        have HST := Lib.hid (any_step hp.out hr.out)
        clear hp hr
        have HO := sOccurs_any p s
        cases ho : occ p s
        · have HN := Lib.hid (HST.out.2 ho)
          rw [ho] at HO
          have HO := Lib.hid HO
          clear HST ho
          go_wp2_with fail
          refine (HO.out _ hp100 hs).mono ?_
          rintro e w' ⟨rfl, rfl⟩
          go_wp2_with fail
          go_round
          case rel => exact ⟨k + 1, hlt, by go_num, HN.out⟩
          case measure => simp [intOf]; omega
        · have HN := Lib.hid (HST.out.1 ho)
          rw [ho] at HO
          have HO := Lib.hid HO
          clear HST ho
          go_wp2_with fail
          refine (HO.out _ hp100 hs).mono ?_
          rintro e w' ⟨rfl, rfl⟩
          go_wp2_with fail
          go_ret
          exact ⟨ret_bool HN.out.symm, HB1.out⟩
      · have HE := Lib.hid (any_end (by have := HL.out; omega) hr.out)
        clear hr
        go_wp2_with fail
        go_ret
        exact ⟨ret_bool HE.out.symm, HB1.out⟩
end Go.Proofs.YtdmpokanfnlbgaaGreatDoor

namespace Go.Proofs.YtdmpokanfnlbgaaGreatDoor
open Go.RowKit
set_option linter.all false
theorem load0 {P : Program} (a : Addr) (w : World) : (loadCells a 0).run P w = .ok #[] w := by
  simp [loadCells, loadCellsFrom]
theorem run_append_cap0 {P : Program} {w : World} {t ty e : TypeId} {i : TypeInfo} (ht : P.underlying t = some (.slice e)) (hi : P.info? e = some i) (hb : i.bytes ≤ 1024) (a : Option Addr) (x : Option Addr) (c : Nat) :
    (Builtin.append_ #[t, t] ty #[.slice a 0 0, .slice x 1 c]).run P w = (Builtin.append_ #[t, t] ty #[.slice none 0 0, .slice x 1 c]).run P w := by
  have h1 : ¬ 281474976710656 < Builtin.nextslicecap 1 0 * i.bytes := by show ¬ _ < 1 * _; omega
  cases a with
  | none => rfl
  | some a => simp [Builtin.append_, run_underlying ht, sizeOf, typeInfo, hi, Builtin.lenOf, Builtin.firstCells, h1, load0]
theorem wpList_push_row0 {ops : Array Oper} {rest : List Oper} {o : Oper} {a : Act} {Q : Exit → Act → World → Prop} (W : World) (u : Value) (hgd : o.guard = none) (s x : Operand)
    (ho : o.op = .call { callee := .builtin .append, args := #[s, x], argTypes := #[24, 24] })
    (lo : Nat) (sa : Option Addr) (hs : a.eval s = .slice sa 0 0) (hlo : lo ≤ W.heap.size)
    (m : Nat) (r : List Int) (hu : OInts W lo u m r) (tb : Nat) (htb : tb = W.heap.size) (hx : a.eval x = .slice (some ⟨tb, 0, none⟩) 1 1)
    (K : ∀ v' w', OIntss w' lo v' 1 [r] → Below W.heap.size W w' → wpList Tryz.prog ops Q rest (a.put o.dst v') w') : wpList Tryz.prog ops Q (o :: rest) a (W.alloc (.cells #[u] 49)) := by
  subst htb
  have hml := hu.len
  subst hml
  have hW2 : Below W.heap.size W (W.alloc (.cells #[u] 49)) := (Below.refl _ _).alloc (Nat.le_refl _) _
  have hu2 := hu.alloc (.cells #[u] 49)
  obtain ⟨i0, hi, hz0, hz1, hz2⟩ := info_parts info_ints
  have hone : u.oneCell' = true := by
    rcases hu.2.2 with ⟨rfl, _⟩ | ⟨_, _, _, rfl, _⟩ <;> rfl
  have hn0 : OIntss (W.alloc (.cells #[u] 49)) lo (.slice none 0 0) 0 [] := OIntss.none_ _ _
  have hv0 : (W.alloc (.cells #[u] 49)).ownsRow lo 49 1 (.slice none 0 0) 0 [] := ⟨by simp, .inl ⟨rfl, rfl⟩⟩
  refine wpList_plain hgd fun K' hK => ?_
  obtain ⟨v', w', hrun, q2, q3, _, q5⟩ := run_append_own_at (P := Tryz.prog) (W.alloc (.cells #[u] 49)) lo 24 o.type 49 i0 (.slice none 0 0) 1 24 Tryz.underlying24 hi hz0 hz1 hz2 rfl (by decide) (.slice none 0 0) 0 [] hv0 ⟨W.heap.size, 0, none⟩ 1 1 [u] rfl
    (by
      intro j u' hj
      match j, hj with
      | 0, hj =>
        simp at hj
        subst hj
        exact World.cell?_alloc_new _ _ _ _)
    (by
      intro u' hu'
      simp at hu'
      subst hu'
      exact hone) (by unfold maxLen; omega) (by omega) (by simp; omega)
  unfold Oper.wp execOp
  have hc0 := fun c => run_append_cap0 (ty := o.type) (w := W.alloc (.cells #[u] 49)) Tryz.underlying24 hi (by rw [hz2]; omega) sa (some ⟨W.heap.size, 0, none⟩) c
  simp only [ho, resolve, invoke, builtin, Sem.run_bind, Sem.run_pure, Result.andThen_ok, List.map_toArray, List.map_cons, List.map_nil, hs, hx, hc0, hrun]
  refine hK _ _ (K v' w' ?_ ?_)
  · have := OIntss.pushed hn0 (by omega) hu2 (fun i u' r' h3 h4 => by simp at h4) q3 fun vs' hv' => by rw [own_unique hv' hv0]; exact q2
    exact this
  · have : Below (W.alloc (.cells #[u] 49)).heap.size (W.alloc (.cells #[u] 49)) w' := ⟨q3.os, q3.tape, q3.output, q3.size, fun k hk => q3.block k hk (by simp [Value.ownBlock])⟩
    exact hW2.trans (this.mono (by simp))
end Go.Proofs.YtdmpokanfnlbgaaGreatDoor

namespace Go.Proofs.YtdmpokanfnlbgaaGreatDoor
open Go.RowKit
set_option linter.all false
/- The states of a shift (impl). -/
def nxt (F : List ByteArray) (x : ByteArray) : List ByteArray → Nat → List Int
  | [], _ => []
  | y :: t, k => if adj F x y then (k : Int) :: nxt F x t (k + 1) else nxt F x t (k + 1)
def nextL (F P : List ByteArray) : List (List Int) := P.map fun x => nxt F x P 0
def pickB (O : Nat → Bool) : List ByteArray → Nat → List ByteArray
  | [], _ => []
  | x :: t, k => if O k then x :: pickB O t (k + 1) else pickB O t (k + 1)
def livO (F P : List ByteArray) : Nat → Bool := livF (nextL F P) P.length P.length (fun i => decide (i < P.length))
def statesI (K : Nat) (F : List ByteArray) : List ByteArray := pickB (livO F ((allW K 2).filter (avB F))) ((allW K 2).filter (avB F)) 0
theorem nxt_step {F : List ByteArray} {x y : ByteArray} {P : List ByteArray} {k : Nat} {acc R : List Int} (hy : P[k]? = some y) (h : acc ++ nxt F x (P.drop k) k = R) :
    (adj F x y = true → (acc ++ [(k : Int)]) ++ nxt F x (P.drop (k + 1)) (k + 1) = R) ∧ (adj F x y = false → acc ++ nxt F x (P.drop (k + 1)) (k + 1) = R) := by
  rw [drop_of_get hy, nxt] at h
  exact ⟨fun e => by rw [if_pos e] at h; simpa using h, fun e => by rw [if_neg (by simp [e])] at h; exact h⟩
theorem nxt_end {F : List ByteArray} {x : ByteArray} {P : List ByteArray} {k : Nat} {acc R : List Int} (hk : P.length ≤ k) (h : acc ++ nxt F x (P.drop k) k = R) : acc = R := by
  rw [List.drop_eq_nil_of_le hk, nxt, List.append_nil] at h
  exact h
theorem pick_step {O : Nat → Bool} {x : ByteArray} {P : List ByteArray} {k : Nat} {acc R : List ByteArray} (hy : P[k]? = some x) (h : acc ++ pickB O (P.drop k) k = R) :
    (O k = true → (acc ++ [x]) ++ pickB O (P.drop (k + 1)) (k + 1) = R) ∧ (O k = false → acc ++ pickB O (P.drop (k + 1)) (k + 1) = R) := by
  rw [drop_of_get hy, pickB] at h
  exact ⟨fun e => by rw [if_pos e] at h; simpa using h, fun e => by rw [if_neg (by simp [e])] at h; exact h⟩
theorem pick_end {O : Nat → Bool} {P : List ByteArray} {k : Nat} {acc R : List ByteArray} (hk : P.length ≤ k) (h : acc ++ pickB O (P.drop k) k = R) : acc = R := by
  rw [List.drop_eq_nil_of_le hk, pickB, List.append_nil] at h
  exact h
theorem nxt_mem {F : List ByteArray} {x : ByteArray} : ∀ {P : List ByteArray} {k : Nat} {z : Int}, z ∈ nxt F x P k → (k : Int) ≤ z ∧ z < (k : Int) + (P.length : Int)
  | [], _, _, h => by simp [nxt] at h
  | y :: t, k, z, h => by
    rw [nxt] at h
    simp only [List.length_cons]
    split at h
    · rcases List.mem_cons.1 h with rfl | h
      · omega
      · have := nxt_mem h
        omega
    · have := nxt_mem h
      omega
theorem nextL_mem {F P : List ByteArray} : ∀ r ∈ nextL F P, ∀ z ∈ r, 0 ≤ z ∧ z < (P.length : Int) := by
  intro r hr z hz
  simp only [nextL, List.mem_map] at hr
  obtain ⟨x, _, rfl⟩ := hr
  have := nxt_mem hz
  omega
theorem nextL_len (F P : List ByteArray) : (nextL F P).length = P.length := by simp [nextL]
end Go.Proofs.YtdmpokanfnlbgaaGreatDoor

namespace Go.Proofs.YtdmpokanfnlbgaaGreatDoor
open Go.RowKit
set_option linter.all false
def itF (F : List ByteArray) : Nat → List ByteArray → List ByteArray
  | 0, P => P
  | n + 1, P => itF F n (P.filter (okP F P))
theorem itF_fix {F P : List ByteArray} (h : P.filter (okP F P) = P) : ∀ m, itF F m P = P
  | 0 => rfl
  | m + 1 => by rw [itF, h]; exact itF_fix h m
theorem pairsF_it {F : List ByteArray} : ∀ (f : Nat) (P : List ByteArray) (m : Nat), P.length < f → P.length ≤ m → pairsF F f P = itF F m P
  | 0, _, _, h, _ => by omega
  | f + 1, P, m, h, hm => by
    rw [pairsF]
    split
    · rename_i e
      have e2 : P.filter (okP F P) = P := List.filter_eq_self.2 (List.length_filter_eq_length_iff.1 e)
      rw [itF_fix e2]
    · rename_i e
      have hl := List.length_filter_le (okP F P) P
      obtain ⟨m', rfl⟩ : ∃ m', m = m' + 1 := ⟨m - 1, by omega⟩
      rw [itF]
      exact pairsF_it f _ m' (by omega) (by omega)
theorem itF_filter {F : List ByteArray} : ∀ (m : Nat) (P : List ByteArray), ∃ g : ByteArray → Bool, itF F m P = P.filter g
  | 0, P => ⟨fun _ => true, by rw [itF]; exact (List.filter_eq_self.2 (fun _ _ => rfl)).symm⟩
  | m + 1, P => by
    obtain ⟨g, hg⟩ := itF_filter m (P.filter (okP F P))
    exact ⟨fun x => g x && okP F P x, by rw [itF, hg, List.filter_filter]⟩
theorem rowL_fst {O : Nat → Bool} {i q : Nat} : ∀ (r : List Int) (p : (Nat → Bool) × (Nat → Bool)), (rowL O i r p).1 q = true ↔ (p.1 q = true ∨ (q = i ∧ O i = true ∧ ∃ z ∈ r, O z.toNat = true))
  | [], p => by simp [rowL]
  | x :: r, p => by
    rw [rowL, rowL_fst r]
    cases h1 : O i
    · simp
    · cases h2 : O x.toNat
      · simp [h2]
      · by_cases e : q = i <;> simp [upd, e, h2]
theorem rowL_snd {O : Nat → Bool} {i q : Nat} : ∀ (r : List Int) (p : (Nat → Bool) × (Nat → Bool)), (rowL O i r p).2 q = true ↔ (p.2 q = true ∨ (O i = true ∧ O q = true ∧ ∃ z ∈ r, z.toNat = q))
  | [], p => by simp [rowL]
  | x :: r, p => by
    rw [rowL, rowL_snd r]
    cases h1 : O i
    · simp
    · by_cases e : q = x.toNat
      · subst e
        cases h2 : O x.toNat <;> simp [upd, h2]
      · have e2 : ¬ x.toNat = q := fun h => e h.symm
        cases h2 : O x.toNat <;> simp [upd, e, e2]
theorem rowsL_fst {O : Nat → Bool} {q : Nat} : ∀ (N : List (List Int)) (k : Nat) (p : (Nat → Bool) × (Nat → Bool)), (rowsL O k N p).1 q = true ↔ (p.1 q = true ∨ ∃ (j : Nat) (r : List Int), N[j]? = some r ∧ q = k + j ∧ O q = true ∧ ∃ z ∈ r, O z.toNat = true)
  | [], k, p => by simp [rowsL]
  | r :: t, k, p => by
    rw [rowsL, rowsL_fst t, rowL_fst]
    constructor
    · rintro ((h | ⟨e, h1, h2⟩) | ⟨j, r', h1, h2, h3, h4⟩)
      · exact .inl h
      · exact .inr ⟨0, r, rfl, by omega, by rw [e]; exact h1, h2⟩
      · exact .inr ⟨j + 1, r', by simpa using h1, by omega, h3, h4⟩
    · rintro (h | ⟨j, r', h1, h2, h3, h4⟩)
      · exact .inl (.inl h)
      · rcases j with _ | j
        · simp at h1
          subst h1
          have e : q = k := by omega
          exact .inl (.inr ⟨e, by rw [← e]; exact h3, h4⟩)
        · exact .inr ⟨j, r', by simpa using h1, by omega, h3, h4⟩
theorem rowsL_snd {O : Nat → Bool} {q : Nat} : ∀ (N : List (List Int)) (k : Nat) (p : (Nat → Bool) × (Nat → Bool)), (rowsL O k N p).2 q = true ↔ (p.2 q = true ∨ ∃ (j : Nat) (r : List Int), N[j]? = some r ∧ O (k + j) = true ∧ O q = true ∧ ∃ z ∈ r, z.toNat = q)
  | [], k, p => by simp [rowsL]
  | r :: t, k, p => by
    rw [rowsL, rowsL_snd t, rowL_snd]
    constructor
    · rintro ((h | ⟨h1, h2, h3⟩) | ⟨j, r', h1, h2, h3, h4⟩)
      · exact .inl h
      · exact .inr ⟨0, r, rfl, h1, h2, h3⟩
      · exact .inr ⟨j + 1, r', by simpa using h1, by rw [show k + (j + 1) = k + 1 + j by omega]; exact h2, h3, h4⟩
    · rintro (h | ⟨j, r', h1, h2, h3, h4⟩)
      · exact .inl (.inl h)
      · rcases j with _ | j
        · simp at h1
          subst h1
          exact .inl (.inr ⟨h2, h3, h4⟩)
        · exact .inr ⟨j, r', by simpa using h1, by rw [show k + 1 + j = k + (j + 1) by omega]; exact h2, h3, h4⟩
theorem nxt_iff {F : List ByteArray} {x : ByteArray} {z : Int} : ∀ {P : List ByteArray} {k : Nat}, z ∈ nxt F x P k ↔ ∃ (t : Nat) (y : ByteArray), P[t]? = some y ∧ adj F x y = true ∧ z = ((k + t : Nat) : Int)
  | [], k => by simp [nxt]
  | y :: r, k => by
    rw [nxt]
    constructor
    · intro h
      split at h
      · rename_i e
        rcases List.mem_cons.1 h with h | h
        · exact ⟨0, y, rfl, e, by simpa using h⟩
        · obtain ⟨t, y', h1, h2, h3⟩ := nxt_iff.1 h
          exact ⟨t + 1, y', by simpa using h1, h2, by rw [h3]; congr 1; omega⟩
      · obtain ⟨t, y', h1, h2, h3⟩ := nxt_iff.1 h
        exact ⟨t + 1, y', by simpa using h1, h2, by rw [h3]; congr 1; omega⟩
    · rintro ⟨t, y', h1, h2, h3⟩
      rcases t with _ | t
      · simp at h1
        subst h1
        rw [if_pos h2]
        exact List.mem_cons.2 (.inl (by simpa using h3))
      · have hm : z ∈ nxt F x r (k + 1) := nxt_iff.2 ⟨t, y', by simpa using h1, h2, by rw [h3]; congr 1; omega⟩
        split
        · exact List.mem_cons_of_mem _ hm
        · exact hm
theorem goes_true {F P : List ByteArray} {x : ByteArray} : goesB F P x true = true ↔ ∃ y ∈ P, adj F x y = true := by
  unfold goesB goP adj
  simp only [if_true, List.any_eq_true, Bool.and_eq_true, beq_iff_eq]
  constructor
  · rintro ⟨y, h1, h2, h3⟩; exact ⟨y, h1, h2.symm, h3⟩
  · rintro ⟨y, h1, h2, h3⟩; exact ⟨y, h1, h2.symm, h3⟩
theorem goes_false {F P : List ByteArray} {x : ByteArray} : goesB F P x false = true ↔ ∃ y ∈ P, adj F y x = true := by
  unfold goesB goP adj
  simp
def RelO (P0 P : List ByteArray) (O : Nat → Bool) : Prop := ∀ (q : Nat) (x : ByteArray), P0[q]? = some x → (O q = true ↔ x ∈ P)
theorem relO_step {F P0 P : List ByteArray} {O : Nat → Bool} (h : RelO P0 P O) (hs : ∀ x ∈ P, x ∈ P0) : RelO P0 (P.filter (okP F P)) (stepF (nextL F P0) P0.length O) := by
  intro q x hx
  have hq : q < P0.length := (List.getElem?_eq_some_iff.1 hx).1
  have hN : ∀ (j : Nat) (r : List Int), (nextL F P0)[j]? = some r → ∃ y : ByteArray, P0[j]? = some y ∧ r = nxt F y P0 0 := by
    intro j r hr
    simp only [nextL, List.getElem?_map, Option.map_eq_some_iff] at hr
    obtain ⟨y, h1, h2⟩ := hr
    exact ⟨y, h1, h2.symm⟩
  have hNq : (nextL F P0)[q]? = some (nxt F x P0 0) := by simp [nextL, hx]
  rw [List.mem_filter, okP, Bool.and_eq_true, goes_true, goes_false]
  unfold stepF partL
  simp only [hq, if_true, Bool.and_eq_true]
  rw [rowsL_fst, rowsL_snd, h q x hx]
  constructor
  · rintro ⟨⟨h1, h2⟩, h3⟩
    rcases h2 with h2 | ⟨j, r, e1, e2, _, z, hz, hoz⟩
    · cases h2
    rcases h3 with h3 | ⟨j', r', e1', e2', _, z', hz', hoz'⟩
    · cases h3
    refine ⟨h1, ?_, ?_⟩
    · have : j = q := by omega
      subst this
      rw [hNq] at e1
      injection e1 with e1
      subst e1
      obtain ⟨t, y, ht, hady, rfl⟩ := nxt_iff.1 hz
      rw [Int.toNat_natCast, Nat.zero_add] at hoz
      exact ⟨y, (h t y ht).1 hoz, hady⟩
    · obtain ⟨y, hy, rfl⟩ := hN _ _ e1'
      obtain ⟨t, y', ht, hady, rfl⟩ := nxt_iff.1 hz'
      rw [Int.toNat_natCast, Nat.zero_add] at hoz'
      subst hoz'
      rw [hx] at ht
      injection ht with ht
      subst ht
      rw [Nat.zero_add] at e2'
      exact ⟨y, (h j' y hy).1 e2', hady⟩
  · rintro ⟨h1, ⟨y, hy, hady⟩, ⟨y', hy', hady'⟩⟩
    obtain ⟨t, ht⟩ := List.getElem?_of_mem (hs y hy)
    obtain ⟨t', ht'⟩ := List.getElem?_of_mem (hs y' hy')
    refine ⟨⟨h1, .inr ⟨q, _, hNq, by omega, h1, ((0 + t : Nat) : Int), nxt_iff.2 ⟨t, y, ht, hady, rfl⟩, ?_⟩⟩, .inr ⟨t', nxt F y' P0 0, by simp [nextL, ht'], ?_, h1, ((0 + q : Nat) : Int), nxt_iff.2 ⟨q, x, hx, hady', rfl⟩, ?_⟩⟩
    · rw [Int.toNat_natCast, Nat.zero_add]; exact (h t y ht).2 hy
    · rw [Nat.zero_add]; exact (h t' y' ht').2 hy'
    · rw [Int.toNat_natCast, Nat.zero_add]
theorem relO_liv {F P0 : List ByteArray} : ∀ (m : Nat) (P : List ByteArray) (O : Nat → Bool), RelO P0 P O → (∀ x ∈ P, x ∈ P0) → RelO P0 (itF F m P) (livF (nextL F P0) P0.length m O)
  | 0, P, O, h, _ => h
  | m + 1, P, O, h, hs => by
    rw [itF, livF]
    exact relO_liv m _ _ (relO_step h hs) fun x hx => hs x (List.mem_filter.1 hx).1
theorem pick_filter {P0 P : List ByteArray} {O : Nat → Bool} (h : RelO P0 P O) (g : ByteArray → Bool) (hg : ∀ x ∈ P0, (x ∈ P ↔ g x = true)) : ∀ k, pickB O (P0.drop k) k = (P0.drop k).filter g := by
  suffices H : ∀ n k, P0.length - k = n → pickB O (P0.drop k) k = (P0.drop k).filter g from fun k => H _ k rfl
  intro n
  induction n with
  | zero =>
    intro k hk
    rw [List.drop_eq_nil_of_le (by omega)]
    rfl
  | succ n ih =>
    intro k hk
    have hl : k < P0.length := by omega
    have hx : P0[k]? = some P0[k] := List.getElem?_eq_getElem hl
    rw [drop_of_get hx, pickB, List.filter_cons, ih (k + 1) (by omega)]
    have e := (h k _ hx).trans (hg _ (List.mem_of_getElem? hx))
    cases h1 : O k
    · cases h2 : g P0[k]
      · simp
      · rw [h1, h2] at e; simp at e
    · cases h2 : g P0[k]
      · rw [h1, h2] at e; simp at e
      · simp
theorem states_eq {K : Nat} {F : List ByteArray} (hK : K ≤ 3) : statesI K F = pairsS K F := by
  unfold statesI pairsS
  have hP9 := words2_len (K := K) (F := F) hK
  generalize (allW K 2).filter (avB F) = P0 at hP9
  rw [pairsF_it 10 P0 P0.length (by omega) (Nat.le_refl _)]
  have h0 : RelO P0 P0 (fun i => decide (i < P0.length)) := by
    intro q x hx
    have hq : q < P0.length := (List.getElem?_eq_some_iff.1 hx).1
    simp [hq, List.mem_of_getElem? hx]
  have h1 := relO_liv (F := F) P0.length P0 _ h0 (fun x hx => hx)
  obtain ⟨g, hg⟩ := itF_filter (F := F) P0.length P0
  have h2 := pick_filter h1 g (fun x hx => by rw [hg, List.mem_filter]; exact ⟨fun e => e.2, fun e => ⟨hx, e⟩⟩) 0
  rw [List.drop_zero] at h2
  rw [hg]
  exact h2
end Go.Proofs.YtdmpokanfnlbgaaGreatDoor

namespace Go.Proofs.YtdmpokanfnlbgaaGreatDoor
open Go.RowKit
set_option linter.all false
set_option maxHeartbeats 1600000 in
theorem sTrace_any (ao : Option Addr) (n cap : Nat) (p : List (List Int)) (w : World) (h : Intss w ao n p) (hp : isMat p = true) :
    Calls Tryz.prog 57 #[.slice ao n cap] w fun e w' => e = .returned (.int .i64 (trc 0 0 p)) ∧ w = w' := by
  have hm := h.2.1
  have HL : Hid (p.length = n) := h.1
  have H := Lib.hid h
  have HP := Lib.hid hp
  clear h
  go_enter Tryz.func57, Tryz.ntmps57
  go_wp2_with (go_at_call 41; refine (sIsMatrix_any _ _ _ p _ H.out).mono ?_; rintro e w' ⟨rfl, rfl⟩)
  clear hp
  go_loop [3, 4] (fun s x => ∃ (k : Nat) (t : Int), k ≤ n ∧ x = .int .i64 k ∧ s = .int .i64 t ∧ Hid (trc k t (p.drop k) = trc 0 0 p)) (fun _ x => n - (intOf x).toNat)
  case atStart => exact ⟨0, 0, Nat.zero_le _, rfl, rfl, rfl⟩
  case round =>
    obtain ⟨k, t, hk, rfl, rfl, hr⟩ := hrel
    by_cases hlt : k < n
    · obtain ⟨b, o, ai, ci, r, rfl, hcell, hrow, hget⟩ := H.out.at_ hlt
      have hrl : k < r.length := by have := (isMat_row HP.out hget.out).1; have := HL.out; omega
      obtain ⟨b', o', x, rfl, hcx, hgx⟩ := hrow.at_ hrl
      have HS := Lib.hid (trc_step hget.out hgx.out hr.out)
      clear hrow hget hgx hr
      go_wp2_with fail
      go_round
      case rel => exact ⟨k + 1, _, hlt, by go_num, rfl, HS.out⟩
      case measure => simp [intOf]; omega
    · have e : k = n := by omega
      have HE : Hid (t = trc 0 0 p) := by have := hr.out; rw [drop_all p k (by rw [HL.out]; omega)] at this; exact this
      clear hr
      go_wp2_with fail
      go_ret
      exact ⟨ret_int HE.out, rfl⟩
end Go.Proofs.YtdmpokanfnlbgaaGreatDoor

namespace Go.Proofs.YtdmpokanfnlbgaaGreatDoor
open Go.RowKit
set_option linter.all false
set_option maxHeartbeats 1600000 in
theorem sClosed_any (pm : Option Addr) (nm cm : Nat) (m : List (List Int)) (n : Int) (w : World) (h : Intss w pm nm m) :
    Calls Tryz.prog 25 #[.slice pm nm cm, .int .i64 n] w fun e w' => e = .returned (.int .i64 (closed m n)) ∧ Below w.heap.size w w' := by
  have H := Lib.hid h
  clear h
  cases h1 : inR n 1 30
  · have hg := Lib.hid (closed_n (m := m) h1)
    go_enter Tryz.func25, Tryz.ntmps25
    go_wp2_with (go_at_call 33; refine (l1In_any _ _ _ _).mono ?_; rintro e w' ⟨rfl, rfl⟩)
    go_ret
    exact ⟨ret_int hg.out.symm, Below.refl _ _⟩
  cases ht : powM m n with
  | none =>
    have hg := Lib.hid (closed_none ht)
    have hs : (powM m n).isSome = false := by simp [ht]
    clear ht
    go_enter Tryz.func25, Tryz.ntmps25
    go_wp2_with (first
          | (go_at_call 33; refine (l1In_any _ _ _ _).mono ?_; rintro e w' ⟨rfl, rfl⟩)
          | (go_at_call 45; refine (sPowM_any _ _ _ m _ _ H.out).mono ?_; rintro e w1 ⟨v, rfl, hown, hbl⟩; have Hbl := Lib.hid hbl; clear hown hbl))
    go_ret
    exact ⟨ret_int hg.out.symm, Hbl.out⟩
  | some p =>
    have hs : (powM m n).isSome = true := by simp [ht]
    have HPM := Lib.hid (powM_mat ht).2.1
    have HG : Hid ((powM m n).getD [] = p) := by show (powM m n).getD [] = p; simp [ht]
    have hg := Lib.hid (closed_some h1 ht)
    clear ht
    go_enter Tryz.func25, Tryz.ntmps25
    go_wp2_with (first
          | (go_at_call 33; refine (l1In_any _ _ _ _).mono ?_; rintro e w' ⟨rfl, rfl⟩)
          | (go_at_call 45; refine (sPowM_any _ _ _ m _ _ H.out).mono ?_; rintro e w1 ⟨v, rfl, hown, hbl⟩; obtain ⟨ao, cap, rfl, hin⟩ := hown.form; rw [HG.out] at hin; have Hin := Lib.hid hin; have Hbl := Lib.hid hbl; clear hown hbl hin; rw [HG.out])
          | (go_at_call 57; refine (sTrace_any _ _ _ p _ Hin.out HPM.out).mono ?_; rintro e w' ⟨rfl, rfl⟩))
    go_ret
    exact ⟨ret_int hg.out.symm, Hbl.out⟩
end Go.Proofs.YtdmpokanfnlbgaaGreatDoor

namespace Go.Proofs.YtdmpokanfnlbgaaGreatDoor
open Go.RowKit
set_option linter.all false
set_option maxHeartbeats 1600000 in
theorem sCntP_any (p : Option Addr) (n c : Nat) (m : List (List Int)) (t : Int) (w : World) (h : Intss w p n m) :
    Calls Tryz.prog 27 #[.slice p n c, .int .i64 t] w fun e w' => e = .returned (.int .i64 (cntP m t)) ∧ Below w.heap.size w w' := by
  have H := Lib.hid h
  clear h
  go_enter Tryz.func27, Tryz.ntmps27
  cases hp : powM m t with
  | none =>
    have hg : Hid (cntP m t = -1) := by show _ = _; simp [cntP, hp]
    go_wp2_with fail
    refine (sPowM_any _ _ _ m t _ H.out).mono ?_
    rw [hp]
    rintro e w1 ⟨v1, rfl, ho1, hb1⟩
    go_wp2_with fail
    go_ret
    exact ⟨ret_int hg.out.symm, hb1⟩
  | some q =>
    have hg : Hid (cntP m t = sumOf q) := by show _ = _; simp [cntP, hp]
    go_wp2_with fail
    refine (sPowM_any _ _ _ m t _ H.out).mono ?_
    rw [hp]
    rintro e w1 ⟨v1, rfl, ho1, hb1⟩
    obtain ⟨a1, c1, rfl, hi1⟩ := ho1.form
    go_wp2_with fail
    refine (sSumOf_any _ _ _ q _ hi1).mono ?_
    rintro e w' ⟨rfl, rfl⟩
    go_wp2_with fail
    go_ret
    exact ⟨ret_int hg.out.symm, hb1⟩
end Go.Proofs.YtdmpokanfnlbgaaGreatDoor
