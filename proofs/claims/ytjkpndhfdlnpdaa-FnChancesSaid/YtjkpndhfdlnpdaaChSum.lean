/- Chances of walks add up, forwards and backwards. Nothing of the program stands here. -/
import Derived.Test.YtjkpndhfdlnpdaaChWalk
import Derived.Test.YtjkpndhfdlnpdaaStat
namespace Go.Proofs.Ytjkpndhfdlnpdaa
open Go.RowKit
set_option linter.all false
def pw (t : List (List Int)) : List Int → Int
  | x :: y :: r => en t x.toNat y.toNat * pw t (y :: r)
  | _ => 1
def ps (s : Int) : List Int → Int
  | _ :: y :: r => s * ps s (y :: r)
  | _ => 1
theorem chTop_pw (t : List (List Int)) : ∀ (ws : List Int) (a : Int), Cg (chTop t a ws) (a * pw t ws)
  | [], a => by unfold chTop pw; rw [Int.mul_one]; exact Cg.refl a
  | [x], a => by unfold chTop pw; rw [Int.mul_one]; exact Cg.refl a
  | x :: y :: r, a => by
    unfold chTop pw
    refine (chTop_pw t (y :: r) _).trans ?_
    rw [← Int.mul_assoc]
    exact (Cg.wrap _).mul (Cg.refl _)
theorem chLow_ps (s : Int) : ∀ (ws : List Int) (b : Int), Cg (chLow s b ws) (b * ps s ws)
  | [], b => by unfold chLow ps; rw [Int.mul_one]; exact Cg.refl b
  | [x], b => by unfold chLow ps; rw [Int.mul_one]; exact Cg.refl b
  | x :: y :: r, b => by
    unfold chLow ps
    refine (chLow_ps s (y :: r) _).trans ?_
    rw [← Int.mul_assoc]
    exact (Cg.wrap _).mul (Cg.refl _)
theorem pw_snoc (t : List (List Int)) (z : Int) : ∀ (x : Int) (r : List Int), pw t ((x :: r) ++ [z]) = pw t (x :: r) * en t ((x :: r).getLastD 0).toNat z.toNat
  | x, [] => by simp [pw]
  | x, y :: r => by
    have ih := pw_snoc t z y r
    show en t x.toNat y.toNat * pw t ((y :: r) ++ [z]) = en t x.toNat y.toNat * pw t (y :: r) * _
    rw [ih, Int.mul_assoc]
    simp [List.getLastD]
theorem ps_snoc (s z : Int) : ∀ (x : Int) (r : List Int), ps s ((x :: r) ++ [z]) = ps s (x :: r) * s
  | x, [] => by simp [ps]
  | x, y :: r => by
    have ih := ps_snoc s z y r
    show s * ps s ((y :: r) ++ [z]) = s * ps s (y :: r) * s
    rw [ih, Int.mul_assoc]
theorem allIn_app {lo hi : Int} {xs ys : List Int} (h : allIn lo hi xs = true) (g : allIn lo hi ys = true) : allIn lo hi (xs ++ ys) = true := by
  simp only [allIn, List.all_append, Bool.and_eq_true] at *
  exact ⟨h, g⟩
theorem walk_facts {t : List (List Int)} {ws : List Int} (h : walkOk t ws = true) : restOk t = true ∧ 1 ≤ ws.length ∧ ws.length ≤ 6 ∧ allIn 0 ((t.length : Int) - 1) ws = true := by
  simp only [walkOk, Bool.and_eq_true] at h
  have := inR_true h.2.1
  exact ⟨h.1, by omega, by omega, h.2.2⟩
theorem one_in {n k : Nat} (hk : k < n) : allIn 0 ((n : Int) - 1) [(k : Int)] = true := by
  simp only [allIn, List.all_cons, List.all_nil, Bool.and_true]
  exact inR_mk ⟨by omega, by omega⟩
theorem walk_more {t : List (List Int)} {ws : List Int} (h : walkOk t ws = true) (hl : ws.length < 6) {k : Nat} (hk : k < t.length) : walkOk t (ws ++ [(k : Int)]) = true ∧ walkOk t ((k : Int) :: ws) = true := by
  obtain ⟨h1, h2, h3, h4⟩ := walk_facts h
  constructor
  · simp only [walkOk, h1, allIn_app h4 (one_in hk), Bool.true_and, Bool.and_true]
    exact inR_mk ⟨by simp; omega, by simp; omega⟩
  · have := allIn_app (one_in hk) h4
    simp only [walkOk, h1, Bool.true_and]
    rw [show ((k : Int) :: ws) = [(k : Int)] ++ ws from rfl, this, Bool.and_true]
    exact inR_mk ⟨by simp; omega, by simp; omega⟩
theorem behind_one {t : List (List Int)} {ws : List Int} (h : walkOk t ws = true) (hl : ws.length < 6) {k : Nat} (hk : k < t.length) :
    Cg (chA t (ws ++ [(k : Int)])) (chA t ws * en t (ws.getLastD 0).toNat k) ∧ Cg (chB t (ws ++ [(k : Int)])) (chB t ws * isum 0 (t.getD 0 [])) := by
  have hm := (walk_more h hl hk).1
  obtain ⟨h1, h2, h3, h4⟩ := walk_facts h
  match ws, h2 with
  | x :: r, _ =>
    constructor
    · simp only [chA, hm, h, if_true]
      have e0 : ((x :: r) ++ [(k : Int)]).getD 0 0 = (x :: r).getD 0 0 := by simp
      rw [e0]
      refine (chTop_pw t _ _).trans ?_
      rw [pw_snoc, ← Int.mul_assoc, Int.toNat_natCast]
      exact ((chTop_pw t _ _).symm).mul (Cg.refl _)
    · simp only [chB, hm, h, if_true]
      refine (chLow_ps _ _ _).trans ?_
      rw [ps_snoc, ← Int.mul_assoc]
      exact ((chLow_ps _ _ _).symm).mul (Cg.refl _)
theorem ahead_one {t : List (List Int)} {ws : List Int} (h : walkOk t ws = true) (hl : ws.length < 6) {k : Nat} (hk : k < t.length) :
    Cg (chA t ((k : Int) :: ws)) ((restV t).getD k 0 * en t k (ws.getD 0 0).toNat * pw t ws) := by
  have hm := (walk_more h hl hk).2
  obtain ⟨h1, h2, h3, h4⟩ := walk_facts h
  match ws, h2 with
  | x :: r, _ =>
    simp only [chA, hm, if_true, List.getD_cons_zero, Int.toNat_natCast]
    refine (chTop_pw t _ _).trans (Cg.of_eq ?_)
    show _ * (en t (k : Int).toNat x.toNat * pw t (x :: r)) = _
    rw [Int.toNat_natCast, Int.mul_assoc]
theorem Sm_row : ∀ (r : List Int), Sm r.length (fun k => r.getD k 0) = r.sum
  | [] => rfl
  | x :: r => by
    rw [List.length_cons, Sm_first]
    simp only [List.getD_cons_zero, List.getD_cons_succ]
    rw [Sm_row r, List.sum_cons]
theorem en_row {t : List (List Int)} (hc : isChance t = true) {i : Nat} (hi : i < t.length) : Sm t.length (fun k => en t i k) = isum 0 (t.getD 0 []) := by
  have hf := chance_facts hc
  have hr : t[i]? = some t[i] := List.getElem?_eq_getElem hi
  have hm := hf.2.2.2.2 _ (List.mem_of_getElem? hr)
  rw [← hm.2.2, ← Sm_row, hm.1]
  refine Sm_congr _ _ _ (fun k _ => ?_)
  simp [en, List.getD, hr]
theorem last_in {n : Nat} {ws : List Int} (h : allIn 0 ((n : Int) - 1) ws = true) (h1 : 1 ≤ ws.length) : (ws.getLastD 0).toNat < n ∧ (ws.getD 0 0).toNat < n := by
  have a : ∀ x ∈ ws, 0 ≤ x ∧ x ≤ (n : Int) - 1 := by
    intro x hx
    simp only [allIn, List.all_eq_true] at h
    exact inR_true (h x hx)
  match ws, h1 with
  | x :: r, _ =>
    constructor
    · have : (x :: r).getLastD 0 ∈ x :: r := by
        rw [List.getLastD_cons]
        cases r with
        | nil => simp
        | cons y q => rw [List.getLastD_cons]; exact List.mem_cons_of_mem _ (by rw [← List.getLastD_cons (a := x) (b := y)]; simp [List.getLastD])
      have := a _ this
      omega
    · have := a x (by simp)
      simp only [List.getD_cons_zero]
      omega
theorem behind_sum {t : List (List Int)} {ws : List Int} (h : walkOk t ws = true) (hl : ws.length < 6) : Cg (Sm t.length (fun k => chA t (ws ++ [(k : Int)]))) (chA t ws * isum 0 (t.getD 0 [])) := by
  obtain ⟨h1, h2, h3, h4⟩ := walk_facts h
  have h1' := h1
  simp only [restOk, Bool.and_eq_true] at h1'
  refine (Sm_Cg _ _ _ (fun k hk => (behind_one h hl hk).1)).trans (Cg.of_eq ?_)
  rw [Sm_mul, en_row h1'.1 (last_in h4 h2).1]
theorem ahead_sum {t : List (List Int)} {ws : List Int} (h : walkOk t ws = true) (hl : ws.length < 6) : Cg (Sm t.length (fun k => chA t ((k : Int) :: ws))) (chA t ws * isum 0 (t.getD 0 [])) := by
  obtain ⟨h1, h2, h3, h4⟩ := walk_facts h
  refine (Sm_Cg _ _ _ (fun k hk => ahead_one h hl hk)).trans ?_
  rw [Sm_congr t.length _ (fun k => pw t ws * ((restV t).getD k 0 * en t k (ws.getD 0 0).toNat)) (fun k _ => Int.mul_comm _ _), Sm_mul, stat h1 (last_in h4 h2).2]
  simp only [chA, h, if_true]
  have := (chTop_pw t ws ((restV t).getD (ws.getD 0 0).toNat 0)).symm.mul (Cg.refl (isum 0 (t.getD 0 [])))
  refine (Cg.of_eq ?_).trans this
  rw [Int.mul_left_comm, Int.mul_comm (pw t ws), Int.mul_comm (isum 0 (t.getD 0 []))]
/-- What the law asks. -/
theorem adds_up {x y s b l : Int} (hb : Cg b (x * s)) (hl : Cg l (y * s)) : wrap64 (b * y) = wrap64 (x * l) := by
  refine ((hb.mul (Cg.refl y)).trans ((Cg.of_eq ?_).trans ((Cg.refl x).mul hl.symm))).eq
  rw [Int.mul_assoc, Int.mul_comm s y]
end Go.Proofs.Ytjkpndhfdlnpdaa
