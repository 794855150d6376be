/- The greatest vector: all numbers begin alike and are made less, row by row, until nothing changes. -/
import Derived.Test.YtlhognagaknhcaaIsVec
namespace Go.Proofs.Ytlhognagaknhcaa
open Go.RowKit
set_option linter.all false
def mn (x y : Int) : Int := if x < y then x else y
def gstep (m : List (List Int)) (a : Int) (v : List Int) : List Int := List.zipWith (fun r y => mn y ((wdot 0 r v).tdiv a)) m v
def gv (m : List (List Int)) (a : Int) : Nat → List Int → List Int
  | 0, v => v
  | f + 1, v => if gstep m a v = v then v else gv m a f (gstep m a v)
/-- Of the same length, numbers from 0 to 9. -/
def Nine (n : Nat) (v : List Int) : Prop := v.length = n ∧ ∀ x ∈ v, 0 ≤ x ∧ x ≤ 9
theorem gstep_len {m : List (List Int)} {a : Int} {v : List Int} (h : v.length = m.length) : (gstep m a v).length = m.length := by
  simp [gstep, h]
theorem gstep_get {m : List (List Int)} {a y : Int} {v r : List Int} {i : Nat} (hr : m[i]? = some r) (hy : v[i]? = some y) : (gstep m a v)[i]? = some (mn y ((wdot 0 r v).tdiv a)) := by
  simp [gstep, List.getElem?_zipWith, hr, hy]
theorem wdot_bound : ∀ (r v : List Int) (a : Int), (∀ x ∈ r, 0 ≤ x ∧ x ≤ 1000000) → (∀ y ∈ v, 0 ≤ y ∧ y ≤ 9) → 0 ≤ a → a + 9000000 * (r.length : Int) ≤ 1099511627776 → 0 ≤ wdot a r v ∧ wdot a r v ≤ a + 9000000 * (r.length : Int)
  | [], v, a, _, _, h0, _ => by simp [wdot]; exact h0
  | x :: r, [], a, _, _, h0, h1 => by simp only [wdot, List.length_cons] at *; omega
  | x :: r, y :: v, a, hx, hy, h0, h1 => by
    have hx1 := hx x (by simp)
    have hy1 := hy y (by simp)
    have h2 : 0 ≤ x * y := Int.mul_nonneg hx1.1 hy1.1
    have h3 : x * y ≤ 9000000 := by
      have := Int.mul_le_mul hx1.2 hy1.2 hy1.1 (by omega)
      omega
    simp only [List.length_cons] at h1 ⊢
    have e1 : wrap64 (x * y) = x * y := wrap_id (by omega)
    have e2 : wrap64 (a + x * y) = a + x * y := wrap_id (by omega)
    unfold wdot
    rw [e1, e2]
    have := wdot_bound r v (a + x * y) (fun z hz => hx z (by simp [hz])) (fun z hz => hy z (by simp [hz])) (by omega) (by omega)
    omega
/-- One step keeps the numbers from 0 to 9; where it changes any, their sum is less. -/
theorem zip_less : ∀ (rs : List (List Int)) (v : List Int) (f : List Int → Int), rs.length = v.length → (∀ r ∈ rs, 0 ≤ f r) → (∀ x ∈ v, 0 ≤ x ∧ x ≤ 9) →
    (∀ x ∈ List.zipWith (fun r y => mn y (f r)) rs v, 0 ≤ x ∧ x ≤ 9) ∧ (List.zipWith (fun r y => mn y (f r)) rs v).sum ≤ v.sum ∧ (List.zipWith (fun r y => mn y (f r)) rs v ≠ v → (List.zipWith (fun r y => mn y (f r)) rs v).sum < v.sum)
  | [], [], _, _, _, _ => by simp
  | [], _ :: _, _, h, _, _ => by simp at h
  | _ :: _, [], _, h, _, _ => by simp at h
  | r :: rs, y :: v, f, hl, hf, hv => by
    have ih := zip_less rs v f (by simpa using hl) (fun r hr => hf r (by simp [hr])) (fun x hx => hv x (by simp [hx]))
    have h1 := hf r (by simp)
    have h2 := hv y (by simp)
    simp only [List.zipWith_cons_cons, List.sum_cons]
    have hm : 0 ≤ mn y (f r) ∧ mn y (f r) ≤ y := by unfold mn; split <;> omega
    refine ⟨?_, by omega, ?_⟩
    · intro x hx
      rcases List.mem_cons.1 hx with rfl | hx
      · omega
      · exact ih.1 x hx
    · intro hne
      by_cases e : mn y (f r) = y
      · have : List.zipWith (fun r y => mn y (f r)) rs v ≠ v := fun e2 => hne (by rw [e, e2])
        have := ih.2.2 this
        omega
      · omega
theorem gstep_nine {m : List (List Int)} {a : Int} {v : List Int} (hm : isMat m = true) (ha : 1 ≤ a) (hv : Nine m.length v) : Nine m.length (gstep m a v) ∧ (gstep m a v ≠ v → (gstep m a v).sum < v.sum) := by
  have hf : ∀ r ∈ m, 0 ≤ (wdot 0 r v).tdiv a := by
    intro r hr
    obtain ⟨k, hk⟩ := List.getElem?_of_mem hr
    have h1 := isMat_row hm hk
    have h2 := isMat_len hm
    have := wdot_bound r v 0 (fun x hx => by obtain ⟨j, hj⟩ := List.getElem?_of_mem hx; exact allIn_get h1.2 hj) hv.2 (by omega) (by omega)
    exact Int.tdiv_nonneg this.1 (by omega)
  have h := zip_less m v (fun r => (wdot 0 r v).tdiv a) hv.1.symm hf hv.2
  exact ⟨⟨gstep_len hv.1, h.1⟩, h.2.2⟩
theorem nine_sum : ∀ (v : List Int), (∀ x ∈ v, 0 ≤ x ∧ x ≤ 9) → 0 ≤ v.sum ∧ v.sum ≤ 9 * v.length
  | [], _ => by simp
  | x :: v, h => by
    have := nine_sum v (fun y hy => h y (by simp [hy]))
    have := h x (by simp)
    simp only [List.sum_cons, List.length_cons]
    omega
/-- What is still to come: enough steps are left for all that the sum can lose. -/
def gleft (v : List Int) : Nat := v.sum.toNat + 1
def gvN (m : List (List Int)) (a : Int) (v : List Int) : List Int := gv m a (gleft v) v
theorem gv_more {m : List (List Int)} {a : Int} (hm : isMat m = true) (ha : 1 ≤ a) : ∀ (f g : Nat) (v : List Int), Nine m.length v → v.sum.toNat < f → v.sum.toNat < g → gv m a f v = gv m a g v
  | 0, _, _, _, h, _ => by omega
  | _, 0, _, _, _, h => by omega
  | f + 1, g + 1, v, hv, h1, h2 => by
    unfold gv
    split
    · rfl
    · rename_i hne
      have h := gstep_nine hm ha hv
      have h3 := h.2 hne
      have h4 := nine_sum _ h.1.2
      exact gv_more hm ha f g _ h.1 (by omega) (by omega)
theorem gvN_same {m : List (List Int)} {a : Int} {v : List Int} (h : gstep m a v = v) : gvN m a v = v := by
  unfold gvN gleft gv
  rw [if_pos h]
theorem gvN_step {m : List (List Int)} {a : Int} {v : List Int} (hm : isMat m = true) (ha : 1 ≤ a) (hv : Nine m.length v) (h : gstep m a v ≠ v) : gvN m a (gstep m a v) = gvN m a v ∧ Nine m.length (gstep m a v) ∧ (gstep m a v).sum.toNat < v.sum.toNat := by
  have h1 := gstep_nine hm ha hv
  have h2 := h1.2 h
  have h3 := nine_sum _ h1.1.2
  refine ⟨?_, h1.1, by omega⟩
  have e : gvN m a v = gv m a v.sum.toNat (gstep m a v) := by
    unfold gvN gleft
    show (if gstep m a v = v then v else gv m a v.sum.toNat (gstep m a v)) = _
    rw [if_neg h]
  rw [e]
  exact gv_more hm ha _ _ _ h1.1 (by unfold gleft; omega) (by omega)
end Go.Proofs.Ytlhognagaknhcaa
