/- A region that draws its order, whose last operation t waits for all others: a condition S on the world is kept by all operations but t. Nothing of the program stands here. -/
import Derived.Deep.RegionHeld3
import Derived.WalkKit
import Derived.Test.YtgcemkpinmjaeaaProg
namespace Go.Proofs.Ytgcemkpinmjaeaa
open Go.RowKit
set_option linter.all false
section
variable {P : Program} {ops : Array Oper} {Q : Exit → Act → World → Prop} {md : Region.Mode} {S : World → Prop} {t : Nat}
def anyT (P : Program) (md : Region.Mode) (ops : Array Oper) (Q : Exit → Act → World → Prop) (S : World → Prop) (t : Nat) : Nat → Array Bool → Act → World → Prop
  | 0, L, a, w => Region.ready md ops L = [] ∧ Q .normal a w
  | n + 1, L, a, w => (Region.ready md ops L = [] → Q .normal a w) ∧ ∀ j ∈ Region.ready md ops L, wpOp P ops Q j (fun a' w' => (j ≠ t → S w') ∧ anyT P md ops Q S t n (L.setIfInBounds j true) a' w') a w
theorem anyT_any : ∀ (n : Nat) (L : Array Bool) (a : Act) (w : World), anyT P md ops Q S t n L a w → wpAny P md ops Q n L a w
  | 0, _, _, _, h => h
  | n + 1, _, _, _, h => ⟨h.1, fun j hj => wpOp_mono (fun a' w' h' => anyT_any n _ a' w' h'.2) (h.2 j hj)⟩
theorem region_T {id : Nat} {a : Act} {w : World} (hm : P.follows .mixedOrders = true) (h : anyT P .any ops Q S t ops.size (Array.replicate ops.size false) a w.drew) : (Code.region id ops true).wp P Q a w :=
  wp_region_any hm (anyT_any _ _ _ _ h)
/-- Nobody who is ready while i has not come up waits for i. -/
theorem ready_not {L : Array Bool} {i j : Nat} {o : Oper} (hi : i ∈ Region.ready md ops L) (hj : j ∈ Region.ready md ops L) (ho : ops[j]? = some o) : ∀ e ∈ o.after, Region.binds md e = true → e.on ≠ i := by
  obtain ⟨_, o', ho', hall⟩ := mem_ready.1 hj
  rw [ho] at ho'
  injection ho' with ho'
  subst ho'
  intro e he hb heq
  have h1 := hall e he hb
  have h0 := (mem_ready.1 hi).1
  subst heq
  by_cases hl : e.on < L.size
  · simp [hl] at h0 h1
    rw [h0] at h1
    cases h1
  · simp [Array.getElem?_eq_none (Nat.le_of_not_lt hl)] at h1
theorem anyT_first {i : Nat} {oi : Oper} {v : Value} (hi : ops[i]? = some oi) (hsel : ∀ (j : Nat) (o : Oper) cs b, ops[j]? = some o → o.op ≠ .select cs b)
    (hQ : ∀ c a w, Q (.panic c) (a.put oi.dst v) w → Q (.panic c) a w) (ht : ∀ o, ops[t]? = some o → ∃ e ∈ o.after, Region.binds md e = true ∧ e.on = i) :
    ∀ (n : Nat) (L : Array Bool) (a : Act) (w : World),
      (∀ j oj, ops[j]? = some oj → j ≠ i → L.getD j true = false → (∀ e ∈ oj.after, Region.binds md e = true → e.on ≠ i) → oi.apart ops oj = true) →
      i ∈ Region.ready md ops L → YieldsIf P ops S oi v a → S w → anyT P md ops Q S t n (L.setIfInBounds i true) (a.put oi.dst v) w → anyT P md ops Q S t (n + 1) L a w := by
  intro n
  induction n with
  | zero =>
    intro L a w _ hr hy hS H
    refine ⟨fun h => absurd hr (by rw [h]; simp), fun j hj => ?_⟩
    rcases Nat.decEq j i with hji | hji
    · have := ready_mono hj hji
      rw [H.1] at this
      simp at this
    · subst hji
      exact hy.wpOp hi hS ⟨fun _ => hS, H⟩
  | succ n ih =>
    intro L a w hfree hr hy hS H
    refine ⟨fun h => absurd hr (by rw [h]; simp), fun j hj => ?_⟩
    rcases Nat.decEq j i with hji | hji
    · have hun := (mem_ready.1 hj).1
      obtain ⟨_, oj, hoj, _⟩ := mem_ready.1 hj
      have hno := ready_not hr hj hoj
      have hjt : j ≠ t := by
        rintro rfl
        obtain ⟨e, he, hb, heq⟩ := ht oj hoj
        exact hno e he hb heq
      have step := wpOp_putIf hoj (hfree j oj hoj hji hun hno) (fun cs b => hsel i oi cs b hi) (fun cs b => hsel j oj cs b hoj) hQ hy (H.2 j (ready_mono hj hji))
      refine wpOp_mono (fun a' w' h => ⟨h.2.1, ih (L.setIfInBounds j true) a' w' ?_ (ready_mono hr (Ne.symm hji)) h.1 (h.2.1 hjt) ?_⟩) step
      · intro k ok hk hki hunk hnok
        refine hfree k ok hk hki ?_ hnok
        rcases Nat.decEq j k with hjk | hjk
        · rwa [getD_set_ne true hjk] at hunk
        · rw [← hjk]; exact hun
      · rw [Array.setIfInBounds_comm _ _ hji]
        exact h.2.2
    · subst hji
      exact hy.wpOp hi hS ⟨fun _ => hS, H⟩
/-- Does operation t wait for operation i? -/
def waitsB (md : Region.Mode) (ops : Array Oper) (t i : Nat) : Bool := match ops[t]? with
  | some o => o.after.any fun e => Region.binds md e && e.on == i
  | none => true
theorem waits_spec {i : Nat} (h : waitsB md ops t i = true) : ∀ o, ops[t]? = some o → ∃ e ∈ o.after, Region.binds md e = true ∧ e.on = i := by
  intro o ho
  simp only [waitsB, ho, Array.any_eq_true', Bool.and_eq_true, beq_iff_eq] at h
  obtain ⟨e, he, hb, hon⟩ := h
  exact ⟨e, he, hb, hon⟩
theorem anyT_take {i : Nat} {oi : Oper} {v : Value} {n : Nat} {L : Array Bool} {a : Act} {w : World} (hi : ops[i]? = some oi)
    (hs : Region.noSelect ops = true) (hf : Region.free md ops L i = true) (hr : (Region.ready md ops L).contains i = true) (hw : waitsB md ops t i = true)
    (hQ : ∀ c a w, Q (.panic c) (a.put oi.dst v) w → Q (.panic c) a w) (hy : YieldsIf P ops S oi v a) (hS : S w)
    (h : anyT P md ops Q S t n (L.setIfInBounds i true) (a.put oi.dst v) w) : anyT P md ops Q S t (n + 1) L a w :=
  anyT_first hi (Region.noSelect_spec hs) hQ (waits_spec hw) n L a w (Region.free_spec hi hf) (by simpa using hr) hy hS h
/-- One operation alone may come up. -/
theorem anyT_one {i : Nat} {oi : Oper} {n : Nat} {L : Array Bool} {a : Act} {w : World} (hr : Region.ready md ops L = [i]) (hi : ops[i]? = some oi)
    (h : ∀ K : Act → World → Prop, (∀ a' w', (i ≠ t → S w') → anyT P md ops Q S t n (L.setIfInBounds i true) a' w' → K a' w') → if Region.wanted oi (yielded ops a.tmps) = true then Oper.wp P oi a w K Q else K (a.put oi.dst undef) w) : anyT P md ops Q S t (n + 1) L a w := by
  refine ⟨fun h0 => absurd h0 (by rw [hr]; simp), fun j hj => ?_⟩
  rw [hr] at hj
  obtain rfl := List.mem_singleton.1 hj
  exact wpOp_step hi fun K hK => h K fun a' w' h1 h2 => hK a' w' ⟨h1, h2⟩
/-- Two operations may come up. -/
theorem anyT_two {i k : Nat} {oi ok : Oper} {n : Nat} {L : Array Bool} {a : Act} {w : World} (hr : Region.ready md ops L = [i, k]) (hi : ops[i]? = some oi) (hk : ops[k]? = some ok)
    (h : ∀ K : Act → World → Prop, (∀ a' w', (i ≠ t → S w') → anyT P md ops Q S t n (L.setIfInBounds i true) a' w' → K a' w') → if Region.wanted oi (yielded ops a.tmps) = true then Oper.wp P oi a w K Q else K (a.put oi.dst undef) w)
    (h2 : ∀ K : Act → World → Prop, (∀ a' w', (k ≠ t → S w') → anyT P md ops Q S t n (L.setIfInBounds k true) a' w' → K a' w') → if Region.wanted ok (yielded ops a.tmps) = true then Oper.wp P ok a w K Q else K (a.put ok.dst undef) w) : anyT P md ops Q S t (n + 1) L a w := by
  refine ⟨fun h0 => absurd h0 (by rw [hr]; simp), fun j hj => ?_⟩
  rw [hr] at hj
  rcases List.mem_cons.1 hj with rfl | hj
  · exact wpOp_step hi fun K hK => h K fun a' w' h1 h2 => hK a' w' ⟨h1, h2⟩
  · obtain rfl := List.mem_singleton.1 hj
    exact wpOp_step hk fun K hK => h2 K fun a' w' h1 h2 => hK a' w' ⟨h1, h2⟩
theorem anyT_at {n : Nat} {L : Array Bool} {a : Act} {W : World} (R : World → Prop) (hR : R W) (h : ∀ W, R W → anyT P md ops Q S t n L a W) : anyT P md ops Q S t n L a W := h W hR
theorem anyT_done {L : Array Bool} {n : Nat} {a : Act} {w : World} (hr : Region.ready md ops L = []) (h : Q .normal a w) : anyT P md ops Q S t n L a w := by
  cases n with
  | zero => exact ⟨hr, h⟩
  | succ n => exact ⟨fun _ => h, by rw [hr]; simp⟩
end
end Go.Proofs.Ytgcemkpinmjaeaa
