/- A vertex is put ahead of another one. -/
import Derived.Test.YtlhognagaknhcaaSums
import Derived.Test.YtlhognagaknhcaaBase
namespace Go.Proofs.Ytlhognagaknhcaa
open Go.RowKit
set_option linter.all false
def strRow (i : Nat) (r : List Int) : List Int := (r ++ [r.getD i 0]).set i 0
def strT (i : Nat) (m : List (List Int)) : List (List Int) := m.map (strRow i)
def lastRow (n i : Nat) : List Int := (List.replicate (n + 1) 0).set i 1
def strOk (m : List (List Int)) (i : Int) : Bool := isMat m && (!(decide (m.length = 9)) && inR i 0 ((m.length : Int) - 1))
def strV (m : List (List Int)) (i : Int) : List (List Int) := if strOk m i then strT i.toNat m ++ [lastRow m.length i.toNat] else []
theorem strT_len (i : Nat) (m : List (List Int)) : (strT i m).length = m.length := by simp [strT]
theorem strT_get {i k : Nat} {m : List (List Int)} {r : List Int} (h : m[k]? = some r) : (strT i m)[k]? = some (strRow i r) := by simp [strT, h]
theorem strRow_len (i : Nat) (r : List Int) : (strRow i r).length = r.length + 1 := by simp [strRow]
theorem lastRow_len (n i : Nat) : (lastRow n i).length = n + 1 := by simp [lastRow]
theorem strV_tot {m : List (List Int)} {i : Int} : tot (strV m i) ≤ 1000000000 := by
  unfold strV
  cases h : strOk m i
  · simp [tot]
  · simp only [if_true]
    have hm : isMat m = true := by simp only [strOk, Bool.and_eq_true] at h; exact h.1
    have hl := isMat_len hm
    have h1 : ∀ (l : List (List Int)), (∀ r ∈ l, r.length ≤ 10) → tot l ≤ 10 * l.length := by
      intro l
      induction l with
      | nil => intro _; simp [tot]
      | cons r rs ih =>
        intro h
        have a1 := h r (by simp)
        have a2 := ih (fun q hq => h q (by simp [hq]))
        rw [tot_cons]
        simp only [List.length_cons]
        omega
    have h2 := h1 (strT i.toNat m ++ [lastRow m.length i.toNat]) (by
      intro r hr
      rcases List.mem_append.1 hr with hr | hr
      · obtain ⟨q, hq, rfl⟩ := List.mem_map.1 hr
        obtain ⟨k, hk⟩ := List.getElem?_of_mem hq
        rw [strRow_len, (isMat_row hm hk).1]
        omega
      · simp only [List.mem_singleton] at hr
        subst hr
        rw [lastRow_len]
        omega)
    simp only [List.length_append, strT_len, List.length_singleton] at h2
    omega
/-- One row has grown by an append and is stored again. -/
theorem OIntss.pushIn {w w' : World} {lo g n cap k : Nat} {xss : List (List Int)} {r r' : List Int} {u u' : Value} (h : OIntss w lo (.slice (some ⟨g, 0, none⟩) n cap) n xss) (hk : xss[k]? = some r) (hc : w.cell? ⟨g, k, none⟩ = some u)
    (hu : OInts w' lo u' r'.length r') (hg : w.grownBy w' u.ownBlock) (hnw : NewOr w.heap.size u u') : OIntss (w'.setCell ⟨g, k, none⟩ u') lo (.slice (some ⟨g, 0, none⟩) n cap) n (xss.set k r') := by
  obtain ⟨h1, h2, vs, hv, hr, hd⟩ := h
  have hvl : vs.length = n := by simpa using hv.1
  have hkn : k < n := by rw [← h2]; exact (List.getElem?_eq_some_iff.1 hk).1
  have hvk : vs[k]? = some u := by
    have h3 : vs[k]? = some vs[k] := List.getElem?_eq_getElem (by omega)
    have h4 := hv.cells (g := g) rfl k _ h3
    rw [Addr.add_lit] at h4
    simp at h4
    rw [h4] at hc
    injection hc with hc
    rw [h3, hc]
  have hou := hr k u r hvk hk
  have hne : (Value.slice (some ⟨g, 0, none⟩) n cap).ownBlock = none ∨ (Value.slice (some ⟨g, 0, none⟩) n cap).ownBlock ≠ u.ownBlock := by
    right
    intro e
    rcases own_int_ne hou hv with e2 | e2
    · rw [e2] at e; simp [Value.ownBlock] at e
    · exact e2 e.symm
  have hv' := hv.kept hg hne
  have hst := hv'.stored k u'
  refine ⟨h1, by simpa using h2, vs.set k u', hst.1, ?_, ?_⟩
  · intro i q s hq hs
    rw [List.getElem?_set] at hq hs
    by_cases e : k = i
    · subst e
      rw [if_pos rfl] at hq hs
      split at hq <;> split at hs <;> simp_all
      subst hq
      subst hs
      exact hu.grown hst.2 (by
        rcases own_int_ne hu hv' with e2 | e2
        · exact .inl e2
        · right; intro e3; exact e2 e3)
    · rw [if_neg e] at hq hs
      have h5 := (hr i q s hq hs).grown hg (hd i k q u (fun e2 => e e2.symm) hq hvk)
      exact h5.grown hst.2 (by
        rcases own_int_ne h5 hv' with e2 | e2
        · exact .inl e2
        · right; intro e3; exact e2 e3)
  · have key : ∀ (i : Nat) (q : Value), i ≠ k → vs[i]? = some q → Apart q u' := by
      intro i q hik hq
      have hi : i < xss.length := by rw [h2, ← hvl]; exact (List.getElem?_eq_some_iff.1 hq).1
      have hoq := hr i q _ hq (List.getElem?_eq_getElem hi)
      refine hnw.apart ?_ (fun b hb => (hoq.2.lt b hb).2)
      intro b hb e
      rcases hd i k q u hik hq hvk with e2 | e2
      · rw [e2] at hb; cases hb
      · exact e2 (by rw [hb, e])
    intro i j q1 q2 hij h3 h4
    rw [List.getElem?_set] at h3 h4
    by_cases ei : k = i
    · rw [if_pos ei] at h3
      rw [if_neg (by omega)] at h4
      split at h3
      · injection h3 with h3
        subst h3
        cases hb : u'.ownBlock with
        | none => exact .inl rfl
        | some b => right; exact fun e => key j q2 (by omega) h4 b e.symm hb
      · cases h3
    · rw [if_neg ei] at h3
      by_cases ej : k = j
      · rw [if_pos ej] at h4
        split at h4
        · injection h4 with h4
          subst h4
          exact (key i q1 (by omega) h3).ne
        · cases h4
      · rw [if_neg ej] at h4
        exact hd i j q1 q2 hij h3 h4
end Go.Proofs.Ytlhognagaknhcaa
