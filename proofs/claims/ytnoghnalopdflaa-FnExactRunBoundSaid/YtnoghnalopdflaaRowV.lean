/- A slice of slices of the call's own, the rows of which lie elsewhere. -/
import Derived.Test.YtnoghnalopdflaaProg
import Derived.Test.YtnoghnalopdflaaBase
namespace Go.Proofs.Ytnoghnalopdflaa
open Go.RowKit
set_option linter.all false
def RowsAt (w : World) (vs : List Value) (xss : List (List Int)) : Prop :=
  vs.length = xss.length ∧ ∀ (i : Nat) (u : Value) (r : List Int), vs[i]? = some u → xss[i]? = some r → ∃ ai ci, u = .slice ai r.length ci ∧ Ints w ai r.length r ∧ r.length ≤ ci
theorem RowsAt.nil (w : World) : RowsAt w [] [] := ⟨rfl, fun i u r h => by simp at h⟩
theorem RowsAt.push {w : World} {vs : List Value} {xss : List (List Int)} {r : List Int} {ai : Option Addr} {ci : Nat} (h : RowsAt w vs xss) (hr : Ints w ai r.length r) (hc : r.length ≤ ci) : RowsAt w (vs ++ [.slice ai r.length ci]) (xss ++ [r]) := by
  refine ⟨by simp [h.1], fun i u r' hu hx => ?_⟩
  by_cases hi : i < vs.length
  · rw [List.getElem?_append_left hi] at hu
    rw [List.getElem?_append_left (by rw [← h.1]; exact hi)] at hx
    exact h.2 i u r' hu hx
  · rw [List.getElem?_append_right (by omega)] at hu
    rw [List.getElem?_append_right (by rw [← h.1]; omega), ← h.1] at hx
    have hz : i - vs.length = 0 := by
      have := (List.getElem?_eq_some_iff.1 hu).1
      simp at this
      omega
    rw [hz] at hu hx
    simp at hu hx
    subst hu
    subst hx
    exact ⟨ai, ci, rfl, hr, hc⟩
theorem own_rows {w w' : World} {lo n : Nat} {v : Value} {vs : List Value} {xss : List (List Int)} (ho : w'.ownsRow lo 68 1 v n vs) (hn : n ≤ 1099511627776) (h : RowsAt w vs xss) (hb : Below w.heap.size w w') : ∃ ao cap, v = .slice ao n cap ∧ Intss w' ao n xss := by
  have hvl : vs.length = n := by simpa using ho.1
  rcases ho.2 with ⟨rfl, rfl⟩ | ⟨g, cap, cur, rfl, hg, hh, hnc, _, _, ht⟩
  · refine ⟨none, 0, rfl, by rw [← h.1]; exact hvl, by omega, fun i r hi => ?_⟩
    have := (List.getElem?_eq_some_iff.1 hi).1
    rw [← h.1] at this
    omega
  · refine ⟨some ⟨g, 0, none⟩, cap, rfl, by rw [← h.1]; exact hvl, hn, fun i r hi => ?_⟩
    have hil : i < vs.length := by rw [h.1]; exact (List.getElem?_eq_some_iff.1 hi).1
    have hv : vs[i]? = some vs[i] := List.getElem?_eq_getElem hil
    obtain ⟨ai, ci, e, hr, hc⟩ := h.2 i _ r hv hi
    have hcl := ho.cells (g := g) rfl i _ hv
    rw [Addr.add_lit, e] at hcl
    exact ⟨g, 0, ai, ci, rfl, hcl, hr.keep hb, hc⟩
theorem wpList_push_val {ops : Array Oper} {rest : List Oper} {o : Oper} {a : Act} {Q : Exit → Act → World → Prop} (W : World) (u : Value) (hgd : o.guard = none) (s x : Operand)
    (ho : o.op = .call { callee := .builtin .append, args := #[s, x], argTypes := #[49, 49] })
    (lo : Nat) (v : Value) (n : Nat) (vs : List Value) (hs : a.eval s = v) (h : W.ownsRow lo 68 1 v n vs) (hn : n + 1 ≤ 1099511627776) (hlo : lo ≤ W.heap.size) (hone : u.oneCell' = true)
    (tb : Nat) (htb : tb = W.heap.size) (hx : a.eval x = .slice (some ⟨tb, 0, none⟩) 1 1)
    (K : ∀ v' w', w'.ownsRow lo 68 1 v' (n + 1) (vs ++ [u]) → Below lo W w' → wpList Try.prog ops Q rest (a.put o.dst v') w') : wpList Try.prog ops Q (o :: rest) a (W.alloc (.cells #[u] 68)) := by
  subst htb
  obtain ⟨i0, hi, hz0, hz1, hz2⟩ := info_parts info_ints
  refine wpList_append_own _ hgd s x 49 ho lo 68 i0 (.slice none 0 0) 1 24 Try.underlying49 hi hz0 hz1 hz2 rfl (by decide) v n vs hs (h.alloc _) ⟨W.heap.size, 0, none⟩ 1 1 [u] hx rfl ?_ ?_ ?_ ?_ (by simp; omega) ?_
  · intro j u' hj
    match j, hj with
    | 0, hj =>
      simp at hj
      subst hj
      exact World.cell?_alloc_new _ _ _ _
  · intro u' hu'
    simp at hu'
    subst hu'
    exact hone
  · unfold maxLen; omega
  · omega
  · intro v' w' hown hgrow _
    exact K v' w' hown (((Below.refl lo W).alloc hlo _).grown hgrow (by simp; omega) (fun k hk => (h.lt k hk).1))
theorem elem_intss : Try.prog.elem 49 = 68 := by kernel_rfl
theorem sizeOf_ints (w : World) : (sizeOf 68).run Try.prog w = .ok 1 w := by
  obtain ⟨i, hi, _, hz, _⟩ := info_parts info_ints
  simp [sizeOf, typeInfo, hi, hz]
theorem slice_to2 (a : Option Addr) (len cap j : Nat) (hj : j ≤ cap) (w : World) :
    (Instr.slice 49 (.slice a len cap) none (some (.int .i64 (j : Int))) none).run Try.prog w = .ok (.slice a j cap) w := by
  rw [run_slice_h (P := Try.prog) w 49 a len cap (by rw [elem_intss]; exact Try.underlying49) .i64 (j : Int) (by omega) (by omega), elem_intss, sizeOf_ints]
  cases a <;> simp [sliced, Result.andThen, Addr.add]
theorem Intss.capLe {w : World} {lo n : Nat} {v : Value} {xss : List (List Int)} {ao : Option Addr} {m cap : Nat} (h : OIntss w lo v n xss) (e : v = .slice ao m cap) : n ≤ cap := by
  obtain ⟨_, _, vs, ho, _⟩ := h
  rcases ho.2 with ⟨rfl, rfl⟩ | ⟨g, c, cur, rfl, _, _, hnc, _⟩
  · exact Nat.zero_le _
  · injection e with _ _ e3
    omega
end Go.Proofs.Ytnoghnalopdflaa
