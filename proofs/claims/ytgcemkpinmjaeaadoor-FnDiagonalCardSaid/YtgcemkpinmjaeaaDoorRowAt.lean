/- A new row is pushed: which blocks have changed. -/
import Derived.Test.YtgcemkpinmjaeaaDoorProg
import Derived.Test.YtgcemkpinmjaeaaDoorBase
namespace Go.Proofs.YtgcemkpinmjaeaaDoor
open Go.RowKit
set_option linter.all false
theorem wpList_push_rowC {ops : Array Oper} {rest : List Oper} {o : Oper} {a : Act} {Q : Exit → Act → World → Prop} (W : World) (u : Value) (wr : World) (hgd : o.guard = none) (s x : Operand)
    (ho : o.op = .call { callee := .builtin .append, args := #[s, x], argTypes := #[24, 24] })
    (lo : Nat) (v : Value) (n : Nat) (xss : List (List Int)) (hs : a.eval s = v) (h : OIntss wr lo v n xss) (hn : n + 1 ≤ 1099511627776) (hlo : lo ≤ wr.heap.size) (hW : Below wr.heap.size wr W)
    (m : Nat) (r : List Int) (hu : OInts W wr.heap.size u m r) (tb : Nat) (htb : tb = W.heap.size) (hx : a.eval x = .slice (some ⟨tb, 0, none⟩) 1 1)
    (K : ∀ v' w', OIntss w' lo v' (n + 1) (xss ++ [r]) → W.grownBy w' v.ownBlock → NewOr W.heap.size v v' → wpList Tryd.prog ops Q rest (a.put o.dst v') w') : wpList Tryd.prog ops Q (o :: rest) a (W.alloc (.cells #[u] 26)) := by
  subst htb
  have hml := hu.len
  subst hml
  have hW2 : Below wr.heap.size wr (W.alloc (.cells #[u] 26)) := hW.alloc hW.size _
  obtain ⟨i0, hi, hz0, hz1, hz2⟩ := info_parts info_ints
  have hk := h.keep hW2
  have hu2 := (hu.alloc (.cells #[u] 26)).mono hlo
  have hfar := far_new h hW2 fun b hb => (hu.ownlt b hb).1
  obtain ⟨h1, h2, vs, hv, hr, hd⟩ := hk
  have hone : u.oneCell' = true := by
    rcases hu.2.2 with ⟨rfl, _⟩ | ⟨_, _, _, rfl, _⟩ <;> rfl
  refine wpList_plain hgd fun K' hK => ?_
  obtain ⟨v', w', hrun, q2, q3, _, q5⟩ := run_append_own_at (P := Tryd.prog) (W.alloc (.cells #[u] 26)) lo 24 o.type 26 i0 (.slice none 0 0) 1 24 Tryd.underlying24 hi hz0 hz1 hz2 rfl (by decide) v n vs hv ⟨W.heap.size, 0, none⟩ 1 1 [u] rfl
    (by
      intro j u' hj
      match j, hj with
      | 0, hj =>
        simp at hj
        subst hj
        exact World.cell?_alloc_new _ _ _ _)
    (by
      intro u' hu'
      simp at hu'
      subst hu'
      exact hone) (by unfold maxLen; omega) (by omega) (by simp; have := hW.size; omega)
  unfold Oper.wp execOp
  simp only [ho, resolve, invoke, builtin, Sem.run_bind, Sem.run_pure, Result.andThen_ok, List.map_toArray, List.map_cons, List.map_nil, hs, hx, hrun]
  refine hK _ _ (K v' w' ?_ ((grown_alloc W _ _).trans q3) ?_)
  · exact OIntss.pushed ⟨h1, h2, vs, hv, hr, hd⟩ hn hu2 hfar q3 fun vs' hv' => by rw [own_unique hv' hv]; exact q2
  · rcases q5 with h5 | h5
    · exact .inl h5
    · exact .inr ⟨_, h5, by simp⟩
end Go.Proofs.YtgcemkpinmjaeaaDoor
