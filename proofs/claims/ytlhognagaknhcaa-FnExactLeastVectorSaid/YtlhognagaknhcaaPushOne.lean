/- 'out = append(out, y)' for a slice of ints of the call's own, the cell of y just made. -/
import Derived.Test.YtlhognagaknhcaaProg
import Derived.Test.YtlhognagaknhcaaSteps
namespace Go.Proofs.Ytlhognagaknhcaa
open Go.RowKit
set_option linter.all false
theorem push_one_grown {w w' : World} {lo n : Nat} {v : Value} {xs : List Int} (h : OInts w lo v n xs) (hlo : lo ≤ w.heap.size) (o : Obj) (hg : (w.alloc o).grownBy w' v.ownBlock) : Below lo w w' :=
  ((Below.refl lo w).alloc hlo o).grown hg (by simp; omega) (fun k hk => (h.ownlt k hk).1)

theorem wpList_push_one {ops : Array Oper} {rest : List Oper} {o : Oper} {a : Act} {Q : Exit → Act → World → Prop} (W : World) (y : Int) (hgd : o.guard = none) (s x : Operand)
    (ho : o.op = .call { callee := .builtin .append, args := #[s, x], argTypes := #[24, 24] })
    (lo : Nat) (v : Value) (n : Nat) (xs : List Int) (hs : a.eval s = v) (h : OInts W lo v n xs) (hn : n + 1 ≤ 1099511627776) (hlo : lo ≤ W.heap.size)
    (tb : Nat) (htb : tb = W.heap.size) (hx : a.eval x = .slice (some ⟨tb, 0, none⟩) 1 1)
    (K : ∀ v' w', OInts w' lo v' (n + 1) (xs ++ [y]) → Below lo W w' → wpList Try.prog ops Q rest (a.put o.dst v') w') : wpList Try.prog ops Q (o :: rest) a (W.alloc (.cells #[.int .i64 y] 3)) := by
  subst htb
  refine wpList_push_int _ hgd s x ho lo v n xs hs (h.alloc _) hn W.heap.size y hx (World.cell?_alloc_new _ _ _ _) (by simp; omega) ?_
  intro v' w' hown hg
  exact K v' w' hown (push_one_grown h hlo _ hg)

theorem wp_push_one {o : Oper} {a : Act} {K0 : Act → World → Prop} {Q : Exit → Act → World → Prop} (W : World) (y : Int) (s x : Operand)
    (ho : o.op = .call { callee := .builtin .append, args := #[s, x], argTypes := #[24, 24] })
    (lo : Nat) (v : Value) (n : Nat) (xs : List Int) (hs : a.eval s = v) (h : OInts W lo v n xs) (hn : n + 1 ≤ 1099511627776) (hlo : lo ≤ W.heap.size)
    (tb : Nat) (htb : tb = W.heap.size) (hx : a.eval x = .slice (some ⟨tb, 0, none⟩) 1 1)
    (K : ∀ v' w', OInts w' lo v' (n + 1) (xs ++ [y]) → Below lo W w' → K0 (a.put o.dst v') w') : o.wp Try.prog a (W.alloc (.cells #[.int .i64 y] 3)) K0 Q := by
  subst htb
  refine wp_push_int _ s x ho lo v n xs hs (h.alloc _) hn W.heap.size y hx (World.cell?_alloc_new _ _ _ _) (by simp; omega) ?_
  intro v' w' hown hg
  exact K v' w' hown (push_one_grown h hlo _ hg)
end Go.Proofs.Ytlhognagaknhcaa
