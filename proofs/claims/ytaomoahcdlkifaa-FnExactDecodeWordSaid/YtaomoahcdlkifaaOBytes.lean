/- OBytes: a part of the proofs of this seat. -/
import Derived.Laws.BytesString
import Derived.Laws.Cells
import Derived.Test.YtaomoahcdlkifaaProg
import Derived.Test.YtaomoahcdlkifaaEncT
import Derived.Test.YtaomoahcdlkifaaBase
namespace Go.Proofs.Ytaomoahcdlkifaa
open Go.RowKit
set_option linter.all false
/- A slice of bytes of the call's own. -/
theorem info_byte : (Try.prog.info? 5).map (fun i => (i.zero, i.size, i.bytes)) = some (some (.int .u8 0), 1, 1) := by kernel_rfl
theorem info_byte_parts : ∃ i, Try.prog.info? 5 = some i ∧ i.zero = some (.int .u8 0) ∧ i.size = 1 ∧ i.bytes = 1 := info_parts info_byte
def OBytes (w : World) (lo : Nat) (v : Value) (n : Nat) (xs : List Int) : Prop := n ≤ 1099511627776 ∧ w.ownsRow lo 5 1 v n (xs.map (Value.int .u8))
section
variable {w w' : World} {lo n : Nat} {v : Value} {xs : List Int}
theorem OBytes.len (h : OBytes w lo v n xs) : xs.length = n := by simpa using h.2.1
theorem OBytes.keep (h : OBytes w lo v n xs) (hb : Below w.heap.size w w') : OBytes w' lo v n xs := ⟨h.1, own_keep h.2 hb⟩
theorem OBytes.alloc (h : OBytes w lo v n xs) (o : Obj) : OBytes (w.alloc o) lo v n xs := ⟨h.1, h.2.alloc o⟩
theorem OBytes.ownlt (h : OBytes w lo v n xs) : ∀ k, v.ownBlock = some k → lo ≤ k ∧ k < w.heap.size := h.2.lt
theorem OBytes.empty (w : World) (lo : Nat) (hlo : lo ≤ w.heap.size) : OBytes (w.alloc (.cells #[] 5)) lo (.slice (some ⟨w.heap.size, 0, none⟩) 0 0) 0 [] := by
  refine ⟨by omega, ?_⟩
  have h := World.ownsRow_made (base := lo) (e := 5) (size := 1) w #[] 0 hlo (by unfold maxLen; omega) rfl
  simpa using h
theorem OBytes.form (h : OBytes w lo v n xs) : ∃ ao cap, v = .slice ao n cap := by
  rcases h.2.2 with ⟨rfl, rfl⟩ | ⟨g, cap, cur, rfl, _⟩
  · exact ⟨none, 0, rfl⟩
  · exact ⟨some ⟨g, 0, none⟩, cap, rfl⟩
end
theorem push_byte_grown {w w' : World} {lo n : Nat} {v : Value} {xs : List Int} (h : OBytes w lo v n xs) (hlo : lo ≤ w.heap.size) (o : Obj) (hg : (w.alloc o).grownBy w' v.ownBlock) : Below lo w w' :=
  ((Below.refl lo w).alloc hlo o).grown hg (by simp; omega) (fun k hk => (h.ownlt k hk).1)
theorem wpList_push_byte {ops : Array Oper} {rest : List Oper} {o : Oper} {a : Act} {Q : Exit → Act → World → Prop} (W : World) (y : Int) (hgd : o.guard = none) (s x : Operand)
    (ho : o.op = .call { callee := .builtin .append, args := #[s, x], argTypes := #[67, 67] })
    (lo : Nat) (v : Value) (n : Nat) (xs : List Int) (hs : a.eval s = v) (h : OBytes W lo v n xs) (hn : n + 1 ≤ 1099511627776) (hlo : lo ≤ W.heap.size)
    (tb : Nat) (htb : tb = W.heap.size) (hx : a.eval x = .slice (some ⟨tb, 0, none⟩) 1 1)
    (K : ∀ v' w', OBytes w' lo v' (n + 1) (xs ++ [y]) → Below lo W w' → W.grownBy w' v.ownBlock → wpList Try.prog ops Q rest (a.put o.dst v') w') : wpList Try.prog ops Q (o :: rest) a (W.alloc (.cells #[.int .u8 y] 5)) := by
  subst htb
  obtain ⟨i0, hi, hz0, hz1, hz2⟩ := info_byte_parts
  refine wpList_append_own _ hgd s x 67 ho lo 5 i0 (.int .u8 0) 1 1 Try.underlying67 hi hz0 hz1 hz2 rfl (by decide) v n _ hs (h.alloc _).2 ⟨W.heap.size, 0, none⟩ 1 1 [.int .u8 y] hx rfl ?_ ?_ ?_ ?_ (by simp; omega) ?_
  · intro j u' hj
    match j, hj with
    | 0, hj =>
      simp at hj
      subst hj
      exact World.cell?_alloc_new _ _ _ _
  · intro u' hu'
    simp at hu'
    subst hu'
    rfl
  · unfold maxLen; omega
  · omega
  · intro v' w' hown hgrow _
    refine K v' w' ⟨hn, ?_⟩ (push_byte_grown h hlo _ hgrow) ((grown_alloc W _ _).trans hgrow)
    rw [List.map_append]
    exact hown
theorem foldl_push : ∀ (ls : List Int) (s : ByteArray), (ls.map (fun l => 97 + l)).foldl (fun r n => r.push (UInt8.ofNat n.toNat)) s = ⟨s.data ++ (ls.map fun l => UInt8.ofNat (97 + l).toNat).toArray⟩
  | [], s => by simp
  | l :: r, s => by
    rw [List.map_cons, List.foldl_cons, foldl_push r]
    simp [ByteArray.push]
theorem foldl_str (ls : List Int) (h : ∀ l ∈ ls, 0 ≤ l) : (ls.map (fun l => 97 + l)).foldl (fun r n => r.push (UInt8.ofNat n.toNat)) ByteArray.empty = strOf ls := by
  rw [foldl_push, strOf]
  congr 1
  have e : (ls.map fun l => UInt8.ofNat (97 + l).toNat) = ls.map fun l => UInt8.ofNat (97 + l.toNat) := by
    apply List.map_congr_left
    intro l hl
    have := h l hl
    congr 1
    omega
  rw [e]
  simp [ByteArray.empty, ByteArray.emptyWithCapacity]
  rfl
theorem conv_bytes (w : World) (lo n : Nat) (v : Value) (ls : List Int) (h : OBytes w lo v n (ls.map (fun l => 97 + l))) (h0 : ∀ l ∈ ls, 0 ≤ l) :
    (convert 67 9 v).run Try.prog w = .ok (.string (strOf ls)) w := by
  have hl := h.len
  rcases h.2.2 with ⟨rfl, rfl⟩ | ⟨g, cap, cur, rfl, _⟩
  · have e : ls = [] := List.eq_nil_of_length_eq_zero (by simpa using hl)
    subst e
    rw [run_convert_bytes_string w 67 9 5 _ _ _ Try.underlying67 Try.underlying5 Try.underlying9]
    simp [Conv.bytesToString, strOf]
    rfl
  · rw [run_convert_bytes_string w 67 9 5 _ _ _ Try.underlying67 Try.underlying5 Try.underlying9]
    have hc := run_loadCells_list (P := Try.prog) w ⟨g, 0, none⟩ ((ls.map (fun l => 97 + l)).map (Value.int .u8)) (fun j u hu => h.2.cells (g := g) rfl j u hu)
    rw [List.length_map, hl] at hc
    rw [run_bytesToString w ⟨g, 0, none⟩ n cap (ls.map (fun l => 97 + l)) hc, foldl_str ls h0]
end Go.Proofs.Ytaomoahcdlkifaa
