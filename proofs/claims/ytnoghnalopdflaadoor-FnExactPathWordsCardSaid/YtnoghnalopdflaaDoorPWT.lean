/- The words of paths. -/
import Derived.Test.YtnoghnalopdflaaDoorIPathP
import Derived.Test.YtnoghnalopdflaaDoorTxtT
namespace Go.Proofs.YtnoghnalopdflaaDoor
open Go.RowKit
set_option linter.all false
theorem arcsV_graph {m : List (List Int)} (h : isGraph m = true) : ((arcsV m).length : Int) = sumOf m := by
  simp only [arcsV, h, if_true]
  exact (graph_arcs h).2.2
theorem pathW_big {m : List (List Int)} {t : Int} (h : 10 < (arcsV m).length) : pathW m t = [] := by
  cases hg : isGraph m
  · simp [arcsV, hg] at h
  · have := arcsV_graph hg
    unfold pathW
    rw [if_pos (by omega)]
theorem pathW_not {m : List (List Int)} {t : Int} (h : pathsV m t = []) : pathW m t = [] := by
  unfold pathW
  split
  · rfl
  · rw [h]; rfl
theorem pathW_map {m : List (List Int)} {t : Int} (h : (arcsV m).length ≤ 10) : pathW m t = (pathsV m t).map txtP := by
  cases hg : isGraph m
  · have hp : pathsV m t = [] := by simp [pathsV, pathsOk, hg]
    rw [pathW_not hp, hp]; rfl
  · have := arcsV_graph hg
    unfold pathW
    rw [if_neg (by omega)]
theorem pathsV_mem {m p : List (List Int)} {q : List Int} {t : Int} (h : q ∈ pathsV m t) : 1 ≤ q.length ∧ q.length ≤ 6 ∧ Idx 60 q := by
  unfold pathsV at h
  split at h
  · rename_i hok
    simp only [pathsOk, Bool.and_eq_true] at hok
    have h2 := inR_true hok.2.1
    have h3 := graph_arcs hok.1
    have h4 := fillL_mem h (fun x hx => by simp at hx)
    have h5 := h4.1
    simp at h5
    exact ⟨by omega, by omega, fun x hx => by have := h4.2 x hx; omega⟩
  · simp at h
theorem txtP_step {p : List Int} {k : Nat} {x : Int} (h : p[k]? = some x) : txtP (p.take k) ++ decB x.toNat = txtP (p.take (k + 1)) := by
  rw [← push_take h]
  simp [txtP]
theorem txtP_all {p : List Int} {k : Nat} (h : p.length ≤ k) : txtP (p.take k) = txtP p := by rw [List.take_of_length_le h]
theorem txtP_size (p : List Int) (h : Idx 60 p) : (txtP p).size ≤ 20 * p.length := by
  have key : ∀ (p : List Int) (t : ByteArray), Idx 60 p → (p.foldl (fun t x => t ++ decB x.toNat) t).size ≤ t.size + 20 * p.length := by
    intro p
    induction p with
    | nil => intro t _; simp
    | cons x r ih =>
      intro t h
      rw [List.foldl_cons, List.length_cons]
      have h1 := ih (t ++ decB x.toNat) (fun y hy => h y (List.mem_cons_of_mem _ hy))
      have h0 := h x (List.mem_cons_self ..)
      have h2 := decB_size (u := x.toNat) (by omega)
      rw [ByteArray.size_append] at h1
      omega
  have := key p ⟨#[]⟩ h
  have e : (⟨#[]⟩ : ByteArray).size = 0 := rfl
  unfold txtP
  omega
theorem Idx.take {n : Nat} {p : List Int} (h : Idx n p) (k : Nat) : Idx n (p.take k) := fun x hx => h x (List.mem_of_mem_take hx)
def decL (p : List Int) : List ByteArray := p.map fun x => decB x.toNat
theorem joinTail_nil : ∀ r : List (List UInt8), Lib.joinTail [] r = r.flatten
  | [] => rfl
  | x :: r => by simp [Lib.joinTail]
theorem join_empty : ∀ r : List (List UInt8), Lib.join r [] = r.flatten
  | [] => by simp [Lib.join_nil]
  | x :: r => by rw [Lib.join_cons, joinTail_nil]; simp
theorem joinB_txt (p : List Int) : joinB (decL p) ⟨#[]⟩ = txtP p := by
  have key : ∀ (p : List Int) (t : ByteArray), (p.foldl (fun t x => t ++ decB x.toNat) t).data.toList = t.data.toList ++ ((decL p).map (·.data.toList)).flatten := by
    intro p
    induction p with
    | nil => intro t; simp [decL]
    | cons x r ih =>
      intro t
      rw [List.foldl_cons, ih]
      simp [decL, ByteArray.toList_data_append]
  have h := key p ⟨#[]⟩
  apply ByteArray.ext
  apply Array.ext'
  unfold joinB txtP
  rw [h]
  simp [join_empty]
end Go.Proofs.YtnoghnalopdflaaDoor
