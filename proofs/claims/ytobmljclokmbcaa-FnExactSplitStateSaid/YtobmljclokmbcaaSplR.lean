/- SplR: a part of the proofs of this seat. -/
import Derived.Test.YtobmljclokmbcaaSplitT
import Derived.Test.YtobmljclokmbcaaBase
namespace Go.Proofs.Ytobmljclokmbcaa
open Go.RowKit
set_option linter.all false
def bitS (set : Int) (t : Nat) : Bool := bits BinOp.and IntKind.i64 (set / 2 ^ min t 64) 1 == 0
theorem split_step {S p : Int} {bit : Nat → Bool} {xs acc R : List Ar} {k t : Nat} {x y z : Int} (hx : xs[k]? = some (x, y, z)) (h : acc ++ splitL S p bit t (xs.drop k) = R) :
    (x = p → bit t = true → acc ++ (splitOne S p S (x, y, z) ++ splitL S p bit (t + 1) (xs.drop (k + 1))) = R) ∧ (x = p → bit t = false → acc ++ (splitOne S p x (x, y, z) ++ splitL S p bit (t + 1) (xs.drop (k + 1))) = R) ∧ (x ≠ p → acc ++ (splitOne S p x (x, y, z) ++ splitL S p bit t (xs.drop (k + 1))) = R) := by
  rw [drop_of_get hx, splitL] at h
  refine ⟨fun e eb => ?_, fun e eb => ?_, fun e => ?_⟩
  · rw [← h]; simp [newFrom, e, eb]
  · rw [← h]; simp [newFrom, e, eb]
  · rw [← h]; simp [newFrom, e]
def splOk (L S : Int) (xs : List Ar) (p set : Int) : Bool := isLab L S xs && (!(S == 12) && (inR p 0 (S - 1) && inR set 1 (wrap64 (wrap64 (2 ^ (fromL p xs).length) - 2))))
def splL (L S : Int) (xs : List Ar) (p set : Int) : Int := if splOk L S xs p set then L else 0
def splS (L S : Int) (xs : List Ar) (p set : Int) : Int := if splOk L S xs p set then S + 1 else 0
def splX (L S : Int) (xs : List Ar) (p set : Int) : List Ar := if splOk L S xs p set then sortA (splitL S p (bitS set) 0 xs) else []
theorem splOk_get {L S : Int} {xs : List Ar} {p set : Int} (h : splOk L S xs p set = true) : isLab L S xs = true ∧ S ≠ 12 ∧ inR p 0 (S - 1) = true ∧ inR set 1 (wrap64 (wrap64 (2 ^ (fromL p xs).length) - 2)) = true := by
  simp only [splOk, Bool.and_eq_true, Bool.not_eq_true', beq_eq_false_iff_ne] at h
  exact h
theorem splitL_len (S p : Int) (bit : Nat → Bool) : ∀ (xs : List Ar) (a : Nat), (splitL S p bit a xs).length ≤ xs.length + xs.length
  | [], _ => by simp [splitL]
  | x :: r, a => by
    unfold splitL
    have ih := splitL_len S p bit r (if x.1 = p then a + 1 else a)
    have h1 : (splitOne S p (newFrom S p bit a x) x).length ≤ 2 := by unfold splitOne; by_cases e : x.2.1 = p <;> simp [e]
    rw [List.length_append, List.length_cons]
    omega
theorem isLab_432 {L S : Int} {xs : List Ar} (h : isLab L S xs = true) : xs.length ≤ 432 := by
  obtain ⟨hL, hS, hok⟩ := isLab_get h
  have hall := okFrom_all hok
  have hk : (xs.map (fun x => x.1 * 36 + x.2.2 * 12 + x.2.1)).Pairwise (· < ·) := by
    rw [List.pairwise_map]
    refine (isLab_pair h).imp_of_mem ?_
    intro a b ha hb hab
    obtain ⟨a1, a2, a3⟩ := a
    obtain ⟨b1, b2, b3⟩ := b
    have r1 := arcB_get (hall _ ha)
    have r2 := arcB_get (hall _ hb)
    rw [ltA_iff] at hab
    simp only at *
    omega
  have := asc_len _ 0 432 hk (by
    intro v hv
    obtain ⟨x, hx, rfl⟩ := List.mem_map.1 hv
    obtain ⟨a1, a2, a3⟩ := x
    have r1 := arcB_get (hall _ hx)
    simp only
    omega)
  rw [List.length_map] at this
  omega
theorem splX_len (L S : Int) (xs : List Ar) (p set : Int) : (splX L S xs p set).length ≤ 864 := by
  unfold splX
  cases h : splOk L S xs p set
  · simp
  · have h1 := isLab_432 (splOk_get h).1
    have h2 := splitL_len S p (bitS set) xs 0
    rw [if_pos rfl, sortA_len]
    omega
theorem splX_sorted {L S : Int} {xs : List Ar} {p set : Int} (h : splOk L S xs p set = true) : sortS (splitL S p (bitS set) 0 xs) = splX L S xs p set ∧ sortA (splitL S p (bitS set) 0 xs) = splX L S xs p set := by
  obtain ⟨hlab, _, hp, _⟩ := splOk_get h
  have hp := inR_true hp
  obtain ⟨_, _, hok⟩ := isLab_get hlab
  have hall := okFrom_all hok
  have e : sortA (splitL S p (bitS set) 0 xs) = splX L S xs p set := by rw [splX, if_pos h]
  refine ⟨?_, e⟩
  rw [← e]
  refine sortS_eq (splitL_nodup (by omega) (isLab_pair hlab) fun x hx => ?_)
  obtain ⟨a1, a2, a3⟩ := x
  have r1 := arcB_get (hall _ hx)
  simp only at *
  omega
theorem splitL_pos {L S : Int} {xs : List Ar} {p set : Int} (h : splOk L S xs p set = true) : 0 < (splitL S p (bitS set) 0 xs).length := by
  have h1 := inR_true (splOk_get h).2.2.2
  cases xs with
  | nil =>
    exfalso
    have e : wrap64 (wrap64 (2 ^ (fromL p []).length) - 2) = -1 := by simp [fromL, wrap64]
    rw [e] at h1
    omega
  | cons x r =>
    unfold splitL
    rw [List.length_append]
    have : 0 < (splitOne S p (newFrom S p (bitS set) 0 x) x).length := by unfold splitOne; simp
    omega
end Go.Proofs.Ytobmljclokmbcaa
