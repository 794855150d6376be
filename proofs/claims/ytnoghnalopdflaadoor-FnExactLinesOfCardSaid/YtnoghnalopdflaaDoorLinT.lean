/- The lines of a matrix: its group's text, its sign's. -/
import Derived.Test.YtnoghnalopdflaaDoorTxtT
import Derived.Test.YtnoghnalopdflaaDoorGroup
import Derived.Test.YtnoghnalopdflaaDoorSSignOf
namespace Go.Proofs.YtnoghnalopdflaaDoor
open Go.RowKit
set_option linter.all false
def txtMinus : ByteArray := ⟨#[109, 105, 110, 117, 115]⟩
def txtZero : ByteArray := ⟨#[122, 101, 114, 111]⟩
def txtPlus : ByteArray := ⟨#[112, 108, 117, 115]⟩
def sgT (s : Int) : ByteArray := if s < 0 then txtMinus else if s = 0 then txtZero else txtPlus
def linesV (m : List (List Int)) : List ByteArray := if isSmallM m then [groupTxt (groupV m), sgT (signOf m)] else []
theorem diagL_le {t : List (List Int)} (hb : Bnd 100 t) : ∀ (c k : Nat) (b : Int), 1 ≤ b → k + c ≤ 5 → ∀ x ∈ diagL t c k b, x ≤ 4611686018427387904
  | 0, _, _, _, _ => by simp [diagL]
  | c + 1, k, b, h1, h2 => by
    have hm := minorsI_small (k := k) hb (by omega)
    have hm2 := hm.2.2
    intro x hx
    unfold diagL at hx
    split at hx
    · rcases List.mem_cons.1 hx with rfl | hx
      · omega
      · exact diagL_le hb c (k + 1) b h1 (by omega) x hx
    · rcases List.mem_cons.1 hx with rfl | hx
      · have h3 : (minorsI t k).tdiv b = minorsI t k / b := Int.tdiv_eq_ediv_of_nonneg hm.1
        have h4 : minorsI t k / b ≤ minorsI t k := Int.ediv_le_self _ hm.1
        omega
      · exact diagL_le hb c (k + 1) _ (by omega) (by omega) x hx
theorem groupV_le (m : List (List Int)) : ∀ x ∈ groupV m, x ≤ 9223372036854775807 := by
  intro x hx
  unfold groupV at hx
  split at hx
  · rename_i h
    have h2 := (isSmallM_mat h).2.1
    have h3 := diagL_le (smith_bnd (less_smith h)) (lessT 1 1 m).length 1 1 (by omega) (by rw [lessT_len]; omega) x (List.mem_filter.1 hx).1
    omega
  · simp at hx
theorem groupV_len (m : List (List Int)) : (groupV m).length ≤ 1048576 := by
  unfold groupV
  split
  · rename_i h
    have h2 := (isSmallM_mat h).2.1
    have h3 := List.length_filter_le ne1 (diagN (lessT 1 1 m))
    rw [diagN_len, lessT_len] at h3
    omega
  · simp
theorem sgn_three (x : Int) : sgn x = -1 ∨ sgn x = 0 ∨ sgn x = 1 := by
  unfold sgn
  split
  · simp
  · split <;> simp
theorem signOf_three {m : List (List Int)} (h : isSmallM m = true) : signOf m = -1 ∨ signOf m = 0 ∨ signOf m = 1 := by
  unfold signOf
  rw [if_pos h]
  exact sgn_three _
theorem OStrs.lit (w : World) (lo : Nat) (ss : List ByteArray) (hlo : lo ≤ w.heap.size) (hn : ss.length ≤ 1048576) : OStrs (w.alloc (.cells (ss.map Value.string).toArray 9)) lo (.slice (some ⟨w.heap.size, 0, none⟩) ss.length ss.length) ss.length ss := by
  refine ⟨by omega, ?_⟩
  have h := World.ownsRow_lit (base := lo) (e := 9) (size := 1) w (ss.map Value.string).toArray ss.length hlo (by unfold maxLen; omega) (by simp)
  simpa using h
end Go.Proofs.YtnoghnalopdflaaDoor
