/- The least and the greatest of the rows' sums. -/
import Derived.Test.YtcekenllpjhckaaProg
import Derived.Test.YtcekenllpjhckaaIIsMatrix
import Derived.Test.YtcekenllpjhckaaTotal
namespace Go.Proofs.Ytcekenllpjhckaa
open Go.RowKit
set_option linter.all false
def mn (a x : Int) : Int := if x < a then x else a
def mx (a x : Int) : Int := if a < x then x else a
theorem mn_le (a x : Int) : mn a x ≤ a ∧ mn a x ≤ x := by unfold mn; split <;> omega
theorem le_mx (a x : Int) : a ≤ mx a x ∧ x ≤ mx a x := by unfold mx; split <;> omega
theorem mn_self (a : Int) : mn a a = a := by simp [mn]
theorem mx_self (a : Int) : mx a a = a := by simp [mx]
def bmin (a : Int) : List (List Int) → Int
  | [] => a
  | r :: rs => bmin (mn a (isum 0 r)) rs
def bmax (a : Int) : List (List Int) → Int
  | [] => a
  | r :: rs => bmax (mx a (isum 0 r)) rs
theorem bmin_le : ∀ (rs : List (List Int)) (a : Int), bmin a rs ≤ a
  | [], _ => Int.le_refl _
  | r :: rs, a => by have := bmin_le rs (mn a (isum 0 r)); have := mn_le a (isum 0 r); unfold bmin; omega
theorem le_bmax : ∀ (rs : List (List Int)) (a : Int), a ≤ bmax a rs
  | [], _ => Int.le_refl _
  | r :: rs, a => by have := le_bmax rs (mx a (isum 0 r)); have := le_mx a (isum 0 r); unfold bmax; omega
/-- They are one just where all sums are. -/
theorem bounds_same : ∀ (rs : List (List Int)) (a : Int), (bmin a rs = bmax a rs) ↔ ∀ r ∈ rs, isum 0 r = a
  | [], _ => by simp [bmin, bmax]
  | r :: rs, a => by
    unfold bmin bmax
    constructor
    · intro h
      have h1 := bmin_le rs (mn a (isum 0 r))
      have h2 := le_bmax rs (mx a (isum 0 r))
      have h4 := mn_le a (isum 0 r)
      have h5 := le_mx a (isum 0 r)
      have h3 : isum 0 r = a := by omega
      rw [h3, mn_self, mx_self] at h
      intro q hq
      rcases List.mem_cons.1 hq with rfl | hq
      · exact h3
      · exact (bounds_same rs a).1 h q hq
    · intro h
      have h3 : isum 0 r = a := h r (List.mem_cons_self ..)
      rw [h3, mn_self, mx_self]
      exact (bounds_same rs a).2 fun q hq => h q (List.mem_cons_of_mem _ hq)

def rowMin (xss : List (List Int)) : Int := if isMat xss then bmin (isum 0 (xss.getD 0 [])) xss else 0
def rowMax (xss : List (List Int)) : Int := if isMat xss then bmax (isum 0 (xss.getD 0 [])) xss else 0

set_option maxHeartbeats 800000 in
theorem rowBounds_any (ao : Option Addr) (n cap : Nat) (xss : List (List Int)) (w : World) (h : Intss w ao n xss) :
    Calls Try.prog 41 #[.slice ao n cap] w fun e w' => e = .returned (.tuple #[.int .i64 (rowMin xss), .int .i64 (rowMax xss)]) ∧ Drew w w' := by
  have hm := h.2.1
  have HL := Lib.hid h.1
  have H := Lib.hid h
  clear h
  cases hmat : isMat xss
  · have hg1 : Hid (rowMin xss = 0) := by show rowMin xss = 0; simp [rowMin, hmat]
    have hg2 : Hid (rowMax xss = 0) := by show rowMax xss = 0; simp [rowMax, hmat]
    go_enter Try.func41, Try.ntmps41
    go_wp2_with (first | (go_at_call 42; refine (iIsMatrix_any _ _ _ xss _ H.out).mono ?_; rintro e w' ⟨rfl, rfl⟩))
    go_ret2
    exact ⟨by rw [hg1.out, hg2.out]; rfl, Drew.refl w⟩
  · have hg1 : Hid (rowMin xss = bmin (isum 0 (xss.getD 0 [])) xss) := by show rowMin xss = _; simp [rowMin, hmat]
    have hg2 : Hid (rowMax xss = bmax (isum 0 (xss.getD 0 [])) xss) := by show rowMax xss = _; simp [rowMax, hmat]
    have hn0 : 0 < n := by have := isMat_len hmat; have := HL.out; omega
    obtain ⟨b, o, ai, ci, r0, rfl, hcell, hrow, hget⟩ := H.out.at_ hn0
    rw [Nat.add_zero] at hcell
    have Hrow := Lib.hid hrow
    clear hrow
    have e0 : xss.getD 0 [] = r0 := by rw [List.getD, hget.out]; rfl
    rw [e0] at hg1 hg2
    clear e0
    go_enter Try.func41, Try.ntmps41
    go_wp2_with (first | (go_at_call 42; refine (iIsMatrix_any _ _ _ xss _ H.out).mono ?_; rintro e w' ⟨rfl, rfl⟩))
    go_quiet ((go_at_call 31; exact quiet_L (total_any _ _ _ r0 _ Hrow.out)))
    go_wp2
    go_loop [4, 5, 21] (fun p q i => ∃ (k : Nat) (a c : Int), k ≤ n ∧ i = .int .i64 k ∧ p = .int .i64 a ∧ q = .int .i64 c ∧ Hid (bmin a (xss.drop k) = rowMin xss) ∧ Hid (bmax c (xss.drop k) = rowMax xss)) (fun _ _ i => n - (intOf i).toNat)
    case atStart => exact ⟨0, _, _, Nat.zero_le _, rfl, rfl, rfl, hg1.out.symm, hg2.out.symm⟩
    case round =>
      obtain ⟨k, a, c, hk, rfl, rfl, rfl, hr1, hr2⟩ := hrel
      by_cases hlt : k < n
      · obtain ⟨b', o', ai', ci', r, e', hcell', hrow', hget'⟩ := H.out.at_ hlt
        injection e' with e'
        injection e' with e1 e2
        subst e1
        subst e2
        have Hrow' := Lib.hid hrow'
        clear hrow' H hcell Hrow
        rw [drop_of_get hget'.out] at hr1 hr2
        go_wp2_with (first | (go_at_call 31; refine (total_any _ _ _ r _ (by first | exact Hrow'.out | exact Hrow'.out.drewN _)).mono ?_; rintro e w' ⟨rfl, rfl⟩))
        go_round
        case rel => exact ⟨k + 1, _, _, hlt, by go_num, rfl, rfl, hr1, hr2⟩
        case measure => simp [intOf]; omega
      · go_wp2
        go_ret2
        rw [drop_all xss k (by have := HL.out; omega)] at hr1 hr2
        exact ⟨by rw [← hr1.out, ← hr2.out]; rfl, (by first | exact Drew.refl _ | exact Drew.mk _ _ | exact (Drew.mk _ _).drewN _)⟩
end Go.Proofs.Ytcekenllpjhckaa
