/- What is left of a size, row after row; -1 where there is none. -/
import Derived.Test.YtlhognagaknhcaaProg
import Derived.Test.YtlhognagaknhcaaFrameIntss
namespace Go.Proofs.Ytlhognagaknhcaa
open Go.RowKit
set_option linter.all false
def szl : Int → List (List Int) → Int
  | l, [] => l
  | l, r :: rs => if l < r.length then -1 else szl (l - r.length) rs
def sz2 (xss : List (List Int)) (l : Int) : Int := if l < xss.length then -1 else szl (l - xss.length) xss

theorem szl_bound : ∀ (xss : List (List Int)) (l : Int), 0 ≤ szl l xss → ∀ r ∈ xss, (r.length : Int) ≤ l
  | [], _, _, _, hr => by simp at hr
  | x :: rs, l, h, r, hr => by
    unfold szl at h
    split at h
    · omega
    · rcases List.mem_cons.1 hr with rfl | hr
      · omega
      · have := szl_bound rs _ h r hr; omega
theorem szl_range : ∀ (xss : List (List Int)) (l : Int), 0 ≤ l → -1 ≤ szl l xss ∧ szl l xss ≤ l
  | [], l, h => by simp [szl]; omega
  | x :: rs, l, h => by
    unfold szl
    split
    · omega
    · have := szl_range rs (l - x.length) (by omega); omega
theorem sz2_range (xss : List (List Int)) (l : Int) (h : 0 ≤ l) : -1 ≤ sz2 xss l ∧ sz2 xss l ≤ l := by
  unfold sz2
  split
  · omega
  · have := szl_range xss (l - xss.length) (by omega); omega
theorem sz2_bound {xss : List (List Int)} {l : Int} (h : 0 ≤ sz2 xss l) : (xss.length : Int) ≤ l ∧ ∀ r ∈ xss, (r.length : Int) ≤ l := by
  unfold sz2 at h
  split at h
  · omega
  · exact ⟨by omega, fun r hr => by have := szl_bound _ _ h r hr; omega⟩

theorem szl_step {xss : List (List Int)} {k : Nat} {r : List Int} {l b : Int} (hk : xss[k]? = some r) (h : szl l (xss.drop k) = b) :
    (l < r.length → b = -1) ∧ ((r.length : Int) ≤ l → szl (l - r.length) (xss.drop (k + 1)) = b) := by
  rw [drop_of_get hk] at h
  unfold szl at h
  constructor
  · intro e; rw [if_pos e] at h; exact h.symm
  · intro e; rw [if_neg (by omega)] at h; exact h

set_option maxHeartbeats 400000 in
theorem szIntS_no (ao : Option Addr) (n cap : Nat) (l : Int) (w : World) (hn : n ≤ 9223372036854775807) (h0 : 0 ≤ l) (h1 : l ≤ 1048576) (h : l < n) :
    Calls Try.prog 44 #[.slice ao n cap, .int .i64 l] w fun e w' => e = .returned (.int .i64 (-1)) ∧ w = w' := by
  go_enter Try.func44, Try.ntmps44
  go_wp2
  go_ret
  exact ⟨rfl, rfl⟩
set_option maxHeartbeats 400000 in
theorem szIntS_yes (ao : Option Addr) (n cap : Nat) (l : Int) (w : World) (h1 : l ≤ 1048576) (h : (n : Int) ≤ l) :
    Calls Try.prog 44 #[.slice ao n cap, .int .i64 l] w fun e w' => e = .returned (.int .i64 (l - n)) ∧ w = w' := by
  go_enter Try.func44, Try.ntmps44
  go_wp2
  go_ret
  exact ⟨rfl, rfl⟩

set_option maxHeartbeats 400000 in
theorem szIntSS_any (ao : Option Addr) (n cap : Nat) (xss : List (List Int)) (l : Int) (w : World) (h : IntssIn w ao n xss) (h0 : 0 ≤ l) (h1 : l ≤ 1048576) :
    Calls Try.prog 14 #[.slice ao n cap, .int .i64 l] w fun e w' => e = .returned (.int .i64 (sz2 xss l)) ∧ w = w' := by
  have hl := h.1
  have hm := h.2.1
  by_cases hlt : l < n
  · have hr : Hid (sz2 xss l = -1) := by show sz2 xss l = _; unfold sz2; rw [if_pos (by omega)]
    clear h hl
    go_enter Try.func14, Try.ntmps14
    go_wp2
    go_ret
    exact ⟨ret_int hr.out.symm, rfl⟩
  · have hr : Hid (sz2 xss l = szl (l - n) xss) := by show sz2 xss l = _; unfold sz2; rw [if_neg (by omega), hl]
    have HL := Lib.hid hl
    clear hl
    go_enter Try.func14, Try.ntmps14
    go_wp2
    go_loop [1, 5] (fun s i => ∃ (k : Nat) (t : Int), k ≤ n ∧ i = .int .i64 k ∧ s = .int .i64 t ∧ 0 ≤ t ∧ t ≤ 1048576 ∧ Hid (szl t (xss.drop k) = szl (l - n) xss)) (fun _ i => n - (intOf i).toNat)
    case atStart => exact ⟨0, l - n, Nat.zero_le _, rfl, rfl, by omega, by omega, rfl⟩
    case round =>
      obtain ⟨k, t, hk, rfl, rfl, ht0, ht1, hz⟩ := hrel
      by_cases hkn : k < n
      · obtain ⟨b, o, ai, ci, r, rfl, hcell, hrl, hget⟩ := h.at_ hkn
        have Hst := Lib.hid (szl_step hget.out hz.out)
        clear h hz
        by_cases ht : t < r.length
        · have hr1 : Hid _ := Hst.out.1 ht
          clear Hst
          go_wp2_with (first | (go_at_call 44; refine (szIntS_no _ _ _ _ _ hrl ht0 ht1 ht).mono ?_; rintro e w' ⟨rfl, rfl⟩))
          go_ret
          exact ⟨ret_int (by rw [hr.out, hr1.out]), rfl⟩
        · have ht' : (r.length : Int) ≤ t := by omega
          have hr1 : Hid _ := Hst.out.2 ht'
          clear Hst ht
          have h2 : 0 ≤ t - r.length := by omega
          go_wp2_with (first | (go_at_call 44; refine (szIntS_yes _ _ _ _ _ ht1 ht').mono ?_; rintro e w' ⟨rfl, rfl⟩))
          go_round
          case rel => exact ⟨k + 1, _, hkn, by go_num, rfl, h2, by omega, hr1⟩
          case measure => simp [intOf]; omega
      · go_wp2
        go_ret
        rw [drop_all xss k (by have := HL.out; omega)] at hz
        exact ⟨ret_int (by rw [hr.out, ← hz.out]; rfl), rfl⟩
end Go.Proofs.Ytlhognagaknhcaa
