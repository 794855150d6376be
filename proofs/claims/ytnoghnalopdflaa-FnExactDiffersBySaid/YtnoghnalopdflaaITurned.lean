/- A slice of the call's own that is cut short. -/
import Derived.Test.YtnoghnalopdflaaProg
import Derived.Test.YtnoghnalopdflaaICharP
import Derived.Test.YtnoghnalopdflaaIIsSmall
import Derived.Test.YtnoghnalopdflaaBase
namespace Go.Proofs.Ytnoghnalopdflaa
open Go.RowKit
set_option linter.all false
theorem OInts.cutTo {w : World} {lo n i : Nat} {ao : Option Addr} {cap : Nat} {ys : List Int} (h : OInts w lo (.slice ao n cap) n ys) (hi : i ≤ n) : OInts w lo (.slice ao i cap) i (ys.take i) := by
  have hl := h.len
  refine ⟨by have := h.1; omega, by simp [hl]; omega, ?_⟩
  rcases h.2.2 with ⟨e, hn⟩ | ⟨g', c, cur, e, hg, hh, hnc, hcm, hs, ht⟩
  · left
    have hz : i = 0 := by omega
    subst hz
    injection e with e1 e2 e3
    subst e1
    subst e3
    exact ⟨rfl, rfl⟩
  · right
    injection e with e1 e2 e3
    subst e1
    subst e3
    refine ⟨g', cap, cur, rfl, hg, hh, by omega, hcm, hs, ?_⟩
    rw [List.map_take, ← ht, List.take_take]
    congr 1
    omega
set_option maxRecDepth 20000 in
set_option maxHeartbeats 3200000 in
theorem iTrimmed_any (p : Option Addr) (n c : Nat) (xs : List Int) (w : World) (h : Ints w p n xs) (hc : n ≤ c) :
    Calls Try.prog 225 #[.slice p n c] w fun e w' => e = .returned (.slice p (cutN xs n) c) ∧ w = w' := by
  have H := Lib.hid h
  have hm := h.2.1
  clear h
  go_enter Try.func225, Try.ntmps225
  go_wp2_with fail
  go_loop [3] (fun x => ∃ k : Nat, k ≤ n ∧ x = .int .i64 k ∧ Hid (cutN xs k = cutN xs n)) (fun x => (intOf x).toNat)
  case atStart => exact ⟨n, Nat.le_refl _, rfl, rfl⟩
  case round =>
    obtain ⟨k, hk, rfl, hr⟩ := hrel
    rcases k with _ | k
    · have hs := slice_to p n c 0 (by omega)
      have HZ : Hid (cutN xs n = 0) := hr.out.symm
      clear hr
      go_wp2_with fail
      go_ret
      rw [HZ.out]
      exact ⟨rfl, rfl⟩
    · obtain ⟨b, o, x, rfl, hcx, hx⟩ := H.out.at_ (k := k) (by omega)
      have HST := Lib.hid (cutN_zero hx.out hr.out)
      have hcast : ((k + 1 : Nat) : Int) = (k : Int) + 1 := by omega
      clear hx hr
      by_cases h0 : x = 0
      · have HN := Lib.hid (HST.out.1 h0)
        have h1 : (x == 0) = true := by simp [h0]
        clear HST h0
        rw [hcast]
        clear hcast
        go_wp2_with fail
        go_round
        case rel => exact ⟨k, by omega, by go_num, HN.out⟩
        case measure => (simp [intOf] <;> omega)
      · have HN := Lib.hid (HST.out.2 h0)
        have h1 : (x == 0) = false := by simp [h0]
        have hs := slice_to (some ⟨b, o, none⟩) n c (k + 1) (by omega)
        clear HST h0
        rw [hcast]
        rw [hcast] at hs
        clear hcast
        go_wp2_with fail
        go_ret
        rw [← HN.out]
        exact ⟨rfl, rfl⟩
set_option maxRecDepth 20000 in
set_option maxHeartbeats 3200000 in
theorem iTurned_any (p : Option Addr) (n c : Nat) (m : List (List Int)) (w : World) (h : Intss w p n m) :
    Calls Try.prog 176 #[.slice p n c] w fun e w' => ∃ v, e = .returned v ∧ OInts w' w.heap.size v (turnedP m).length (turnedP m) ∧ Below w.heap.size w w' := by
  have HL : Hid (m.length = n) := h.1
  have H := Lib.hid h
  clear h
  cases hs : isSmallM m
  · have hg : Hid (turnedP m = []) := by show _ = _; simp [turnedP, hs]
    go_enter Try.func176, Try.ntmps176
    go_wp2_with (first | (go_at_call 107; refine (iIsSmall_any _ _ _ m _ H.out).mono ?_; rintro e w' ⟨rfl, rfl⟩))
    go_ret
    rw [hg.out]
    exact ⟨_, rfl, OInts.none_ _ _, Below.refl _ _⟩
  have hsm := isSmallM_mat hs
  have HR := Lib.hid (isMat_rowsLen hsm.1 HL.out)
  have hn4 : n ≤ 4 := by have := HL.out; omega
  have HG : Hid (turnedP m = cutZ (polyL m)) := by show _ = _; simp [turnedP, hs]
  have HPL : Hid ((polyL m).length = n + 1) := by show _ = _; rw [polyL_len, HL.out]
  have HS := Lib.hid hs
  have HCE : Hid (∀ i, i ≤ n → (charL m n (n + 1))[n - i]? = (polyL m)[i]?) := by
    show ∀ i, _
    intro i hi
    have h := charL_end (t := m) (i := i) (by rw [HL.out]; exact hi)
    rw [HL.out] at h
    exact h
  clear hsm hs
  go_enter Try.func176, Try.ntmps176
  go_wp2_with (first
    | (go_at_call 107; refine (iIsSmall_any _ _ _ m _ H.out).mono ?_; rw [HS.out]; rintro e w' ⟨rfl, rfl⟩)
    | (go_at_call 224; refine (iCharP_any _ _ _ m _ H.out HR.out hn4).mono ?_; rintro e w1 ⟨v1, rfl, ho1, hb1⟩; obtain ⟨a1, c1, rfl, hi1⟩ := ho1.form; have HI := Lib.hid hi1; have HB := Lib.hid hb1; have hb2 := hb1.size; clear ho1 hb1 hi1))
  have Hem := Lib.hid (OInts.empty w1 w1.heap.size (Nat.le_refl _))
  have Hb0 : Hid (Below w.heap.size w (w1.alloc (.cells #[] 3))) := HB.out.trans ((Below.refl _ _).alloc hb2 _)
  have hc1 : ((n + 1 : Nat) : Int) = (n : Int) + 1 := by omega
  go_loopw [4, 5] (fun v x wr => ∃ k : Nat, k ≤ n + 1 ∧ x = .int .i64 ((n : Int) - (k : Int)) ∧ OInts wr w1.heap.size v k ((polyL m).take k) ∧ Below w1.heap.size w1 wr) (fun _ x _ => (intOf x + 1).toNat)
  case atStart => exact ⟨0, Nat.zero_le _, by simp, by simpa using Hem.out, (Below.refl _ _).alloc (Nat.le_refl _) _⟩
  case round =>
    obtain ⟨k, hk, rfl, hown, hbl⟩ := hrel
    obtain ⟨ao5, cap5, rfl, hi5⟩ := hown.form
    have hcap := hown.capLe rfl
    have Hown := Lib.hid hown
    have Hbl := Lib.hid hbl
    clear hown hbl Hem Hb0
    have Hbw := Lib.hid (HB.out.trans (Hbl.out.mono hb2))
    by_cases hlt : k < n + 1
    · obtain ⟨j, hj⟩ : ∃ j : Nat, n - k = j := ⟨_, rfl⟩
      have hnk : (n : Int) - (k : Int) = (j : Int) := by omega
      obtain ⟨b, o, x, rfl, hcx, hx⟩ := (HI.out.keep Hbl.out).at_ (k := j) (by omega)
      have HP : Hid ((polyL m)[k]? = some x) := by show _ = _; rw [← HCE.out k (by omega), hj]; exact hx.out
      have hjn : j < n + 1 := by omega
      have hd : (0 : Int) ≤ (j : Int) := by omega
      clear hj hx hi5
      rw [hnk]
      go_wp2_with (first
        | (at_builtin; refine wpList_push_one _ _ rfl _ _ rfl w1.heap.size _ _ _ rfl Hown.out (by omega) Hbl.out.size _ rfl rfl ?_; intro v1 w4 ho1 hb4; have Ho1 := Lib.hid ho1; have Hb4 := Lib.hid hb4; clear ho1 hb4))
      go_roundw
      case rel => exact ⟨k + 1, hlt, by rw [← hnk]; go_num, by have h := Ho1.out; rw [push_take HP.out] at h; exact h, Hbl.out.trans Hb4.out⟩
      case measure => (simp [intOf] <;> omega)
    · have e : k = n + 1 := by omega
      subst e
      have hnk : (n : Int) - ((n + 1 : Nat) : Int) = -1 := by omega
      have HI2 : Hid (Ints wr ao5 (n + 1) (polyL m)) := by
        have h := hi5
        rw [List.take_of_length_le (by rw [HPL.out]; omega)] at h
        exact h
      have HO2 : Hid (OInts wr w1.heap.size (.slice ao5 (n + 1) cap5) (n + 1) (polyL m)) := by
        have h := Hown.out
        rw [List.take_of_length_le (by rw [HPL.out]; omega)] at h
        exact h
      clear hi5 Hown
      rw [hnk]
      go_wp2_with (first
        | (go_at_call 225; refine (iTrimmed_any _ _ _ (polyL m) _ HI2.out hcap).mono ?_; rintro e w5 ⟨rfl, rfl⟩))
      go_ret
      have ho := (HO2.out.mono hb2).cutTo (cutN_le (polyL m) (n + 1))
      have e : (polyL m).take (cutN (polyL m) (n + 1)) = cutZ (polyL m) := by unfold cutZ; rw [HPL.out]
      rw [e] at ho
      have hl := ho.len
      rw [HG.out, hl]
      exact ⟨_, rfl, ho, Hbw.out⟩
end Go.Proofs.Ytnoghnalopdflaa
