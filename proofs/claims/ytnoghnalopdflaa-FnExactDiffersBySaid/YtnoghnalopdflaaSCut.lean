/- SCut: a part of the proofs of this seat. -/
import Derived.Test.YtnoghnalopdflaaProg
import Derived.Test.YtnoghnalopdflaaThA
import Derived.Test.YtnoghnalopdflaaBase
namespace Go.Proofs.Ytnoghnalopdflaa
open Go.RowKit
set_option linter.all false
set_option maxRecDepth 20000 in
set_option maxHeartbeats 3200000 in
theorem sCut_any (p : Option Addr) (n c : Nat) (xs : List Int) (w : World) (h : Ints w p n xs) (hc : n ≤ c) (hn : n ≤ 1048576) :
    Calls Try.prog 220 #[.slice p n c] w fun e w' => ∃ v, e = .returned v ∧ OInts w' w.heap.size v (cutZ xs).length (cutZ xs) ∧ Below w.heap.size w w' := by
  have HL : Hid (xs.length = n) := h.1
  have H := Lib.hid h
  have Hem := Lib.hid (OInts.empty w w.heap.size (Nat.le_refl _))
  have Hb0 : Hid (Below w.heap.size w (w.alloc (.cells #[] 3))) := (Below.refl _ _).alloc (Nat.le_refl _) _
  clear h
  go_enter Try.func220, Try.ntmps220
  go_wp2_with fail
  go_loop [3] (fun x => ∃ k : Nat, k ≤ n ∧ x = .int .i64 k ∧ Hid (cutN xs k = cutN xs n)) (fun x => (intOf x).toNat)
  case atStart => exact ⟨n, Nat.le_refl _, rfl, rfl⟩
  case round =>
    obtain ⟨k, hk, rfl, hr⟩ := hrel
    have fin : ∀ j, j ≤ n → cutN xs n = j → cutZ xs = xs.take j := by intro j _ e; unfold cutZ; rw [HL.out, e]
    rcases k with _ | k
    · have HZ := Lib.hid (fin 0 (Nat.zero_le _) hr.out.symm)
      have hs := slice_to p n c 0 (by omega)
      have HT := Lib.hid (H.out.take (k := 0) (by omega))
      have hl0 : Hid ((cutZ xs).length = 0) := by show _ = _; rw [HZ.out]; simp
      clear hr fin
      go_wp2_with (first | (at_builtin; refine wpList_app_ints _ rfl _ _ rfl w.heap.size _ 0 [] rfl Hem.out p 0 _ (xs.take 0) rfl (HT.out.keep Hb0.out) (by omega) (by exact Hb0.out.size) ?_; intro v1 w1 ho1 hg1; have Ho1 := Lib.hid ho1; have Hb1 := Lib.hid (Hb0.out.grown hg1 Hb0.out.size (fun k hk => (Hem.out.ownlt k hk).1)); clear ho1 hg1))
      go_ret
      rw [hl0.out, HZ.out]
      exact ⟨_, rfl, by have h := Ho1.out; simpa using h, Hb1.out⟩
    · obtain ⟨b, o, x, rfl, hcx, hx⟩ := H.out.at_ (k := k) (by omega)
      have HST := Lib.hid (cutN_zero hx.out hr.out)
      have hcast : ((k + 1 : Nat) : Int) = (k : Int) + 1 := by omega
      clear hx hr
      by_cases h0 : x = 0
      · have HN := Lib.hid (HST.out.1 h0)
        have h1 : (x == 0) = true := by simp [h0]
        clear HST h0 fin
        rw [hcast]
        clear hcast
        go_wp2_with fail
        go_round
        case rel => exact ⟨k, by omega, by go_num, HN.out⟩
        case measure => (simp [intOf] <;> omega)
      · have HN := Lib.hid (HST.out.2 h0)
        have h1 : (x == 0) = false := by simp [h0]
        have HZ := Lib.hid (fin (k + 1) hk HN.out.symm)
        have hs := slice_to (some ⟨b, o, none⟩) n c (k + 1) (by omega)
        have HT := Lib.hid (H.out.take (k := k + 1) hk)
        have hl : (xs.take (k + 1)).length = k + 1 := by rw [List.length_take, HL.out]; omega
        have HLL : Hid ((cutZ xs).length = k + 1) := by show _ = _; rw [HZ.out, hl]
        clear HST h0 fin hl HN
        rw [hcast]
        rw [hcast] at hs
        clear hcast
        go_wp2_with (first | (at_builtin; refine wpList_app_ints _ rfl _ _ rfl w.heap.size _ 0 [] rfl Hem.out (some ⟨b, o, none⟩) (k + 1) _ (xs.take (k + 1)) rfl (HT.out.keep Hb0.out) (by omega) (by exact Hb0.out.size) ?_; intro v1 w1 ho1 hg1; have Ho1 := Lib.hid ho1; have Hb1 := Lib.hid (Hb0.out.grown hg1 Hb0.out.size (fun k hk => (Hem.out.ownlt k hk).1)); clear ho1 hg1))
        go_ret
        rw [HLL.out, HZ.out]
        exact ⟨_, rfl, by have h := Ho1.out; simpa using h, Hb1.out⟩
end Go.Proofs.Ytnoghnalopdflaa
