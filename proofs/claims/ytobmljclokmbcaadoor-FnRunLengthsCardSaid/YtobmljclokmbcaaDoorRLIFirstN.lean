/- IFirstN: a part of the proofs of this seat. -/
import Derived.Test.YtobmljclokmbcaaDoorProg
import Derived.Test.YtobmljclokmbcaaDoorRLThA
import Derived.Test.YtobmljclokmbcaaDoorRLBase
namespace Go.Proofs.YtobmljclokmbcaaDoor
open Go.RowKit
set_option linter.all false
set_option maxRecDepth 20000 in
set_option maxHeartbeats 1600000 in
theorem iFirstN_any (p : Option Addr) (n c : Nat) (t : List (List Int)) (k m : Nat) (w : World) (h : Intss w p n t) (hr : RowsLen t m) (hk : k ≤ n) (hkm : k ≤ m) (hc : n ≤ c) (hn : n ≤ 1048576) :
    Calls Tryd.prog 116 #[.slice p n c, .int .i64 k] w fun e w' => ∃ ao cap, e = .returned (.slice ao k cap) ∧ Intss w' ao k (partT t k) ∧ Below w.heap.size w w' := by
  have H := Lib.hid h
  have HR := Lib.hid hr
  have HL : Hid (t.length = n) := h.1
  have hs0 := slice_to2 p n c k (by omega)
  clear h hr
  go_enter Tryd.func116, Tryd.ntmps116
  go_wp2_with fail
  clear hs0
  go_loopw [5, 13] (fun v x wr => ∃ (i : Nat) (vs : List Value), i ≤ k ∧ x = .int .i64 i ∧ wr.ownsRow w.heap.size 38 1 v i vs ∧ Hid (RowsAt w vs ((partT t k).take i)) ∧ Below w.heap.size w wr) (fun _ x _ => k - (intOf x).toNat)
  case atStart => exact ⟨0, [], Nat.zero_le _, rfl, World.ownsRow_made (base := w.heap.size) (e := 38) (size := 1) w #[] 0 (Nat.le_refl _) (by unfold maxLen; omega) rfl, RowsAt.nil w, (Below.refl _ _).alloc (Nat.le_refl _) _⟩
  case round =>
    obtain ⟨i, vs, hi, rfl, hown, hrw, hbl⟩ := hrel
    by_cases hlt : i < k
    · obtain ⟨b1, o1, a1, c1, r, rfl, hca, hrow, hget, hcap⟩ := H.out.cap_ (k := i) (by omega)
      have h1 := (hbl.cell (World.block_lt_of_cell? w _ hca)).trans hca
      have hrl := HR.out _ _ hget.out
      have hlt2 : k ≤ c1 := by omega
      have hs1 := slice_to a1 r.length c1 k hlt2
      have HG := Lib.hid (partT_get (k := k) hlt hget.out (by omega))
      have htl : (r.take k).length = k := take_len (by omega)
      have hq := hrw.out.push (r := r.take k) (ai := a1) (ci := c1) (by rw [htl]; exact hrow.take (by omega)) (by rw [htl]; omega)
      rw [htl, push_take HG.out] at hq
      have HQ := Lib.hid hq
      have Hown := Lib.hid hown
      have Hbl := Lib.hid hbl
      clear hown hbl hca hrow hrl htl hq hrw hcap
      go_wp2_with (refine wpList_push_val wr _ rfl (.tmp 17) (.tmp 21) rfl w.heap.size _ i vs rfl Hown.out (by omega) Hbl.out.size rfl _ rfl rfl ?_; intro v1 w1 ho1 hb1; have HO1 := Lib.hid ho1; have HB1 := Lib.hid hb1; clear ho1 hb1)
      go_roundw
      case rel => exact ⟨i + 1, _, hlt, by go_num, HO1.out, HQ.out, Hbl.out.trans HB1.out⟩
      case measure => simp [intOf]; omega
    · have e : i = k := by omega
      subst e
      have hq := hrw.out
      rw [List.take_of_length_le (by rw [partT_len]; omega)] at hq
      obtain ⟨ao, cap, rfl, hi2⟩ := own_rows hown (by omega) hq hbl
      have HI := Lib.hid hi2
      have Hbl := Lib.hid hbl
      clear hown hq hrw hbl hi2
      go_wp2_with fail
      go_ret
      exact ⟨_, _, rfl, HI.out, Hbl.out⟩
end Go.Proofs.YtobmljclokmbcaaDoor
