/- Draw1: a part of the proofs of this seat. -/
import Derived.Test.YtblkgkgopneleaaProg
import Derived.Test.YtblkgkgopneleaaBG0a
namespace Go.Proofs.Ytblkgkgopneleaa
open Go.RowKit
set_option linter.all false
theorem heap_new (w : World) (o : Obj) : (w.alloc o).heap[w.heap.size]? = some o := by
  show (w.heap.push o)[w.heap.size]? = some o
  simp
theorem cur_new {w : World} {ao : Option Addr} {n c : Nat} {y : Int} {e : Ending} (h : Bytes w ao n) (he : e = .returned (.pointer (some ⟨w.heap.size, 0, none⟩))) :
    e = .returned (.pointer (some ⟨w.heap.size, 0, none⟩)) ∧ Cur (w.alloc (.cells #[.slice ao n c, .int .i64 0, .int .i64 y] 98)) w.heap.size w.heap.size ∧ Below w.heap.size w (w.alloc (.cells #[.slice ao n c, .int .i64 0, .int .i64 y] 98)) := by
  have hb := (Below.refl w.heap.size w).alloc (Nat.le_refl _) (.cells #[.slice ao n c, .int .i64 0, .int .i64 y] 98)
  refine ⟨he, ⟨Nat.le_refl _, ao, n, c, 0, y, heap_new _ _, Nat.zero_le _, h.1, fun i hi => ?_⟩, hb⟩
  obtain ⟨b, o, x, e, hc, hx⟩ := h.2 i hi
  have hl := World.block_lt_of_cell? w _ hc
  exact ⟨b, o, x, e, hl, (hb.cell (p := ⟨b, o + i, none⟩) hl).trans hc, hx⟩
set_option maxHeartbeats 1600000 in
theorem l1New_any (ao : Option Addr) (n c : Nat) (w : World) (h : Bytes w ao n) :
    Calls Try.prog 44 #[.slice ao n c] w fun e w' => e = .returned (.pointer (some ⟨w.heap.size, 0, none⟩)) ∧ Cur w' w.heap.size w.heap.size ∧ Below w.heap.size w w' := by
  have hm := h.1
  have H := Lib.hid h
  clear h
  go_enter Try.func44, Try.ntmps44
  go_wp2_with fail
  go_loop [3, 4] (fun vh x => ∃ (k : Nat) (y : Int), k ≤ n ∧ x = .int .i64 k ∧ vh = .int .i64 y) (fun _ x => n - (intOf x).toNat)
  case atStart => exact ⟨0, _, Nat.zero_le _, rfl, rfl⟩
  case round =>
    obtain ⟨k, y, hk, rfl, rfl⟩ := hrel
    by_cases hlt : k < n
    · by_cases h4 : (k : Int) < 4000
      · have hd : decide ((k : Int) < 4000) = true := by simpa using h4
        obtain ⟨b, o, x, rfl, hc, hx0, hx1⟩ := H.out.2 k hlt
        clear h4
        go_wp2_with fail
        go_round
        case rel => exact ⟨k + 1, _, hlt, by go_num, rfl⟩
        case measure => simp [intOf]; omega
      · have hd : decide ((k : Int) < 4000) = false := by simpa using h4
        clear h4
        go_wp2_with fail
        go_ret
        exact cur_new H.out rfl
    · go_wp2_with fail
      go_ret
      exact cur_new H.out rfl
theorem grown_setdrew {w w' : World} {row : Option Nat} {p : Addr} {u : Value} (h : w.grownBy (w'.setCell p u) row) (n : Nat) : w.grownBy ((w'.drewN n).setCell p u) row := ⟨h.os, h.tape, h.output, h.size, h.block⟩
theorem byte_fin {n : Int} {e : Ending} {w w' : World} {c lo : Nat} (hc : Cur w' c lo) (hg : w.grownBy w' (some c)) (he : e = .returned (.int .i64 (bits .and .i64 n 255))) :
    ∃ x : Nat, x ≤ 255 ∧ e = .returned (.int .i64 x) ∧ Cur w' c lo ∧ w.grownBy w' (some c) := by
  have h := and255 n
  refine ⟨(bits .and .i64 n 255).toNat, by omega, ?_, hc, hg⟩
  rw [he]
  congr 2
  omega
set_option maxHeartbeats 3200000 in
theorem l1Byte_any (b lo : Nat) (w : World) (h : Cur w b lo) :
    Calls Try.prog 90 #[.pointer (some ⟨b, 0, none⟩)] w fun e w' => ∃ x : Nat, x ≤ 255 ∧ e = .returned (.int .i64 x) ∧ Cur w' b lo ∧ w.grownBy w' (some b) := by
  obtain ⟨h1, ao, n, c, k, y, hh, h2, h3, h4⟩ := h
  have hc0 := (heap_cells hh 0).1
  have hc1 := (heap_cells hh 1).1
  have hc2 := (heap_cells hh 2).1
  have hf1 := (heap_cells hh 1).2
  have hf2 := (heap_cells hh 2).2
  simp only [List.getElem?_toArray, List.getElem?_cons_zero, List.getElem?_cons_succ] at hc0 hc1 hc2
  have HW := Lib.hid (Cur.wrote h1 hh h2 h3 h4 2 (.int .i64 (wrap64 (wrap64 (y * 6364136223846793005) + 1442695040888963407))))
  have H4 := Lib.hid h4
  have HH := Lib.hid hh
  clear hh h4
  by_cases hk : (k : Int) < (n : Int)
  · have hd : decide ((k : Int) < (n : Int)) = true := by simpa using hk
    have hkn : k < n := by omega
    go_enter Try.func90, Try.ntmps90
    go_wp2_with fail
    generalize w.setCell ⟨b, 2, none⟩ (.int .i64 (wrap64 (wrap64 (y * 6364136223846793005) + 1442695040888963407))) = W1 at HW ⊢
    generalize wrap64 (wrap64 (y * 6364136223846793005) + 1442695040888963407) = y1 at HW ⊢
    clear hc0 hc1 hc2 hf1 hf2 H4 HH
    obtain ⟨hh, h4, hg⟩ := HW.out
    simp only [List.setIfInBounds_toArray, List.set_cons_succ, List.set_cons_zero] at hh
    have hc0 := (heap_cells hh 0).1
    have hc1 := (heap_cells hh 1).1
    have hc2 := (heap_cells hh 2).1
    have hf1 := (heap_cells hh 1).2
    simp only [List.getElem?_toArray, List.getElem?_cons_zero, List.getElem?_cons_succ] at hc0 hc1 hc2
    have HW2 := Lib.hid (Cur.wrote h1 hh h2 h3 h4 1 (.int .i64 ((k : Int) + 1)))
    have HG := Lib.hid hg
    obtain ⟨q, o, x, rfl, hq, hcx, hx0, hx1⟩ := h4 k hkn
    clear hh h4 hg HW
    go_quiet (fail)
    go_wp2_with fail
    go_quiet (fail)
    go_wp2_with fail
    go_quiet (fail)
    go_wp2_with fail
    go_ret
    refine byte_fin (c := b) (w := w) ?_ ?_ rfl
    · exact (Cur.drewN ⟨h1, _, n, c, k + 1, y1, HW2.out.1, hkn, h3, HW2.out.2.1⟩ 3)
    · exact grown_setdrew (HG.out.trans HW2.out.2.2) _
  · have hd : decide ((k : Int) < (n : Int)) = false := by simpa using hk
    go_enter Try.func90, Try.ntmps90
    go_wp2_with fail
    generalize w.setCell ⟨b, 2, none⟩ (.int .i64 (wrap64 (wrap64 (y * 6364136223846793005) + 1442695040888963407))) = W1 at HW ⊢
    generalize wrap64 (wrap64 (y * 6364136223846793005) + 1442695040888963407) = y1 at HW ⊢
    clear hc0 hc1 hc2 hf1 hf2 H4 HH
    obtain ⟨hh, h4, hg⟩ := HW.out
    simp only [List.setIfInBounds_toArray, List.set_cons_succ, List.set_cons_zero] at hh
    have hc0 := (heap_cells hh 0).1
    have hc1 := (heap_cells hh 1).1
    have hc2 := (heap_cells hh 2).1
    simp only [List.getElem?_toArray, List.getElem?_cons_zero, List.getElem?_cons_succ] at hc0 hc1 hc2
    have HCu : Hid (Cur W1 b lo) := ⟨h1, ao, n, c, k, y1, hh, h2, h3, h4⟩
    have HG := Lib.hid hg
    clear hh h4 hg HW
    go_quiet (fail)
    go_wp2_with fail
    go_quiet (fail)
    go_wp2_with fail
    go_ret
    refine byte_fin (c := b) (w := w) ?_ ?_ rfl
    · exact HCu.out
    · exact grown_drewN (grown_drewN HG.out _) _
set_option maxHeartbeats 1600000 in
theorem l1Below_any (b lo n : Nat) (w : World) (h : Cur w b lo) (hn : 1 ≤ n) (hm : n ≤ 256) :
    Calls Try.prog 46 #[.pointer (some ⟨b, 0, none⟩), .int .i64 n] w fun e w' => ∃ x : Nat, x < n ∧ e = .returned (.int .i64 x) ∧ Cur w' b lo ∧ w.grownBy w' (some b) := by
  have H := Lib.hid h
  clear h
  have hd1 : decide ((n : Int) ≤ 0) = false := by simp; omega
  have hd2 : decide ((n : Int) ≤ 256) = true := by simp; omega
  go_enter Try.func46, Try.ntmps46
  go_wp2_with (go_at_call 90; refine (l1Byte_any b lo _ H.out).mono ?_; rintro e w1 ⟨x, hx, rfl, hc1, hg1⟩; have Hc1 := Lib.hid hc1; have Hg1 := Lib.hid hg1; clear hc1 hg1)
  go_ret
  exact ⟨x % n, Nat.mod_lt _ (by omega), ret_int (by simp), Hc1.out, Hg1.out⟩
set_option maxHeartbeats 800000 in
theorem l1Once_any (b lo n : Nat) (w : World) (h : Cur w b lo) (hn : 1 ≤ n) (hm : n ≤ 256) :
    Calls Try.prog 48 #[.pointer (some ⟨b, 0, none⟩), .int .i64 n] w fun e w' => ∃ t : Bool, e = .returned (.bool t) ∧ Cur w' b lo ∧ w.grownBy w' (some b) := by
  have H := Lib.hid h
  clear h
  go_enter Try.func48, Try.ntmps48
  go_wp2_with (go_at_call 46; refine (l1Below_any b lo n _ H.out hn hm).mono ?_; rintro e w1 ⟨x, hx, rfl, hc1, hg1⟩; have Hc1 := Lib.hid hc1; have Hg1 := Lib.hid hg1; clear hc1 hg1)
  go_ret
  exact ⟨_, rfl, Hc1.out, Hg1.out⟩
set_option maxHeartbeats 1600000 in
theorem l1PickInt_any (b lo lo' n cap : Nat) (ao : Option Addr) (xs : List Int) (w : World) (h : Cur w b lo) (ho : OInts w lo' (.slice ao n cap) n xs) (hb : b < lo') (hn : 1 ≤ n) (hm : n ≤ 256) :
    Calls Try.prog 95 #[.pointer (some ⟨b, 0, none⟩), .slice ao n cap] w fun e w' => ∃ x ∈ xs, e = .returned (.int .i64 x) ∧ Cur w' b lo ∧ w.grownBy w' (some b) := by
  have H := Lib.hid h
  have HO := Lib.hid ho
  clear h ho
  go_enter Try.func95, Try.ntmps95
  go_wp2_with (go_at_call 46; refine (l1Below_any b lo n _ H.out hn hm).mono ?_; rintro e w1 ⟨x, hx, rfl, hc1, hg1⟩; obtain ⟨q, o, y, rfl, hcy, hgy⟩ := ((HO.out.away hg1 hb).read).at_ hx; have Hc1 := Lib.hid hc1; have Hg1 := Lib.hid hg1; clear hc1 hg1)
  go_ret
  exact ⟨_, List.mem_of_getElem? hgy.out, rfl, Hc1.out, Hg1.out⟩
end Go.Proofs.Ytblkgkgopneleaa
