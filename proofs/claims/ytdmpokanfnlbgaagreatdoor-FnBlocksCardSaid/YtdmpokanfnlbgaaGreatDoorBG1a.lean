/- Parts of the proof of a law, joined: Cursor Draw1 Draw2 Draw2p D3 Stretch FarAll OrbT Rooted FRmath FRlist MkT PathT ArcLit SArcs5 SSumOf SIsGraph SArcsOf BlkT Trace CycA ZetaP. -/
import Derived.Laws.Bits128
import Derived.Test.YtdmpokanfnlbgaaGreatDoorProg
import Derived.BigQuiet
import Derived.Deep.RegionLaw
import Derived.Laws.CopyOwn
import Derived.Test.YtdmpokanfnlbgaaGreatDoorBG0a
import Derived.Test.YtdmpokanfnlbgaaGreatDoorBThA
import Derived.Test.YtdmpokanfnlbgaaGreatDoorBG0b
namespace Go.Proofs.YtdmpokanfnlbgaaGreatDoor
open Go.RowKit
set_option linter.all false
/- The cursor of the draws: a block of three cells; what is drawn from it is some number within bounds. -/
/-- A slice of bytes that can be read. -/
def Bytes (w : World) (ao : Option Addr) (n : Nat) : Prop := n ≤ 1099511627776 ∧ ∀ i, i < n → ∃ b o x, ao = some ⟨b, o, none⟩ ∧ w.cell? ⟨b, o + i, none⟩ = some (.int .u8 x) ∧ 0 ≤ x ∧ x ≤ 255
theorem Bytes.keep {w w' : World} {ao : Option Addr} {n : Nat} (h : Bytes w ao n) (hb : Below w.heap.size w w') : Bytes w' ao n := by
  refine ⟨h.1, fun i hi => ?_⟩
  obtain ⟨b, o, x, e, hc, hx⟩ := h.2 i hi
  exact ⟨b, o, x, e, (hb.cell (p := ⟨b, o + i, none⟩) (World.block_lt_of_cell? w _ hc)).trans hc, hx⟩
def Cur (w : World) (b lo : Nat) : Prop := lo ≤ b ∧ ∃ ao n c, ∃ k : Nat, ∃ h : Int, w.heap[b]? = some (.cells #[.slice ao n c, .int .i64 k, .int .i64 h] 65 (0, 0)) ∧ k ≤ n ∧ n ≤ 1099511627776 ∧
  ∀ i, i < n → ∃ q o x, ao = some ⟨q, o, none⟩ ∧ q < lo ∧ w.cell? ⟨q, o + i, none⟩ = some (.int .u8 x) ∧ 0 ≤ x ∧ x ≤ 255
theorem Cur.lt {w : World} {b lo : Nat} (h : Cur w b lo) : lo ≤ b ∧ b < w.heap.size := by
  obtain ⟨h1, ao, n, c, k, x, hh, _⟩ := h
  exact ⟨h1, (Array.getElem?_eq_some_iff.1 hh).1⟩
theorem Cur.drewN {w : World} {b lo : Nat} (h : Cur w b lo) (n : Nat) : Cur (w.drewN n) b lo := h
theorem Cur.keep {w w' : World} {b lo : Nat} (h : Cur w b lo) (hb : Below w.heap.size w w') : Cur w' b lo := by
  have hl := h.lt
  obtain ⟨h1, ao, n, c, k, x, hh, h2, h3, h4⟩ := h
  refine ⟨h1, ao, n, c, k, x, (hb.block b hl.2).trans hh, h2, h3, fun i hi => ?_⟩
  obtain ⟨q, o, y, e, hq, hc, hy⟩ := h4 i hi
  exact ⟨q, o, y, e, hq, (hb.cell (p := ⟨q, o + i, none⟩) (World.block_lt_of_cell? w _ hc)).trans hc, hy⟩
theorem Cur.grown {w w' : World} {b lo : Nat} {row : Option Nat} (h : Cur w b lo) (hb : w.grownBy w' row) (hr : ∀ g, row = some g → b < g) : Cur w' b lo := by
  have hl := h.lt
  obtain ⟨h1, ao, n, c, k, x, hh, h2, h3, h4⟩ := h
  refine ⟨h1, ao, n, c, k, x, (hb.block b hl.2 (fun e => by have := hr b e.symm; omega)).trans hh, h2, h3, fun i hi => ?_⟩
  obtain ⟨q, o, y, e, hq, hc, hy⟩ := h4 i hi
  refine ⟨q, o, y, e, hq, ?_, hy⟩
  have := hb.block q (by omega) (fun e => by have := hr q e.symm; omega)
  unfold World.cell? at hc ⊢
  simp only at hc ⊢
  rw [this]
  exact hc
theorem heap_cells {w : World} {b : Nat} {cs : Array Value} {t : TypeId} (h : w.heap[b]? = some (.cells cs t (0, 0))) (i : Nat) : w.cell? ⟨b, i, none⟩ = cs[i]? ∧ w.frozen? ⟨b, i, none⟩ = false := by
  constructor
  · simp [World.cell?, h]
  · simp [World.frozen?, h]
/-- One cell of the cursor is written. -/
theorem Cur.wrote {w : World} {b lo : Nat} {ao : Option Addr} {n c : Nat} {k : Nat} {h : Int} (h1 : lo ≤ b) (hh : w.heap[b]? = some (.cells #[.slice ao n c, .int .i64 k, .int .i64 h] 65 (0, 0))) (h2 : k ≤ n) (h3 : n ≤ 1099511627776)
    (h4 : ∀ i, i < n → ∃ q o x, ao = some ⟨q, o, none⟩ ∧ q < lo ∧ w.cell? ⟨q, o + i, none⟩ = some (.int .u8 x) ∧ 0 ≤ x ∧ x ≤ 255) (j : Nat) (u : Value) :
    (w.setCell ⟨b, j, none⟩ u).heap[b]? = some (.cells (#[.slice ao n c, .int .i64 k, .int .i64 h].setIfInBounds j u) 65 (0, 0)) ∧
    (∀ i, i < n → ∃ q o x, ao = some ⟨q, o, none⟩ ∧ q < lo ∧ (w.setCell ⟨b, j, none⟩ u).cell? ⟨q, o + i, none⟩ = some (.int .u8 x) ∧ 0 ≤ x ∧ x ≤ 255) ∧ w.grownBy (w.setCell ⟨b, j, none⟩ u) (some b) := by
  refine ⟨heap_setCell_same w b j _ _ u hh, fun i hi => ?_, only_setCell (World.grownBy.refl w _) rfl u⟩
  obtain ⟨q, o, x, e, hq, hc, hx⟩ := h4 i hi
  exact ⟨q, o, x, e, hq, (World.cell?_setCell_far w _ _ u (by show b ≠ q; omega)).trans hc, hx⟩
theorem and255 (n : Int) : 0 ≤ bits .and .i64 n 255 ∧ bits .and .i64 n 255 ≤ 255 := by
  have h255 : (BitVec.ofInt 64 255).toNat = 2 ^ 8 - 1 := by decide
  have key : (BitVec.ofInt 64 n &&& BitVec.ofInt 64 255).toNat = (BitVec.ofInt 64 n).toNat % 2 ^ 8 := by
    rw [BitVec.toNat_and, h255, Nat.and_two_pow_sub_one_eq_mod]
  have e : bits .and .i64 n 255 = (((BitVec.ofInt 64 n).toNat % 2 ^ 8 : Nat) : Int) := by
    show IntKind.i64.wrap ((BitVec.ofInt 64 n &&& BitVec.ofInt 64 255).toNat : Nat) = _
    rw [key, IntKind.wrap_i64]
    omega
  rw [e]
  omega
theorem grown_drewN {w w' : World} {row : Option Nat} (h : w.grownBy w' row) (n : Nat) : w.grownBy (w'.drewN n) row := ⟨h.os, h.tape, h.output, h.size, h.block⟩
theorem grown_of_below {w w' : World} {row : Option Nat} (h : Below w.heap.size w w') : w.grownBy w' row := ⟨h.os, h.tape, h.output, h.size, fun k hk _ => h.block k hk⟩
theorem below_of_grown {w w' : World} {b B : Nat} (h : w.grownBy w' (some b)) (hB : B ≤ b) (hs : B ≤ w.heap.size) : Below B w w' := ⟨h.os, h.tape, h.output, h.size, fun k hk => h.block k (by omega) (fun e => by injection e; omega)⟩
theorem OInts.away {w w' : World} {lo n b : Nat} {v : Value} {xs : List Int} (h : OInts w lo v n xs) (hg : w.grownBy w' (some b)) (hb : b < lo) : OInts w' lo v n xs := by
  refine h.grown hg ?_
  cases hv : v.ownBlock with
  | none => exact .inl rfl
  | some g => right; intro e; injection e with e; have := h.ownlt g hv; omega
theorem OIntss.away {w w' : World} {lo n b : Nat} {v : Value} {xss : List (List Int)} (h : OIntss w lo v n xss) (hg : w.grownBy w' (some b)) (hb : b < lo) : OIntss w' lo v n xss :=
  h.since ⟨hg.size, fun k h1 h2 => hg.block k h2 (fun e => by injection e; omega)⟩
theorem OInts.lit_ {w : World} {lo n : Nat} {xs : List Int} {arr : Array Value} (hlo : lo ≤ w.heap.size) (ha : arr.toList = xs.map (.int .i64)) (hn : xs.length = n) (hm : n ≤ 1048576) : OInts (w.alloc (.cells arr 3)) lo (.slice (some ⟨w.heap.size, 0, none⟩) n n) n xs := by
  have hs : arr.size = n := by have := congrArg List.length ha; simpa [hn] using this
  refine ⟨by omega, ?_⟩
  have h := World.ownsRow_lit (base := lo) (e := 3) (size := 1) w arr n hlo (by unfold maxLen; omega) (by omega)
  rw [ha] at h
  exact h
theorem OIntss.lit {W : World} {lo n : Nat} {vs : List Value} {xss : List (List Int)} {arr : Array Value} (hlo : lo ≤ W.heap.size) (ha : arr.toList = vs) (hn : vs.length = n) (hl : xss.length = n) (hm : n ≤ 1048576)
    (hr : ∀ (i : Nat) (u : Value) (r : List Int), vs[i]? = some u → xss[i]? = some r → OInts W lo u r.length r)
    (hd : ∀ (i j : Nat) (u u' : Value), i ≠ j → vs[i]? = some u → vs[j]? = some u' → u.ownBlock = none ∨ u.ownBlock ≠ u'.ownBlock) :
    OIntss (W.alloc (.cells arr 49)) lo (.slice (some ⟨W.heap.size, 0, none⟩) n n) n xss := by
  have hs : arr.size = n := by have := congrArg List.length ha; simpa [hn] using this
  have h := World.ownsRow_lit (base := lo) (e := 49) (size := 1) W arr n hlo (by unfold maxLen; omega) (by omega)
  rw [ha] at h
  exact ⟨by omega, hl, vs, h, fun i u r hu hx => (hr i u r hu hx).alloc _, hd⟩
theorem OIntss.lit2 {W : World} {lo : Nat} {u0 u1 : Value} {r0 r1 : List Int} (hlo : lo ≤ W.heap.size) (h0 : OInts W lo u0 r0.length r0) (h1 : OInts W lo u1 r1.length r1) (hne : u0.ownBlock ≠ u1.ownBlock) :
    OIntss (W.alloc (.cells #[u0, u1] 49)) lo (.slice (some ⟨W.heap.size, 0, none⟩) 2 2) 2 [r0, r1] := by
  refine OIntss.lit (vs := [u0, u1]) hlo rfl rfl rfl (by omega) (fun i u r hu hx => ?_) (fun i j u u' hij hu hu' => ?_)
  · match i, hu, hx with
    | 0, hu, hx => simp at hu hx; subst hu; subst hx; exact h0
    | 1, hu, hx => simp at hu hx; subst hu; subst hx; exact h1
    | i + 2, hu, _ => simp at hu
  · match i, j, hij, hu, hu' with
    | 0, 0, hij, _, _ => exact absurd rfl hij
    | 1, 1, hij, _, _ => exact absurd rfl hij
    | 0, 1, _, hu, hu' => simp at hu hu'; subst hu; subst hu'; exact .inr hne
    | 1, 0, _, hu, hu' => simp at hu hu'; subst hu; subst hu'; exact .inr (fun e => hne e.symm)
    | i + 2, _, _, hu, _ => simp at hu
    | 0, j + 2, _, _, hu' => simp at hu'
    | 1, j + 2, _, _, hu' => simp at hu'
end Go.Proofs.YtdmpokanfnlbgaaGreatDoor

namespace Go.Proofs.YtdmpokanfnlbgaaGreatDoor
open Go.RowKit
set_option linter.all false
theorem heap_new (w : World) (o : Obj) : (w.alloc o).heap[w.heap.size]? = some o := by
  show (w.heap.push o)[w.heap.size]? = some o
  simp
theorem cur_new {w : World} {ao : Option Addr} {n c : Nat} {y : Int} {e : Ending} (h : Bytes w ao n) (he : e = .returned (.pointer (some ⟨w.heap.size, 0, none⟩))) :
    e = .returned (.pointer (some ⟨w.heap.size, 0, none⟩)) ∧ Cur (w.alloc (.cells #[.slice ao n c, .int .i64 0, .int .i64 y] 65)) w.heap.size w.heap.size ∧ Below w.heap.size w (w.alloc (.cells #[.slice ao n c, .int .i64 0, .int .i64 y] 65)) := by
  have hb := (Below.refl w.heap.size w).alloc (Nat.le_refl _) (.cells #[.slice ao n c, .int .i64 0, .int .i64 y] 65)
  refine ⟨he, ⟨Nat.le_refl _, ao, n, c, 0, y, heap_new _ _, Nat.zero_le _, h.1, fun i hi => ?_⟩, hb⟩
  obtain ⟨b, o, x, e, hc, hx⟩ := h.2 i hi
  have hl := World.block_lt_of_cell? w _ hc
  exact ⟨b, o, x, e, hl, (hb.cell (p := ⟨b, o + i, none⟩) hl).trans hc, hx⟩
set_option maxHeartbeats 1600000 in
theorem l1New_any (ao : Option Addr) (n c : Nat) (w : World) (h : Bytes w ao n) :
    Calls Tryz.prog 29 #[.slice ao n c] w fun e w' => e = .returned (.pointer (some ⟨w.heap.size, 0, none⟩)) ∧ Cur w' w.heap.size w.heap.size ∧ Below w.heap.size w w' := by
  have hm := h.1
  have H := Lib.hid h
  clear h
  go_enter Tryz.func29, Tryz.ntmps29
  go_wp2_with fail
  go_loop [3, 4] (fun vh x => ∃ (k : Nat) (y : Int), k ≤ n ∧ x = .int .i64 k ∧ vh = .int .i64 y) (fun _ x => n - (intOf x).toNat)
  case atStart => exact ⟨0, _, Nat.zero_le _, rfl, rfl⟩
  case round =>
    obtain ⟨k, y, hk, rfl, rfl⟩ := hrel
    by_cases hlt : k < n
    · by_cases h4 : (k : Int) < 4000
      · have hd : decide ((k : Int) < 4000) = true := by simpa using h4
        obtain ⟨b, o, x, rfl, hc, hx0, hx1⟩ := H.out.2 k hlt
        clear h4
        go_wp2_with fail
        go_round
        case rel => exact ⟨k + 1, _, hlt, by go_num, rfl⟩
        case measure => simp [intOf]; omega
      · have hd : decide ((k : Int) < 4000) = false := by simpa using h4
        clear h4
        go_wp2_with fail
        go_ret
        exact cur_new H.out rfl
    · go_wp2_with fail
      go_ret
      exact cur_new H.out rfl
theorem grown_setdrew {w w' : World} {row : Option Nat} {p : Addr} {u : Value} (h : w.grownBy (w'.setCell p u) row) (n : Nat) : w.grownBy ((w'.drewN n).setCell p u) row := ⟨h.os, h.tape, h.output, h.size, h.block⟩
theorem byte_fin {n : Int} {e : Ending} {w w' : World} {c lo : Nat} (hc : Cur w' c lo) (hg : w.grownBy w' (some c)) (he : e = .returned (.int .i64 (bits .and .i64 n 255))) :
    ∃ x : Nat, x ≤ 255 ∧ e = .returned (.int .i64 x) ∧ Cur w' c lo ∧ w.grownBy w' (some c) := by
  have h := and255 n
  refine ⟨(bits .and .i64 n 255).toNat, by omega, ?_, hc, hg⟩
  rw [he]
  congr 2
  omega
set_option maxHeartbeats 3200000 in
theorem l1Byte_any (b lo : Nat) (w : World) (h : Cur w b lo) :
    Calls Tryz.prog 65 #[.pointer (some ⟨b, 0, none⟩)] w fun e w' => ∃ x : Nat, x ≤ 255 ∧ e = .returned (.int .i64 x) ∧ Cur w' b lo ∧ w.grownBy w' (some b) := by
  obtain ⟨h1, ao, n, c, k, y, hh, h2, h3, h4⟩ := h
  have hc0 := (heap_cells hh 0).1
  have hc1 := (heap_cells hh 1).1
  have hc2 := (heap_cells hh 2).1
  have hf1 := (heap_cells hh 1).2
  have hf2 := (heap_cells hh 2).2
  simp only [List.getElem?_toArray, List.getElem?_cons_zero, List.getElem?_cons_succ] at hc0 hc1 hc2
  have HW := Lib.hid (Cur.wrote h1 hh h2 h3 h4 2 (.int .i64 (wrap64 (wrap64 (y * 6364136223846793005) + 1442695040888963407))))
  have H4 := Lib.hid h4
  have HH := Lib.hid hh
  clear hh h4
  by_cases hk : (k : Int) < (n : Int)
  · have hd : decide ((k : Int) < (n : Int)) = true := by simpa using hk
    have hkn : k < n := by omega
    go_enter Tryz.func65, Tryz.ntmps65
    go_wp2_with fail
    generalize w.setCell ⟨b, 2, none⟩ (.int .i64 (wrap64 (wrap64 (y * 6364136223846793005) + 1442695040888963407))) = W1 at HW ⊢
    generalize wrap64 (wrap64 (y * 6364136223846793005) + 1442695040888963407) = y1 at HW ⊢
    clear hc0 hc1 hc2 hf1 hf2 H4 HH
    obtain ⟨hh, h4, hg⟩ := HW.out
    simp only [List.setIfInBounds_toArray, List.set_cons_succ, List.set_cons_zero] at hh
    have hc0 := (heap_cells hh 0).1
    have hc1 := (heap_cells hh 1).1
    have hc2 := (heap_cells hh 2).1
    have hf1 := (heap_cells hh 1).2
    simp only [List.getElem?_toArray, List.getElem?_cons_zero, List.getElem?_cons_succ] at hc0 hc1 hc2
    have HW2 := Lib.hid (Cur.wrote h1 hh h2 h3 h4 1 (.int .i64 ((k : Int) + 1)))
    have HG := Lib.hid hg
    obtain ⟨q, o, x, rfl, hq, hcx, hx0, hx1⟩ := h4 k hkn
    clear hh h4 hg HW
    go_quiet (fail)
    go_wp2_with fail
    go_quiet (fail)
    go_wp2_with fail
    go_quiet (fail)
    go_wp2_with fail
    go_ret
    refine byte_fin (c := b) (w := w) ?_ ?_ rfl
    · exact (Cur.drewN ⟨h1, _, n, c, k + 1, y1, HW2.out.1, hkn, h3, HW2.out.2.1⟩ 3)
    · exact grown_setdrew (HG.out.trans HW2.out.2.2) _
  · have hd : decide ((k : Int) < (n : Int)) = false := by simpa using hk
    go_enter Tryz.func65, Tryz.ntmps65
    go_wp2_with fail
    generalize w.setCell ⟨b, 2, none⟩ (.int .i64 (wrap64 (wrap64 (y * 6364136223846793005) + 1442695040888963407))) = W1 at HW ⊢
    generalize wrap64 (wrap64 (y * 6364136223846793005) + 1442695040888963407) = y1 at HW ⊢
    clear hc0 hc1 hc2 hf1 hf2 H4 HH
    obtain ⟨hh, h4, hg⟩ := HW.out
    simp only [List.setIfInBounds_toArray, List.set_cons_succ, List.set_cons_zero] at hh
    have hc0 := (heap_cells hh 0).1
    have hc1 := (heap_cells hh 1).1
    have hc2 := (heap_cells hh 2).1
    simp only [List.getElem?_toArray, List.getElem?_cons_zero, List.getElem?_cons_succ] at hc0 hc1 hc2
    have HCu : Hid (Cur W1 b lo) := ⟨h1, ao, n, c, k, y1, hh, h2, h3, h4⟩
    have HG := Lib.hid hg
    clear hh h4 hg HW
    go_quiet (fail)
    go_wp2_with fail
    go_quiet (fail)
    go_wp2_with fail
    go_ret
    refine byte_fin (c := b) (w := w) ?_ ?_ rfl
    · exact HCu.out
    · exact grown_drewN (grown_drewN HG.out _) _
set_option maxHeartbeats 1600000 in
theorem l1Below_any (b lo n : Nat) (w : World) (h : Cur w b lo) (hn : 1 ≤ n) (hm : n ≤ 256) :
    Calls Tryz.prog 37 #[.pointer (some ⟨b, 0, none⟩), .int .i64 n] w fun e w' => ∃ x : Nat, x < n ∧ e = .returned (.int .i64 x) ∧ Cur w' b lo ∧ w.grownBy w' (some b) := by
  have H := Lib.hid h
  clear h
  have hd1 : decide ((n : Int) ≤ 0) = false := by simp; omega
  have hd2 : decide ((n : Int) ≤ 256) = true := by simp; omega
  go_enter Tryz.func37, Tryz.ntmps37
  go_wp2_with (go_at_call 65; refine (l1Byte_any b lo _ H.out).mono ?_; rintro e w1 ⟨x, hx, rfl, hc1, hg1⟩; have Hc1 := Lib.hid hc1; have Hg1 := Lib.hid hg1; clear hc1 hg1)
  go_ret
  exact ⟨x % n, Nat.mod_lt _ (by omega), ret_int (by simp), Hc1.out, Hg1.out⟩
set_option maxHeartbeats 800000 in
theorem l1Once_any (b lo n : Nat) (w : World) (h : Cur w b lo) (hn : 1 ≤ n) (hm : n ≤ 256) :
    Calls Tryz.prog 38 #[.pointer (some ⟨b, 0, none⟩), .int .i64 n] w fun e w' => ∃ t : Bool, e = .returned (.bool t) ∧ Cur w' b lo ∧ w.grownBy w' (some b) := by
  have H := Lib.hid h
  clear h
  go_enter Tryz.func38, Tryz.ntmps38
  go_wp2_with (go_at_call 37; refine (l1Below_any b lo n _ H.out hn hm).mono ?_; rintro e w1 ⟨x, hx, rfl, hc1, hg1⟩; have Hc1 := Lib.hid hc1; have Hg1 := Lib.hid hg1; clear hc1 hg1)
  go_ret
  exact ⟨_, rfl, Hc1.out, Hg1.out⟩
set_option maxHeartbeats 1600000 in
theorem l1PickInt_any (b lo lo' n cap : Nat) (ao : Option Addr) (xs : List Int) (w : World) (h : Cur w b lo) (ho : OInts w lo' (.slice ao n cap) n xs) (hb : b < lo') (hn : 1 ≤ n) (hm : n ≤ 256) :
    Calls Tryz.prog 58 #[.pointer (some ⟨b, 0, none⟩), .slice ao n cap] w fun e w' => ∃ x ∈ xs, e = .returned (.int .i64 x) ∧ Cur w' b lo ∧ w.grownBy w' (some b) := by
  have H := Lib.hid h
  have HO := Lib.hid ho
  clear h ho
  go_enter Tryz.func58, Tryz.ntmps58
  go_wp2_with (go_at_call 37; refine (l1Below_any b lo n _ H.out hn hm).mono ?_; rintro e w1 ⟨x, hx, rfl, hc1, hg1⟩; obtain ⟨q, o, y, rfl, hcy, hgy⟩ := ((HO.out.away hg1 hb).read).at_ hx; have Hc1 := Lib.hid hc1; have Hg1 := Lib.hid hg1; clear hc1 hg1)
  go_ret
  exact ⟨_, List.mem_of_getElem? hgy.out, rfl, Hc1.out, Hg1.out⟩
end Go.Proofs.YtdmpokanfnlbgaaGreatDoor

namespace Go.Proofs.YtdmpokanfnlbgaaGreatDoor
open Go.RowKit
set_option linter.all false
theorem rows_set {T : List (List Int)} {n i : Nat} {r : List Int} (h : RowsLen T n) (hr : r.length = n) : RowsLen (T.set i r) n := by
  intro k q hk
  rw [List.getElem?_set] at hk
  split at hk
  · split at hk
    · injection hk with hk
      subst hk
      exact hr
    · cases hk
  · exact h k q hk
theorem rows_rep (n c : Nat) : RowsLen (List.replicate n (List.replicate c (0 : Int))) c := by
  intro k q hk
  have := List.mem_of_getElem? hk
  rw [List.mem_replicate] at this
  rw [this.2]; simp
theorem grown_new {w w' : World} {row : Option Nat} (h : w.grownBy w' row) {p : Addr} (hp : w.heap.size ≤ p.block) (u : Value) : w.grownBy (w'.setCell p u) row :=
  ⟨h.os, h.tape, h.output, by simpa [World.setCell] using h.size, fun k hk hne => (Below.heap_setCell w' p u k (by rintro rfl; omega)).trans (h.block k hk hne)⟩
theorem cell_grown {w w' : World} {row : Option Nat} {p : Addr} {v : Value} (hg : w.grownBy w' row) (hc : w.cell? p = some v) (hne : some p.block ≠ row) : w'.cell? p = some v := by
  have hl := World.block_lt_of_cell? w _ hc
  have := hg.block p.block hl hne
  unfold World.cell? at hc ⊢
  rw [this]
  exact hc
theorem gr_alloc {w w' : World} {b : Nat} (h : w.grownBy w' (some b)) (o : Obj) : w.grownBy (w'.alloc o) (some b) :=
  h.trans (grown_of_below ((Below.refl _ _).alloc (Nat.le_refl _) o))
theorem Since.rowD {lo hi : Nat} {a b c : World} {v : Value} (h : Since lo hi a b) (k : b.grownBy c v.ownBlock) (hv : ∀ g, v.ownBlock = some g → g < lo ∨ hi ≤ g) (hs : hi ≤ b.heap.size) : Since lo hi a c :=
  ⟨Nat.le_trans h.size k.size, fun i h1 h2 => (k.block i (by omega) (fun e => by have := hv i e.symm; omega)).trans (h.block i h1 h2)⟩
theorem Since.apartD {lo hi g : Nat} {a b c : World} (h : Since lo hi a b) (k : b.grownBy c (some g)) (hg : g < lo) (hs : hi ≤ b.heap.size) : Since lo hi a c :=
  ⟨Nat.le_trans h.size k.size, fun i h1 h2 => (k.block i (by omega) (fun e => by injection e; omega)).trans (h.block i h1 h2)⟩
theorem hi_setD {lo hi g k : Nat} {a b : World} (h : Since lo hi a b) (hg : hi ≤ g) (u : Value) : Since lo hi a (b.setCell ⟨g, k, none⟩ u) :=
  ⟨by simpa [World.setCell] using h.size, fun i h1 h2 => (Below.heap_setCell b ⟨g, k, none⟩ u i (by show i ≠ g; omega)).trans (h.block i h1 h2)⟩
theorem grown_farV {w W w' : World} {b : Nat} {v : Value} (h : w.grownBy W (some b)) (k : W.grownBy w' v.ownBlock) (hg : ∀ g, v.ownBlock = some g → w.heap.size ≤ g) : w.grownBy w' (some b) := by
  refine ⟨k.os.trans h.os, ?_, k.output.trans h.output, Nat.le_trans h.size k.size, fun i hi hne => (k.block i (Nat.lt_of_lt_of_le hi h.size) (by intro e; have := hg i e.symm; omega)).trans (h.block i hi hne)⟩
  first | exact k.tape.trans h.tape | exact Nat.le_trans h.tape k.tape | exact h.tape.trans k.tape
theorem OInts.self {w : World} {lo n : Nat} {v : Value} {xs : List Int} (h : OInts w lo v n xs) : OInts w lo v xs.length xs := by
  rw [h.len]; exact h
theorem OIntss.self {w : World} {lo n : Nat} {v : Value} {xss : List (List Int)} (h : OIntss w lo v n xss) : OIntss w lo v xss.length xss := by
  rw [h.len]; exact h
end Go.Proofs.YtdmpokanfnlbgaaGreatDoor

namespace Go.Proofs.YtdmpokanfnlbgaaGreatDoor
open Go.RowKit
set_option linter.all false
set_option maxRecDepth 20000 in
set_option maxHeartbeats 3200000 in
theorem l1Pick_any (b lo g n cap : Nat) (ss : List ByteArray) (w : World) (h : Cur w b lo) (hl : ss.length = n) (hc : ∀ i s, ss[i]? = some s → w.cell? ⟨g, i, none⟩ = some (.string s)) (hb : b ≠ g) (hn : 1 ≤ n) (hm : n ≤ 256) :
    Calls Tryz.prog 64 #[.pointer (some ⟨b, 0, none⟩), .slice (some ⟨g, 0, none⟩) n cap] w fun e w' => ∃ s ∈ ss, e = .returned (.string s) ∧ Cur w' b lo ∧ w.grownBy w' (some b) := by
  have H := Lib.hid h
  have HC := Lib.hid hc
  have HL := Lib.hid hl
  clear h hc hl
  go_enter Tryz.func64, Tryz.ntmps64
  go_wp2_with (first
    | (go_at_call 37; refine (l1Below_any b lo n _ H.out hn hm).mono ?_; rintro e w1 ⟨x, hx, rfl, hc1, hg1⟩; obtain ⟨s, hs⟩ : ∃ s, ss[x]? = some s := ⟨_, List.getElem?_eq_getElem (by rw [HL.out]; exact hx)⟩; have q := cell_grown hg1 (HC.out x s hs) (by simp; exact Ne.symm hb); have Hc1 := Lib.hid hc1; have Hg1 := Lib.hid hg1; have HS := Lib.hid (List.mem_of_getElem? hs); clear hc1 hg1 hs))
  go_ret
  exact ⟨s, HS.out, rfl, Hc1.out, Hg1.out⟩
end Go.Proofs.YtdmpokanfnlbgaaGreatDoor

namespace Go.Proofs.YtdmpokanfnlbgaaGreatDoor
open Go.RowKit
set_option linter.all false
/- The draws of words and of shifts. -/
theorem Cur.put {w : World} {b lo : Nat} (h : Cur w b lo) {p : Addr} (hp : b < p.block) (u : Value) : Cur (w.setCell p u) b lo :=
  h.grown (row := some p.block) (only_setCell (World.grownBy.refl w (some p.block)) rfl u) (fun g e => by injection e; omega)
theorem Cur.below {B : Nat} {w w' : World} {b lo : Nat} (h : Cur w b lo) (hb : Below B w w') (hB : b < B) : Cur w' b lo := by
  have hl := h.lt
  obtain ⟨h1, ao, n, c, k, x, hh, h2, h3, h4⟩ := h
  refine ⟨h1, ao, n, c, k, x, (hb.block b hB).trans hh, h2, h3, fun i hi => ?_⟩
  obtain ⟨q, o, y, e, hq, hc, hy⟩ := h4 i hi
  exact ⟨q, o, y, e, hq, (hb.cell (p := ⟨q, o + i, none⟩) (by show q < B; omega)).trans hc, hy⟩
theorem grown_belowB {B b : Nat} {w W w' : World} (h : w.grownBy W (some b)) (k : Below B W w') (hB : w.heap.size ≤ B) : w.grownBy w' (some b) := by
  refine ⟨k.os.trans h.os, ?_, k.output.trans h.output, Nat.le_trans h.size k.size, fun i hi hne => (k.block i (by omega)).trans (h.block i hi hne)⟩
  first | exact k.tape.trans h.tape | exact Nat.le_trans h.tape k.tape | exact h.tape.trans k.tape
theorem Blk.below {B : Nat} {w w' : World} {g : Nat} {t : TypeId} {us : Array Value} (h : Blk w g t us) (hb : Below B w w') (hg : g < B) : Blk w' g t us := (hb.block g hg).trans h
theorem OStrs.setFar' {w : World} {lo n : Nat} {v : Value} {ss : List ByteArray} (h : OStrs w lo v n ss) {p : Addr} (hne : v.ownBlock ≠ some p.block) (u : Value) : OStrs (w.setCell p u) lo v n ss :=
  h.grown (row := some p.block) (only_setCell (World.grownBy.refl w (some p.block)) rfl u) (by
    cases hv : v.ownBlock with
    | none => exact .inl rfl
    | some g => right; intro e; injection e with e; exact hne (hv.trans (by rw [e])))
def abc3 : List ByteArray := [⟨#[97]⟩, ⟨#[98]⟩, ⟨#[99]⟩]
theorem abc3_one {s : ByteArray} {k : Nat} (h : s ∈ abc3.take k) : s.size = 1 := by
  have h := List.mem_of_mem_take h
  simp only [abc3, List.mem_cons, List.not_mem_nil, or_false] at h
  rcases h with rfl | rfl | rfl <;> rfl
theorem abc3_len {k : Nat} (h : k ≤ 3) : (abc3.take k).length = k := by simp [abc3]; omega
theorem abc3_cell (w : World) (k i : Nat) (s : ByteArray) (hs : (abc3.take k)[i]? = some s) : (w.alloc (.cells (abc3.map Value.string).toArray 9)).cell? ⟨w.heap.size, i, none⟩ = some (.string s) := by
  have : abc3[i]? = some s := by
    rw [List.getElem?_take] at hs
    split at hs
    · exact hs
    · cases hs
  exact (OStrs.lit w w.heap.size abc3 (Nat.le_refl _) (by decide)).cell this
set_option maxRecDepth 20000 in
set_option maxHeartbeats 3200000 in
theorem l2Draw_gen (b lo k most : Nat) (w : World) (h : Cur w b lo) (hk1 : 1 ≤ k) (hk3 : k ≤ 3) (hm : most ≤ 20) :
    Calls Tryz.prog 87 #[.pointer (some ⟨b, 0, none⟩), .int .i64 k, .int .i64 most] w fun e w' => ∃ s : ByteArray, s.size ≤ most ∧ e = .returned (.string s) ∧ Cur w' b lo ∧ w.grownBy w' (some b) := by
  have H := Lib.hid h
  obtain ⟨M, hM⟩ : ∃ M : Nat, (most : Int) + 1 = M := ⟨most + 1, by omega⟩
  have HM : Hid (M = most + 1) := by show _ = _; omega
  have hM1 : 1 ≤ M := by omega
  have hM2 : M ≤ 256 := by omega
  clear h
  go_enter Tryz.func87, Tryz.ntmps87
  go_wp2_with (first
    | (go_at_call 37; refine (l1Below_any b lo M _ H.out hM1 hM2).mono ?_; rintro e w1 ⟨m, hm, rfl, hc1, hg1⟩; have Hc1 := Lib.hid hc1; have Hg1 := Lib.hid hg1; clear hc1 hg1))
  clear hM
  go_loopw [7, 8] (fun v x wr => ∃ (i : Nat) (s : ByteArray), v = .string s ∧ x = .int .i64 i ∧ s.size + i ≤ most ∧ Cur wr b lo ∧ w.grownBy wr (some b)) (fun _ x _ => (intOf x).toNat)
  case atStart => exact ⟨m, ⟨#[]⟩, rfl, rfl, by have := HM.out; simp [ByteArray.size]; omega, Hc1.out, Hg1.out⟩
  case round =>
    obtain ⟨i, s, rfl, rfl, hsz, hcu, hgr⟩ := hrel
    have Hcu := Lib.hid hcu
    have Hgr := Lib.hid hgr
    have hbl := hcu.lt.2
    clear Hc1 Hg1 hcu hgr
    by_cases hi0 : 0 < i
    · have hq : ¬ (9223372036854775807 < s.size + 1) := by omega
      have hs2 := slice_toS (some ⟨wr.heap.size, 0, none⟩) 3 3 k hk3
      have HLC := Lib.hid (abc3_cell wr k)
      have HAL := Lib.hid (abc3_len hk3)
      go_wp2_with (first
        | (go_at_call 64; refine (l1Pick_any b lo wr.heap.size k 3 (abc3.take k) _ (Hcu.out.keep ((Below.refl _ _).alloc (Nat.le_refl _) _)) HAL.out HLC.out (by omega) hk1 (by omega)).mono ?_; rintro e w2 ⟨t, ht, rfl, hc2, hg2⟩; have ht1 := abc3_one ht; have Hc2 := Lib.hid hc2; have Hg2 := Lib.hid ((gr_alloc Hgr.out _).trans hg2); clear ht hc2 hg2; rw [← ht1] at hq))
      go_roundw
      case rel => exact ⟨i - 1, s ++ t, rfl, by go_num, by rw [ByteArray.size_append]; omega, Hc2.out, Hg2.out⟩
      case measure => simp [intOf]; omega
    · go_wp2_with fail
      go_ret
      exact ⟨s, by omega, rfl, Hcu.out, Hgr.out⟩
def shS (s : ByteArray) (d : Nat) (F : List ByteArray) : Prop := pieces s 32 = digB d :: F ∧ d ≤ 9 ∧ isSh d F = true ∧ s.size ≤ 1000
def strs11 : List ByteArray := [⟨#[50, 32, 98, 98]⟩, ⟨#[50, 32, 97, 97, 32, 98, 98]⟩, ⟨#[50, 32, 97, 97, 98]⟩, ⟨#[51, 32, 97, 98, 32, 98, 99, 32, 99, 97]⟩, ⟨#[50]⟩, ⟨#[49]⟩, ⟨#[51, 32, 97, 97, 32, 98, 98, 32, 99, 99]⟩, ⟨#[50, 32, 97, 98, 97, 32, 98, 97, 98]⟩, ⟨#[50, 32, 97, 98]⟩, ⟨#[50, 32, 97, 97, 97, 32, 98, 98]⟩, ⟨#[51, 32, 97, 99, 32, 98, 98]⟩]
def shifts11 : List (Nat × List ByteArray) := [(2, [⟨#[98, 98]⟩]), (2, [⟨#[97, 97]⟩, ⟨#[98, 98]⟩]), (2, [⟨#[97, 97, 98]⟩]), (3, [⟨#[97, 98]⟩, ⟨#[98, 99]⟩, ⟨#[99, 97]⟩]), (2, []), (1, []), (3, [⟨#[97, 97]⟩, ⟨#[98, 98]⟩, ⟨#[99, 99]⟩]), (2, [⟨#[97, 98, 97]⟩, ⟨#[98, 97, 98]⟩]), (2, [⟨#[97, 98]⟩]), (2, [⟨#[97, 97, 97]⟩, ⟨#[98, 98]⟩]), (3, [⟨#[97, 99]⟩, ⟨#[98, 98]⟩])]
theorem strs11_all : ∀ p ∈ strs11.zip shifts11, shS p.1 p.2.1 p.2.2 := by unfold shS; decide +kernel
theorem strs11_get {s : ByteArray} (h : s ∈ strs11) : ∃ d F, shS s d F := by
  obtain ⟨i, hi⟩ := List.getElem?_of_mem h
  have hl : i < 11 := (List.getElem?_eq_some_iff.1 hi).1
  have hl2 : shifts11.length = 11 := by decide
  have hm : shifts11[i]? = some (shifts11[i]'(by omega)) := List.getElem?_eq_getElem _
  have hz : (strs11.zip shifts11)[i]? = some (s, shifts11[i]'(by omega)) := by rw [List.getElem?_zip_eq_some]; exact ⟨hi, hm⟩
  exact ⟨_, _, strs11_all _ (List.mem_of_getElem? hz)⟩
theorem below_sh2 {B : Nat} {a w : World} (h : Below B a w) {g : Nat} (hg : B ≤ g) (u0 u1 : Value) : Below B a ((w.setCell ⟨g, 0, none⟩ u0).setCell ⟨g, 1, none⟩ u1) :=
  (h.setCell (p := ⟨g, _, none⟩) hg u0).setCell (p := ⟨g, _, none⟩) hg u1
set_option maxRecDepth 20000 in
set_option maxHeartbeats 6400000 in
theorem sParseSh_any (s : ByteArray) (d : Nat) (F : List ByteArray) (w : World) (h : shS s d F) :
    Calls Tryz.prog 86 #[.string s] w fun e w' => ∃ v, e = .returned (.tuple #[.agg #[.int .i64 d, v], .bool true]) ∧ OStrs w' w.heap.size v F.length F ∧ Below w.heap.size w w' := by
  obtain ⟨hp, hd9, hsh, hs⟩ := h
  have HC := fun W => sSplitByte_any s 32 W (by omega) (by omega)
  rw [hp] at HC
  have HSH := Lib.hid hsh
  have HFZ : Hid (∀ f ∈ F, f.size ≤ 1048576) := fun f hf => by have := ((isSh_get hsh).2.2 f hf).2; omega
  obtain ⟨m, hm⟩ : ∃ m, F.length = m := ⟨_, rfl⟩
  have HM := Lib.hid hm
  have hm8 : m ≤ 8 := by have := (isSh_get hsh).2.1; omega
  simp only [List.length_cons, hm] at HC ⊢
  have HC := Lib.hid HC
  have HZ0 := Lib.hid (Blk.new w 30 #[.int .i64 0, .slice none 0 0])
  have HB1 := Lib.hid (below1 w (.cells #[.int .i64 0, .slice none 0 0] 30))
  clear hp hsh hm
  go_enter Tryz.func86, Tryz.ntmps86
  go_wp2_with fail
  generalize w.alloc (.cells #[.int .i64 0, .slice none 0 0] 30) = w1 at HZ0 HB1 ⊢
  refine (HC.out _).mono ?_
  rintro e w2 ⟨v2, rfl, ho2, hb2⟩
  obtain ⟨g, c2, rfl⟩ := ho2.head (by omega)
  have HO2 := Lib.hid ho2
  have HB2 := Lib.hid (HB1.out.trans (hb2.mono HB1.out.size))
  have HZ2 := Lib.hid (HZ0.out.keep hb2)
  have hg0 : w2.cell? ⟨g, 0, none⟩ = some (.string (digB d)) := ho2.cell rfl
  have hm0 : 0 < m + 1 := by omega
  clear ho2 hb2
  go_wp2_with fail
  refine (parseDig_any d _ hd9).mono ?_
  rintro e w3 ⟨rfl, hb3⟩
  have HO3 := Lib.hid (HO2.out.keep hb3)
  have HB3 := Lib.hid (HB2.out.trans (hb3.mono HB2.out.size))
  have HZ3 := Lib.hid (HZ2.out.keep hb3)
  have hs1 := slice_fromS (some ⟨g, 0, none⟩) HO3.out.ok2 (m + 1) c2 1 (by omega)
  obtain ⟨pa, hpa⟩ : ∃ pa, fromAd (some ⟨g, 0, none⟩) c2 1 = pa := ⟨_, rfl⟩
  have hdr := HO3.out.dropped (i := 1) (by omega)
  rw [hpa, Nat.add_sub_cancel] at hs1 hdr
  rw [show ((1 : Nat) : Int) = 1 from rfl] at hs1
  have HDR : Hid (Strs w3 pa m F) := hdr
  have hm1 : 0 + m ≤ 1099511627776 := by omega
  clear hdr hpa hg0 hb3
  go_wp2_with (at_builtin; refine wpList_app_strs (w3.alloc (.cells #[] 9)) rfl (.tmp 18) (.tmp 20) rfl w3.heap.size _ 0 [] rfl (OStrs.empty _ _ (Nat.le_refl _)) pa m (c2 - 1) F rfl (HDR.out.keep (belowA w3 _)) hm1 (by simp) ?_; intro v4 w4 ho4 hg4 _; rw [Nat.zero_add, List.nil_append] at ho4; obtain ⟨a4, c4, rfl, _⟩ := ho4.form; have HO4 := Lib.hid ho4; have HBw : Hid (Below w3.heap.size w3 w4) := (belowA w3 _).grown hg4 (by simp) (fun b hb => ((OStrs.empty w3 w3.heap.size (Nat.le_refl _)).ownlt b hb).1); have HB4 := Lib.hid (HB3.out.trans (HBw.out.mono HB3.out.size)); have HZ4 := Lib.hid (HZ3.out.keep HBw.out); have HX := Lib.hid (Blk.new w4 30 #[.int .i64 d, .slice a4 m c4]); have k0 := HX.out.cell 0; have k1 := HX.out.cell 1; change _ = some _ at k0; change _ = some _ at k1; have HB5 := Lib.hid (below1 w4 (.cells #[.int .i64 d, .slice a4 m c4] 30)); clear ho4 hg4)
  generalize w4.alloc (.cells #[.int .i64 d, .slice a4 m c4] 30) = w5 at HX HB5 k0 k1 ⊢
  refine (sIsShift_any d a4 m c4 F _ (HO4.out.keep HB5.out).read HFZ.out).mono ?_
  rw [HSH.out]
  rintro e w6 ⟨rfl, hb6⟩
  have HX6 := Lib.hid (HX.out.keep hb6)
  have k0 := HX6.out.cell 0
  have k1 := HX6.out.cell 1
  change _ = some _ at k0
  change _ = some _ at k1
  have HZ6 := Lib.hid ((HZ4.out.keep HB5.out).keep hb6)
  have z0 := HZ6.out.cell 0
  have z1 := HZ6.out.cell 1
  change _ = some _ at z0
  change _ = some _ at z1
  have f0 := HZ6.out.frozen 0
  have f1 := HZ6.out.frozen 1
  have hlz : w.heap.size < w3.heap.size := HZ3.out.lt
  have HO6 := Lib.hid ((HO4.out.keep HB5.out).keep hb6)
  have HNR : Hid ((Value.slice a4 m c4).ownBlock ≠ some w.heap.size) := by
    show _
    intro e
    have := (HO6.out.ownlt _ e).1
    omega
  have HB6 := Lib.hid ((HB4.out.trans (HB5.out.mono HB4.out.size)).trans (hb6.mono (Nat.le_trans HB4.out.size HB5.out.size)))
  clear hb6
  go_wp2_with fail
  refine bodyPost_ret (v := .tuple #[.agg #[.int .i64 d, .slice a4 m c4], .bool true]) (by simp [results, Tryz.results86, go_sem, *]) rfl ?_
  exact ⟨_, rfl, ((HO6.out.mono (Nat.le_of_lt hlz)).setFar' HNR.out _).setFar' HNR.out _, below_sh2 HB6.out (Nat.le_refl _) _ _⟩
end Go.Proofs.YtdmpokanfnlbgaaGreatDoor

namespace Go.Proofs.YtdmpokanfnlbgaaGreatDoor
open Go.RowKit
set_option linter.all false
def strRow (i : Nat) (r : List Int) : List Int := (r ++ [r.getD i 0]).set i 0
def strT (i : Nat) (m : List (List Int)) : List (List Int) := m.map (strRow i)
def lastRow (n i : Nat) : List Int := (List.replicate (n + 1) 0).set i 1
def strOk (m : List (List Int)) (i : Int) : Bool := isMat m && (!(decide (m.length = 9)) && inR i 0 ((m.length : Int) - 1))
def strV (m : List (List Int)) (i : Int) : List (List Int) := if strOk m i then strT i.toNat m ++ [lastRow m.length i.toNat] else []
theorem strT_len (i : Nat) (m : List (List Int)) : (strT i m).length = m.length := by simp [strT]
theorem strT_get {i k : Nat} {m : List (List Int)} {r : List Int} (h : m[k]? = some r) : (strT i m)[k]? = some (strRow i r) := by simp [strT, h]
theorem strRow_len (i : Nat) (r : List Int) : (strRow i r).length = r.length + 1 := by simp [strRow]
theorem lastRow_len (n i : Nat) : (lastRow n i).length = n + 1 := by simp [lastRow]
theorem strV_tot {m : List (List Int)} {i : Int} : tot (strV m i) ≤ 1000000000 := by
  unfold strV
  cases h : strOk m i
  · simp [tot]
  · simp only [if_true]
    have hm : isMat m = true := by simp only [strOk, Bool.and_eq_true] at h; exact h.1
    have hl := isMat_len hm
    have h1 : ∀ (l : List (List Int)), (∀ r ∈ l, r.length ≤ 10) → tot l ≤ 10 * l.length := by
      intro l
      induction l with
      | nil => intro _; simp [tot]
      | cons r rs ih =>
        intro h
        have a1 := h r (by simp)
        have a2 := ih (fun q hq => h q (by simp [hq]))
        rw [tot_cons]
        simp only [List.length_cons]
        omega
    have h2 := h1 (strT i.toNat m ++ [lastRow m.length i.toNat]) (by
      intro r hr
      rcases List.mem_append.1 hr with hr | hr
      · obtain ⟨q, hq, rfl⟩ := List.mem_map.1 hr
        obtain ⟨k, hk⟩ := List.getElem?_of_mem hq
        rw [strRow_len, (isMat_row hm hk).1]
        omega
      · simp only [List.mem_singleton] at hr
        subst hr
        rw [lastRow_len]
        omega)
    simp only [List.length_append, strT_len, List.length_singleton] at h2
    omega
/-- One row has grown by an append and is stored again. -/
theorem OIntss.pushIn {w w' : World} {lo g n cap k : Nat} {xss : List (List Int)} {r r' : List Int} {u u' : Value} (h : OIntss w lo (.slice (some ⟨g, 0, none⟩) n cap) n xss) (hk : xss[k]? = some r) (hc : w.cell? ⟨g, k, none⟩ = some u)
    (hu : OInts w' lo u' r'.length r') (hg : w.grownBy w' u.ownBlock) (hnw : NewOr w.heap.size u u') : OIntss (w'.setCell ⟨g, k, none⟩ u') lo (.slice (some ⟨g, 0, none⟩) n cap) n (xss.set k r') := by
  obtain ⟨h1, h2, vs, hv, hr, hd⟩ := h
  have hvl : vs.length = n := by simpa using hv.1
  have hkn : k < n := by rw [← h2]; exact (List.getElem?_eq_some_iff.1 hk).1
  have hvk : vs[k]? = some u := by
    have h3 : vs[k]? = some vs[k] := List.getElem?_eq_getElem (by omega)
    have h4 := hv.cells (g := g) rfl k _ h3
    rw [Addr.add_lit] at h4
    simp at h4
    rw [h4] at hc
    injection hc with hc
    rw [h3, hc]
  have hou := hr k u r hvk hk
  have hne : (Value.slice (some ⟨g, 0, none⟩) n cap).ownBlock = none ∨ (Value.slice (some ⟨g, 0, none⟩) n cap).ownBlock ≠ u.ownBlock := by
    right
    intro e
    rcases own_int_ne hou hv with e2 | e2
    · rw [e2] at e; simp [Value.ownBlock] at e
    · exact e2 e.symm
  have hv' := hv.kept hg hne
  have hst := hv'.stored k u'
  refine ⟨h1, by simpa using h2, vs.set k u', hst.1, ?_, ?_⟩
  · intro i q s hq hs
    rw [List.getElem?_set] at hq hs
    by_cases e : k = i
    · subst e
      rw [if_pos rfl] at hq hs
      split at hq <;> split at hs <;> simp_all
      subst hq
      subst hs
      exact hu.grown hst.2 (by
        rcases own_int_ne hu hv' with e2 | e2
        · exact .inl e2
        · right; intro e3; exact e2 e3)
    · rw [if_neg e] at hq hs
      have h5 := (hr i q s hq hs).grown hg (hd i k q u (fun e2 => e e2.symm) hq hvk)
      exact h5.grown hst.2 (by
        rcases own_int_ne h5 hv' with e2 | e2
        · exact .inl e2
        · right; intro e3; exact e2 e3)
  · have key : ∀ (i : Nat) (q : Value), i ≠ k → vs[i]? = some q → Apart q u' := by
      intro i q hik hq
      have hi : i < xss.length := by rw [h2, ← hvl]; exact (List.getElem?_eq_some_iff.1 hq).1
      have hoq := hr i q _ hq (List.getElem?_eq_getElem hi)
      refine hnw.apart ?_ (fun b hb => (hoq.2.lt b hb).2)
      intro b hb e
      rcases hd i k q u hik hq hvk with e2 | e2
      · rw [e2] at hb; cases hb
      · exact e2 (by rw [hb, e])
    intro i j q1 q2 hij h3 h4
    rw [List.getElem?_set] at h3 h4
    by_cases ei : k = i
    · rw [if_pos ei] at h3
      rw [if_neg (by omega)] at h4
      split at h3
      · injection h3 with h3
        subst h3
        cases hb : u'.ownBlock with
        | none => exact .inl rfl
        | some b => right; exact fun e => key j q2 (by omega) h4 b e.symm hb
      · cases h3
    · rw [if_neg ei] at h3
      by_cases ej : k = j
      · rw [if_pos ej] at h4
        split at h4
        · injection h4 with h4
          subst h4
          exact (key i q1 (by omega) h3).ne
        · cases h4
      · rw [if_neg ej] at h4
        exact hd i j q1 q2 hij h3 h4
end Go.Proofs.YtdmpokanfnlbgaaGreatDoor

namespace Go.Proofs.YtdmpokanfnlbgaaGreatDoor
open Go.RowKit
set_option linter.all false
def FarAll (W : World) (lo : Nat) (v : Value) (n : Nat) (u : Value) : Prop := ∀ vs : List Value, W.ownsRow lo 49 1 v n vs → ∀ (i : Nat) (u' : Value), vs[i]? = some u' → Apart u u'
theorem FarAll.of {W : World} {lo lo' n : Nat} {v u : Value} {vs : List Value} (hv : W.ownsRow lo' 49 1 v n vs) (h : ∀ (i : Nat) (u' : Value), vs[i]? = some u' → Apart u u') : FarAll W lo v n u := by
  intro vs' h' i u' hi
  rw [own_unique h' hv] at hi
  exact h i u' hi
/-- The values of the rows: each block is one of the world's. -/
theorem OIntss.vals {W : World} {lo n : Nat} {v : Value} {xss : List (List Int)} (h : OIntss W lo v n xss) : ∃ vs : List Value, W.ownsRow lo 49 1 v n vs ∧ ∀ (i : Nat) (u' : Value), vs[i]? = some u' → ∀ b, u'.ownBlock = some b → lo ≤ b ∧ b < W.heap.size := by
  obtain ⟨h1, h2, vs, hv, hr, hd⟩ := h
  have hvl : vs.length = n := by simpa using hv.1
  refine ⟨vs, hv, fun i u' hi b hb => ?_⟩
  have hil : i < xss.length := by rw [h2, ← hvl]; exact (List.getElem?_eq_some_iff.1 hi).1
  exact (hr i u' _ hi (List.getElem?_eq_getElem hil)).2.lt b hb
theorem FarAll.new {W0 W : World} {lo n : Nat} {v u : Value} {xss : List (List Int)} (h : OIntss W0 lo v n xss) (hb : Below W0.heap.size W0 W) (hu : ∀ b, u.ownBlock = some b → W0.heap.size ≤ b) : FarAll W lo v n u := by
  obtain ⟨vs, hv, hl⟩ := h.vals
  refine FarAll.of (own_keep hv hb) fun i u' hi b hbu e => ?_
  have := (hl i u' hi b e).2
  have := hu b hbu
  omega
theorem FarAll.keep {W W' : World} {lo n : Nat} {v u : Value} {xss : List (List Int)} (h : OIntss W lo v n xss) (hf : FarAll W lo v n u) (hb : Below W.heap.size W W') : FarAll W' lo v n u := by
  obtain ⟨vs, hv, _⟩ := h.vals
  exact FarAll.of (own_keep hv hb) (hf vs hv)
/-- All rows lie from lo2 on, as they did in W0; u lies below lo2 or is new. -/
theorem FarAll.mid {W0 W : World} {lo lo2 n g : Nat} {v u : Value} {xss : List (List Int)} (h : OIntss W0 lo2 v n xss) (hg : W0.grownBy W (some g)) (hgl : g < lo2) (hu : ∀ b, u.ownBlock = some b → b < lo2 ∨ W0.heap.size ≤ b) : FarAll W lo v n u := by
  obtain ⟨vs, hv, hl⟩ := h.vals
  have hv' : W.ownsRow lo2 49 1 v n vs := hv.kept hg (by
    cases hb : v.ownBlock with
    | none => exact .inl rfl
    | some b => right; intro e; injection e with e; have := (hv.lt b hb).1; omega)
  refine FarAll.of hv' fun i u' hi b hbu e => ?_
  have := hl i u' hi b e
  rcases hu b hbu with h | h <;> omega
theorem FarAll.put {W : World} {lo n g cap k : Nat} {u u2 : Value} {xss : List (List Int)} (h : OIntss W lo (.slice (some ⟨g, 0, none⟩) n cap) n xss) (hf : FarAll W lo (.slice (some ⟨g, 0, none⟩) n cap) n u) (h2 : Apart u u2) :
    FarAll (W.setCell ⟨g, k, none⟩ u2) lo (.slice (some ⟨g, 0, none⟩) n cap) n u := by
  obtain ⟨vs, hv, _⟩ := h.vals
  refine FarAll.of (hv.stored k u2).1 fun i u' hi => ?_
  rw [List.getElem?_set] at hi
  split at hi
  · split at hi
    · injection hi with hi
      subst hi
      exact h2
    · cases hi
  · exact hf vs hv i u' hi
/-- A row is pushed that shares no block with the others. -/
theorem wpList_push_rowF {ops : Array Oper} {rest : List Oper} {o : Oper} {a : Act} {Q : Exit → Act → World → Prop} (W : World) (u : Value) (hgd : o.guard = none) (s x : Operand)
    (ho : o.op = .call { callee := .builtin .append, args := #[s, x], argTypes := #[24, 24] })
    (lo : Nat) (v : Value) (n : Nat) (xss : List (List Int)) (hs : a.eval s = v) (h : OIntss W lo v n xss) (hn : n + 1 ≤ 1099511627776) (hlo : lo ≤ W.heap.size)
    (m : Nat) (r : List Int) (hu : OInts W lo u m r) (hf : FarAll W lo v n u) (tb : Nat) (htb : tb = W.heap.size) (hx : a.eval x = .slice (some ⟨tb, 0, none⟩) 1 1)
    (K : ∀ v' w', OIntss w' lo v' (n + 1) (xss ++ [r]) → Below lo W w' → wpList Tryz.prog ops Q rest (a.put o.dst v') w') : wpList Tryz.prog ops Q (o :: rest) a (W.alloc (.cells #[u] 49)) := by
  subst htb
  have hml := hu.len
  subst hml
  have hW2 : Below W.heap.size W (W.alloc (.cells #[u] 49)) := (Below.refl _ _).alloc (Nat.le_refl _) _
  refine wpList_push_row _ hgd s x ho lo v n xss hs (h.keep hW2) hn W.heap.size u r hx (World.cell?_alloc_new _ _ _ _) (hu.alloc _) ?_ (by simp; omega) ?_
  · intro i u' r' ⟨vs, hv, hi⟩ _ _
    exact FarAll.keep h hf hW2 vs hv i u' hi
  · intro v' w' hown hgrow
    exact K v' w' hown ((hW2.mono hlo).grown hgrow (by simp; omega) fun k hk => (h.ownlt k hk).1)
theorem NewOr.two {s g b : Nat} {v v' : Value} (h : NewOr s v v') (hv : v.ownBlock = some g) (hb : v'.ownBlock = some b) : b = g ∨ s ≤ b := by
  rcases h with h | ⟨d, h, hd⟩
  · rw [hb, hv] at h
    injection h with h
    exact .inl h
  · rw [hb] at h
    injection h with h
    exact .inr (by omega)
theorem getD_of {α : Type} {xs : List α} {k : Nat} {x d : α} (h : xs[k]? = some x) : xs.getD k d = x := by simp [List.getD, h]
theorem OIntss.readI {w : World} {lo n c : Nat} {ao : Option Addr} {xs : List (List Int)} (h : OIntss w lo (.slice ao n c) n xs) : Intss w ao n xs := by
  obtain ⟨ao', cap', e, hi⟩ := h.form
  injection e with e1
  subst e1
  exact hi
end Go.Proofs.YtdmpokanfnlbgaaGreatDoor

namespace Go.Proofs.YtdmpokanfnlbgaaGreatDoor
open Go.RowKit
set_option linter.all false
def mulM (a b : List (List Int)) : Option (List (List Int)) := if isMat a && (isMat b && (decide (a.length = b.length) && isMat (mulT a b b.length))) then some (mulT a b b.length) else none
theorem mulM_none1 {a b : List (List Int)} (h : isMat a = false) : mulM a b = none := by simp [mulM, h]
theorem mulM_none2 {a b : List (List Int)} (h : isMat b = false) : mulM a b = none := by simp [mulM, h]
theorem mulM_none3 {a b : List (List Int)} (h : a.length ≠ b.length) : mulM a b = none := by simp [mulM, h]
theorem mulM_none4 {a b : List (List Int)} (h : isMat (mulT a b b.length) = false) : mulM a b = none := by simp [mulM, h]
theorem mulM_some {a b : List (List Int)} (h1 : isMat a = true) (h2 : isMat b = true) (h3 : a.length = b.length) (h4 : isMat (mulT a b b.length) = true) : mulM a b = some (mulT a b b.length) := by
  unfold mulM; rw [h1, h2, h4]; simp [h3]
theorem mulM_mat {a b c : List (List Int)} (h : mulM a b = some c) : isMat c = true ∧ c.length = b.length := by
  unfold mulM at h
  split at h
  · rename_i h1
    injection h with h
    subst h
    simp only [Bool.and_eq_true, decide_eq_true_eq] at h1
    exact ⟨h1.2.2.2, by rw [mulT_len]; exact h1.2.2.1⟩
  · cases h
end Go.Proofs.YtdmpokanfnlbgaaGreatDoor

namespace Go.Proofs.YtdmpokanfnlbgaaGreatDoor
open Go.RowKit
set_option linter.all false
def iterM (m : List (List Int)) : Nat → List (List Int) → Option (List (List Int))
  | 0, acc => some acc
  | k + 1, acc => match mulM acc m with
    | none => none
    | some p => iterM m k p
def powM (m : List (List Int)) (n : Int) : Option (List (List Int)) := if isMat m && inR n 0 30 then iterM m n.toNat (oneT m.length) else none
theorem iterM_none {m acc : List (List Int)} {k : Nat} (h : mulM acc m = none) : iterM m (k + 1) acc = none := by simp [iterM, h]
theorem iterM_some {m acc p : List (List Int)} {k : Nat} (h : mulM acc m = some p) : iterM m (k + 1) acc = iterM m k p := by simp [iterM, h]
theorem powM_none1 {m : List (List Int)} {n : Int} (h : isMat m = false) : powM m n = none := by simp [powM, h]
theorem powM_none2 {m : List (List Int)} {n : Int} (h : inR n 0 30 = false) : powM m n = none := by simp [powM, h]
theorem powM_iter {m : List (List Int)} {n : Int} (h1 : isMat m = true) (h2 : inR n 0 30 = true) : powM m n = iterM m n.toNat (oneT m.length) := by simp [powM, h1, h2]
theorem oneT_mat {n : Nat} (h1 : 1 ≤ n) (h9 : n ≤ 9) : isMat (oneT n) = true := by
  have h : inR (oneT n).length 1 9 = true := inR_mk (by rw [oneT_len]; omega)
  unfold isMat
  rw [h, Bool.and_true, oneT_len]
  simp only [tabIn, oneT, List.all_map, List.all_eq_true, List.mem_range]
  intro i _
  simp only [Function.comp, oneRow_len, decide_true, Bool.true_and, allIn, List.all_eq_true]
  intro x hx
  rcases List.mem_or_eq_of_mem_set hx with hx | hx
  · have := List.eq_of_mem_replicate hx
    subst this
    decide
  · subst hx
    decide
theorem iterM_mat {m : List (List Int)} : ∀ (k : Nat) (acc p : List (List Int)), isMat acc = true → acc.length = m.length → iterM m k acc = some p → isMat p = true ∧ p.length = m.length
  | 0, acc, p, h1, h2, h => by
    injection h with h
    subst h
    exact ⟨h1, h2⟩
  | k + 1, acc, p, _, _, h => by
    cases hq : mulM acc m with
    | none => rw [iterM_none hq] at h; cases h
    | some q =>
      rw [iterM_some hq] at h
      have := mulM_mat hq
      exact iterM_mat k q p this.1 this.2 h
theorem powM_mat {m p : List (List Int)} {n : Int} (h : powM m n = some p) : isMat m = true ∧ isMat p = true ∧ p.length = m.length := by
  cases h1 : isMat m with
  | false => rw [powM_none1 h1] at h; cases h
  | true =>
    cases h2 : inR n 0 30 with
    | false => rw [powM_none2 h2] at h; cases h
    | true =>
      rw [powM_iter h1 h2] at h
      have hl := isMat_len h1
      have := iterM_mat _ _ _ (oneT_mat hl.1 hl.2) (oneT_len _) h
      exact ⟨rfl, this⟩
end Go.Proofs.YtdmpokanfnlbgaaGreatDoor

namespace Go.Proofs.YtdmpokanfnlbgaaGreatDoor
open Go.RowKit
set_option linter.all false
def trc : Nat → Int → List (List Int) → Int
  | _, a, [] => a
  | k, a, r :: rs => trc (k + 1) (wrap64 (a + r.getD k 0)) rs
def closed (m : List (List Int)) (n : Int) : Int :=
  if inR n 1 30 then (match powM m n with
    | none => -1
    | some p => trc 0 0 p) else -1
theorem closed_n {m : List (List Int)} {n : Int} (h : inR n 1 30 = false) : closed m n = -1 := by simp [closed, h]
theorem closed_none {m : List (List Int)} {n : Int} (h : powM m n = none) : closed m n = -1 := by simp [closed, h]
theorem closed_some {m p : List (List Int)} {n : Int} (h1 : inR n 1 30 = true) (h : powM m n = some p) : closed m n = trc 0 0 p := by simp [closed, h, h1]
theorem trc_step {p : List (List Int)} {k : Nat} {a R x : Int} {r : List Int} (hk : p[k]? = some r) (hx : r[k]? = some x) (h : trc k a (p.drop k) = R) : trc (k + 1) (wrap64 (a + x)) (p.drop (k + 1)) = R := by
  rw [drop_of_get hk] at h
  simpa [trc, List.getD, hx] using h
end Go.Proofs.YtdmpokanfnlbgaaGreatDoor

namespace Go.Proofs.YtdmpokanfnlbgaaGreatDoor
open Go.RowKit
set_option linter.all false
def mb : Nat → Nat → Nat → Int → Int
  | 0, _, _, o => o
  | f + 1, n, p, o => if p ≤ n then (if n % p = 0 then (if n / p % p = 0 then 0 else mb f (n / p) (p + 1) (-o)) else mb f n (p + 1) o) else o
def moeb (n : Int) : Int := if inR n 1 1000 then mb 999 n.toNat 2 1 else 0
theorem mb_stop {f n p : Nat} {o : Int} (h : n < p) : mb f n p o = o := by
  cases f with
  | zero => rfl
  | succ f => simp [mb, show ¬ p ≤ n by omega]
theorem mb_step {n p : Nat} {o M : Int} (hn : n ≤ 1000) (hp : p ≤ n) (h : Hid (mb (1001 - p) n p o = M)) :
    (n % p ≠ 0 → Hid (mb (1001 - (p + 1)) n (p + 1) o = M)) ∧ (n % p = 0 → n / p % p = 0 → M = 0) ∧ (n % p = 0 → n / p % p ≠ 0 → Hid (mb (1001 - (p + 1)) (n / p) (p + 1) (-o) = M)) := by
  have e : 1001 - p = (1001 - (p + 1)) + 1 := by omega
  have h := h.out
  rw [e] at h
  simp only [mb, if_pos hp] at h
  refine ⟨fun h1 => ?_, fun h1 h2 => ?_, fun h1 h2 => ?_⟩
  · rw [if_neg h1] at h; exact h
  · rw [if_pos h1, if_pos h2] at h; exact h.symm
  · rw [if_pos h1, if_neg h2] at h; exact h
theorem modI (n p : Nat) : (n : Int) % (p : Int) = ((n % p : Nat) : Int) := by simp
theorem divmodI (n p : Nat) : (n : Int) / (p : Int) % (p : Int) = ((n / p % p : Nat) : Int) := by simp
theorem natz (k : Nat) : (((k : Nat) : Int) == 0) = decide (k = 0) := by
  by_cases h : k = 0
  · subst h; rfl
  · simp [h]
theorem modI_z {n p : Nat} (h : n % p = 0) : ((n : Int) % (p : Int) != 0) = false := by rw [modI, bne, natz, h]; rfl
theorem modI_nz {n p : Nat} (h : n % p ≠ 0) : ((n : Int) % (p : Int) != 0) = true := by rw [modI, bne, natz, decide_eq_false h]; rfl
theorem modE_z {n p : Nat} (h : n % p = 0) : ((n : Int) % (p : Int) == 0) = true := by rw [modI, natz, h]; rfl
theorem modE_nz {n p : Nat} (h : n % p ≠ 0) : ((n : Int) % (p : Int) == 0) = false := by rw [modI, natz, decide_eq_false h]
theorem divmodI_z {n p : Nat} (h : n / p % p = 0) : ((n : Int) / (p : Int) % (p : Int) == 0) = true := by rw [divmodI, natz, h]; rfl
theorem divmodI_nz {n p : Nat} (h : n / p % p ≠ 0) : ((n : Int) / (p : Int) % (p : Int) == 0) = false := by rw [divmodI, natz, decide_eq_false h]
theorem divI (n p : Nat) : (n : Int) / (p : Int) = ((n / p : Nat) : Int) := by simp
theorem divI_bounds (n p : Nat) : 0 ≤ (n : Int) / (p : Int) ∧ (n : Int) / (p : Int) ≤ n := by
  rw [divI]
  exact ⟨Int.natCast_nonneg _, Int.ofNat_le.2 (Nat.div_le_self n p)⟩
end Go.Proofs.YtdmpokanfnlbgaaGreatDoor

namespace Go.Proofs.YtdmpokanfnlbgaaGreatDoor
open Go.RowKit
set_option linter.all false
def lpLoop (m : List (List Int)) (n : Nat) : Nat → Nat → Int → Int
  | 0, _, s => s
  | f + 1, d, s => lpLoop m n f (d + 1) (if n % d = 0 then wrap64 (s + wrap64 (moeb ((n : Int) / (d : Int)) * closed m d)) else s)
def lp (m : List (List Int)) (n : Int) : Int := if 12 < n then -1 else if closed m n < 0 then -1 else lpLoop m n.toNat n.toNat 1 0
theorem lp_step {m : List (List Int)} {n d : Nat} {s R : Int} (hd : d ≤ n) (h : Hid (lpLoop m n (n + 1 - d) d s = R)) :
    (n % d = 0 → Hid (lpLoop m n (n + 1 - (d + 1)) (d + 1) (wrap64 (s + wrap64 (moeb ((n : Int) / (d : Int)) * closed m d))) = R)) ∧ (n % d ≠ 0 → Hid (lpLoop m n (n + 1 - (d + 1)) (d + 1) s = R)) := by
  have h := h.out
  rw [show n + 1 - d = (n + 1 - (d + 1)) + 1 by omega] at h
  simp only [lpLoop] at h
  constructor
  · intro e; rw [if_pos e] at h; exact h
  · intro e; rw [if_neg e] at h; exact h
theorem closed_range {m : List (List Int)} {n : Int} (h : ¬ closed m n < 0) : 1 ≤ n ∧ n ≤ 30 := by
  cases h1 : inR n 1 30
  · rw [closed_n h1] at h; omega
  · exact inR_true h1
end Go.Proofs.YtdmpokanfnlbgaaGreatDoor

namespace Go.Proofs.YtdmpokanfnlbgaaGreatDoor
open Go.RowKit
set_option linter.all false
def orbL (m : List (List Int)) : Nat → Nat → List Int → List Int
  | 0, _, acc => acc
  | c + 1, k, acc => if lp m k < 0 then [] else orbL m c (k + 1) (acc ++ [lp m k])
def orbV (m : List (List Int)) (n : Int) : List Int := if inR n 1 10 then orbL m n.toNat 1 [] else []
theorem orbL_len (m : List (List Int)) : ∀ (c k : Nat) (acc : List Int), orbL m c k acc = [] ∨ (orbL m c k acc).length = acc.length + c
  | 0, _, acc => .inr rfl
  | c + 1, k, acc => by
    unfold orbL
    split
    · exact .inl rfl
    · rcases orbL_len m c (k + 1) (acc ++ [lp m k]) with h | h
      · exact .inl h
      · right; rw [h]; simp; omega
theorem orbV_len (m : List (List Int)) (n : Int) : orbV m n = [] ∨ (orbV m n).length = n.toNat := by
  unfold orbV
  split
  · have := orbL_len m n.toNat 1 []
    simpa using this
  · exact .inl rfl
theorem orb_step {m : List (List Int)} {n k : Nat} {ys R : List Int} (hk : k ≤ n) (h : Hid (orbL m (n + 1 - k) k ys = R)) : (lp m k < 0 → R = []) ∧ (¬ lp m k < 0 → Hid (orbL m (n + 1 - (k + 1)) (k + 1) (ys ++ [lp m k]) = R)) := by
  have h := h.out
  rw [show n + 1 - k = (n + 1 - (k + 1)) + 1 by omega] at h
  simp only [orbL] at h
  constructor
  · intro e; rw [if_pos e] at h; exact h.symm
  · intro e; rw [if_neg e] at h; exact h
def fitL : List Int → List Int → Bool
  | x :: xs, y :: ys => if y < x then false else fitL xs ys
  | _, _ => true
def fits (a b : List (List Int)) (n : Int) : Bool := fitL (orbV a n) (orbV b n) && (decide (0 < (orbV a n).length) && decide (0 < (orbV b n).length))
theorem fitL_step {xs ys : List Int} {k : Nat} {x y : Int} {R : Bool} (hx : xs[k]? = some x) (hy : ys[k]? = some y) (h : fitL (xs.drop k) (ys.drop k) = R) : (y < x → R = false) ∧ (¬ y < x → fitL (xs.drop (k + 1)) (ys.drop (k + 1)) = R) := by
  rw [drop_of_get hx, drop_of_get hy] at h
  simp only [fitL] at h
  constructor
  · intro e; rw [if_pos e] at h; exact h.symm
  · intro e; rw [if_neg e] at h; exact h
theorem fitL_end {xs ys : List Int} {k : Nat} {R : Bool} (hk : xs.length ≤ k ∨ ys.length ≤ k) (h : fitL (xs.drop k) (ys.drop k) = R) : R = true := by
  rcases hk with hk | hk
  · rw [drop_all xs k hk] at h; simpa [fitL] using h.symm
  · rw [drop_all ys k hk] at h
    cases hx : xs.drop k <;> rw [hx] at h <;> simpa [fitL] using h.symm
def fgI : Nat → List Int → List Int → Int
  | k, x :: xs, y :: ys => if y < x then (k : Int) else fgI (k + 1) xs ys
  | _, _, _ => -1
theorem fgI_neg : ∀ (xs ys : List Int) (k : Nat), decide (fgI k xs ys < 0) = fitL xs ys
  | [], ys, k => by cases ys <;> rfl
  | x :: xs, [], k => rfl
  | x :: xs, y :: ys, k => by
    unfold fgI fitL
    split
    · have : ¬ ((k : Int) < 0) := by omega
      simp [this]
    · exact fgI_neg xs ys (k + 1)
theorem fgI_step {xs ys : List Int} {k : Nat} {x y R : Int} (hx : xs[k]? = some x) (hy : ys[k]? = some y) (h : fgI k (xs.drop k) (ys.drop k) = R) : (y < x → R = (k : Int)) ∧ (¬ y < x → fgI (k + 1) (xs.drop (k + 1)) (ys.drop (k + 1)) = R) := by
  rw [drop_of_get hx, drop_of_get hy] at h
  simp only [fgI] at h
  constructor
  · intro e; rw [if_pos e] at h; exact h.symm
  · intro e; rw [if_neg e] at h; exact h
theorem fgI_end {xs ys : List Int} {k : Nat} {R : Int} (hk : xs.length ≤ k) (h : fgI k (xs.drop k) (ys.drop k) = R) : R = -1 := by
  rw [drop_all xs k hk] at h
  simpa [fgI] using h.symm
end Go.Proofs.YtdmpokanfnlbgaaGreatDoor

namespace Go.Proofs.YtdmpokanfnlbgaaGreatDoor
open Go.RowKit
set_option linter.all false
/-- The paths of a length from a vertex to itself. -/
def rooted (m : List (List Int)) (i n : Int) : Int :=
  if isMat m && (inR i 0 (m.length - 1) && inR n 1 30) then (match powM m n with
    | none => -1
    | some p => (p.getD i.toNat []).getD i.toNat 0) else -1
theorem rooted_mat {m : List (List Int)} {i n : Int} (h : isMat m = false) : rooted m i n = -1 := by simp [rooted, h]
theorem rooted_i {m : List (List Int)} {i n : Int} (h : inR i 0 (m.length - 1) = false) : rooted m i n = -1 := by simp [rooted, h]
theorem rooted_n {m : List (List Int)} {i n : Int} (h : inR n 1 30 = false) : rooted m i n = -1 := by simp [rooted, h]
theorem rooted_none {m : List (List Int)} {i n : Int} (h : powM m n = none) : rooted m i n = -1 := by simp [rooted, h]
theorem rooted_some {m p r : List (List Int)} {i : Nat} {n x : Int} {q : List Int} (h1 : isMat m = true) (h2 : inR (i : Int) 0 (m.length - 1) = true) (h3 : inR n 1 30 = true) (h : powM m n = some p) (hq : p[i]? = some q) (hx : q[i]? = some x) : rooted m i n = x := by
  simp [rooted, h1, h2, h3, h, List.getD, hq, hx]
end Go.Proofs.YtdmpokanfnlbgaaGreatDoor

namespace Go.Proofs.YtdmpokanfnlbgaaGreatDoor
open Go.RowKit
set_option linter.all false
def Sm : Nat → (Nat → Int) → Int
  | 0, _ => 0
  | n + 1, f => Sm n f + f n
theorem Sm_congr : ∀ (n : Nat) (f g : Nat → Int), (∀ j, j < n → f j = g j) → Sm n f = Sm n g
  | 0, _, _, _ => rfl
  | n + 1, f, g, h => by
    unfold Sm
    rw [Sm_congr n f g (fun j hj => h j (by omega)), h n (by omega)]
theorem Sm_add : ∀ (n : Nat) (f g : Nat → Int), Sm n (fun j => f j + g j) = Sm n f + Sm n g
  | 0, _, _ => rfl
  | n + 1, f, g => by
    unfold Sm
    rw [Sm_add n f g]
    dsimp only
    omega
theorem Sm_mul : ∀ (n : Nat) (c : Int) (f : Nat → Int), Sm n (fun j => c * f j) = c * Sm n f
  | 0, c, _ => by simp [Sm]
  | n + 1, c, f => by
    unfold Sm
    rw [Sm_mul n c f, Int.mul_add]
theorem Sm_zero : ∀ (n : Nat), Sm n (fun _ => 0) = 0
  | 0 => rfl
  | n + 1 => by unfold Sm; rw [Sm_zero n]; rfl
theorem Sm_comm : ∀ (n m : Nat) (f : Nat → Nat → Int), Sm n (fun j => Sm m (fun t => f j t)) = Sm m (fun t => Sm n (fun j => f j t))
  | 0, m, f => by simp only [Sm]; rw [Sm_zero]
  | n + 1, m, f => by
    show Sm n (fun j => Sm m (fun t => f j t)) + Sm m (fun t => f n t) = Sm m (fun t => Sm n (fun j => f j t) + f n t)
    rw [Sm_add, Sm_comm n m f]
theorem Sm_first : ∀ (n : Nat) (f : Nat → Int), Sm (n + 1) f = f 0 + Sm n (fun j => f (j + 1))
  | 0, f => by simp [Sm]
  | n + 1, f => by
    show Sm (n + 1) f + f (n + 1) = f 0 + (Sm n (fun j => f (j + 1)) + f (n + 1))
    rw [Sm_first n f]
    omega
theorem Sm_one : ∀ (n i : Nat) (g : Nat → Int), i < n → Sm n (fun j => (if j = i then 1 else 0) * g j) = g i
  | 0, i, g, h => by omega
  | n + 1, i, g, h => by
    unfold Sm
    by_cases e : n = i
    · subst e
      have : Sm n (fun j => (if j = n then 1 else 0) * g j) = Sm n (fun _ => 0) := Sm_congr n _ _ (fun j hj => by rw [if_neg (by omega)]; simp)
      rw [this, Sm_zero]
      dsimp only
      rw [if_pos rfl]
      omega
    · rw [Sm_one n i g (by omega)]
      dsimp only
      rw [if_neg e]
      omega
section
variable (N i : Nat) (A : Nat → Nat → Int)
/-- The row of i in the power k. -/
def TT : Nat → Nat → Int
  | 0, j => if j = i then 1 else 0
  | k + 1, l => Sm N (fun j => TT k j * A j l)
/-- Paths of k + 1 arcs from i that have not yet come back ahead of their end. -/
def RR : Nat → Nat → Int
  | 0, j => A i j
  | k + 1, l => Sm N (fun j => (if j = i then 0 else RR k j) * A j l)
def FF (k : Nat) : Int := RR N i A k i
theorem TT_one (hi : i < N) (l : Nat) : TT N i A 1 l = A i l := Sm_one N i (fun j => A j l) hi
theorem RR_split (hi : i < N) (k l : Nat) : Sm N (fun j => RR N i A k j * A j l) = RR N i A (k + 1) l + FF N i A k * A i l := by
  have h1 : Sm N (fun j => RR N i A k j * A j l) = Sm N (fun j => (if j = i then 0 else RR N i A k j) * A j l + (if j = i then 1 else 0) * (RR N i A k i * A j l)) := by
    refine Sm_congr N _ _ (fun j _ => ?_)
    by_cases e : j = i
    · subst e; simp
    · simp [e]
  rw [h1, Sm_add, Sm_one N i (fun j => RR N i A k i * A j l) hi]
  rfl
/-- All rooted paths are sums over the place of their first return. -/
theorem renew (hi : i < N) : ∀ (k l : Nat), TT N i A (k + 1) l = RR N i A k l + Sm k (fun t => FF N i A t * TT N i A (k - t) l)
  | 0, l => by
    rw [TT_one N i A hi l]
    simp [Sm, RR]
  | k + 1, l => by
    have ih := renew hi k
    show Sm N (fun j => TT N i A (k + 1) j * A j l) = _
    have h1 : Sm N (fun j => TT N i A (k + 1) j * A j l) = Sm N (fun j => RR N i A k j * A j l + Sm k (fun t => FF N i A t * (TT N i A (k - t) j * A j l))) := by
      refine Sm_congr N _ _ (fun j _ => ?_)
      rw [ih j, Int.add_mul]
      congr 1
      rw [Int.mul_comm, ← Sm_mul]
      refine Sm_congr k _ _ (fun t _ => ?_)
      rw [Int.mul_left_comm, Int.mul_comm (A j l)]
    rw [h1, Sm_add, RR_split N i A hi k l, Sm_comm]
    have h2 : Sm k (fun t => Sm N (fun j => FF N i A t * (TT N i A (k - t) j * A j l))) = Sm k (fun t => FF N i A t * TT N i A (k + 1 - t) l) := by
      refine Sm_congr k _ _ (fun t ht => ?_)
      rw [Sm_mul, show k + 1 - t = (k - t) + 1 by omega]
      rfl
    rw [h2]
    show _ = RR N i A (k + 1) l + (Sm k (fun t => FF N i A t * TT N i A (k + 1 - t) l) + FF N i A k * TT N i A (k + 1 - k) l)
    rw [show k + 1 - k = 1 by omega, TT_one N i A hi l]
    omega
end
/-- Two numbers that a machine word does not tell apart. -/
def Cg (x y : Int) : Prop := ∃ k : Int, x = y + k * 18446744073709551616
theorem Cg.refl (x : Int) : Cg x x := ⟨0, by omega⟩
theorem Cg.of_eq {x y : Int} (h : x = y) : Cg x y := h ▸ Cg.refl x
theorem Cg.symm {x y : Int} (h : Cg x y) : Cg y x := by obtain ⟨k, h⟩ := h; exact ⟨-k, by omega⟩
theorem Cg.trans {x y z : Int} (h : Cg x y) (g : Cg y z) : Cg x z := by
  obtain ⟨k, h⟩ := h
  obtain ⟨l, g⟩ := g
  exact ⟨k + l, by omega⟩
theorem Cg.add {x y a b : Int} (h : Cg x y) (g : Cg a b) : Cg (x + a) (y + b) := by
  obtain ⟨k, h⟩ := h
  obtain ⟨l, g⟩ := g
  exact ⟨k + l, by omega⟩
theorem Cg.sub {x y a b : Int} (h : Cg x y) (g : Cg a b) : Cg (x - a) (y - b) := by
  obtain ⟨k, h⟩ := h
  obtain ⟨l, g⟩ := g
  exact ⟨k - l, by omega⟩
theorem Cg.mul {x y a b : Int} (h : Cg x y) (g : Cg a b) : Cg (x * a) (y * b) := by
  obtain ⟨k, rfl⟩ := h
  obtain ⟨l, rfl⟩ := g
  refine ⟨k * b + y * l + k * l * 18446744073709551616, ?_⟩
  generalize 18446744073709551616 = M
  simp only [Int.mul_add, Int.add_mul, Int.mul_assoc, Int.mul_comm, Int.mul_left_comm]
  omega
theorem Cg.wrap (x : Int) : Cg (wrap64 x) x := by
  unfold wrap64
  refine ⟨-((x + 9223372036854775808) / 18446744073709551616), ?_⟩
  omega
theorem Cg.eq {x y : Int} (h : Cg x y) : wrap64 x = wrap64 y := by
  obtain ⟨k, rfl⟩ := h
  unfold wrap64
  omega
theorem Cg.same {x y : Int} (h : Cg x y) (hx : wrap64 x = x) (hy : wrap64 y = y) : x = y := by rw [← hx, ← hy]; exact h.eq
theorem Sm_Cg : ∀ (n : Nat) (f g : Nat → Int), (∀ j, j < n → Cg (f j) (g j)) → Cg (Sm n f) (Sm n g)
  | 0, _, _, _ => Cg.refl _
  | n + 1, f, g, h => (Sm_Cg n f g (fun j hj => h j (by omega))).add (h n (by omega))
theorem wdot_Cg : ∀ (r v : List Int) (a : Int), r.length = v.length → Cg (wdot a r v) (a + Sm r.length (fun j => r.getD j 0 * v.getD j 0))
  | [], [], a, _ => by simp [wdot, Sm]; exact Cg.refl _
  | x :: r, y :: v, a, h => by
    have ih := wdot_Cg r v (wrap64 (a + wrap64 (x * y))) (by simpa using h)
    show Cg (wdot (wrap64 (a + wrap64 (x * y))) r v) _
    refine ih.trans ?_
    rw [List.length_cons, Sm_first]
    have h1 : Cg (wrap64 (a + wrap64 (x * y))) (a + x * y) := (Cg.wrap _).trans ((Cg.refl a).add (Cg.wrap _))
    have h2 := h1.add (Cg.refl (Sm r.length (fun j => r.getD j 0 * v.getD j 0)))
    refine h2.trans (Cg.of_eq ?_)
    simp only [List.getD_cons_zero, List.getD_cons_succ]
    omega
end Go.Proofs.YtdmpokanfnlbgaaGreatDoor

namespace Go.Proofs.YtdmpokanfnlbgaaGreatDoor
open Go.RowKit
set_option linter.all false
def entA (m : List (List Int)) (j l : Nat) : Int := (m.getD j []).getD l 0
def frRow (m : List (List Int)) (i : Nat) : Nat → List Int
  | 0 => m.getD i []
  | k + 1 => mulRow m m.length ((frRow m i k).set i 0)
theorem wdot_canon : ∀ (r v : List Int) (a : Int), wrap64 a = a → wrap64 (wdot a r v) = wdot a r v
  | [], _, a, h => by simpa [wdot] using h
  | x :: r, [], a, h => by simpa [wdot] using h
  | x :: r, y :: v, a, _ => wdot_canon r v _ (Cg.wrap _).eq
theorem getD_get {α : Type} {xs : List α} {k : Nat} {x d : α} (h : xs[k]? = some x) : xs.getD k d = x := by simp [List.getD, h]
theorem get_lt {α : Type} (xs : List α) (k : Nat) (d : α) (h : k < xs.length) : xs[k]? = some (xs.getD k d) := by simp [List.getD, h]
theorem row_mul {m : List (List Int)} {r : List Int} {l : Nat} (hr : r.length = m.length) (hl : l < m.length) :
    Cg ((mulRow m m.length r).getD l 0) (Sm m.length (fun j => r.getD j 0 * entA m j l)) ∧ wrap64 ((mulRow m m.length r).getD l 0) = (mulRow m m.length r).getD l 0 := by
  rw [getD_get (mulRow_get hl)]
  refine ⟨?_, wdot_canon _ _ _ (wrap_id (by omega))⟩
  have h := wdot_Cg r (col m l) 0 (by simp [col, hr])
  rw [hr] at h
  refine h.trans (Cg.of_eq ?_)
  rw [Int.zero_add]
  refine Sm_congr _ _ _ (fun j hj => ?_)
  congr 1
  show (col m l).getD j 0 = (m.getD j []).getD l 0
  simp [col, List.getD, hj]
theorem entA_canon {m : List (List Int)} (hm : isMat m = true) {j l : Nat} (hj : j < m.length) (hl : l < m.length) : wrap64 (entA m j l) = entA m j l := by
  have h1 := get_lt m j [] hj
  have h2 := isMat_row hm h1
  have h3 := allIn_get h2.2 (get_lt (m.getD j []) l 0 (by rw [h2.1]; exact hl))
  exact wrap_id ⟨by unfold entA; omega, by unfold entA; omega⟩
theorem frRow_len {m : List (List Int)} (hm : isMat m = true) {i : Nat} (hi : i < m.length) : ∀ k, (frRow m i k).length = m.length
  | 0 => (isMat_row hm (get_lt m i [] hi)).1
  | k + 1 => mulRow_len _ _ _
theorem frRow_Cg {m : List (List Int)} (hm : isMat m = true) {i : Nat} (hi : i < m.length) : ∀ (k l : Nat), l < m.length →
    Cg ((frRow m i k).getD l 0) (RR m.length i (entA m) k l) ∧ wrap64 ((frRow m i k).getD l 0) = (frRow m i k).getD l 0
  | 0, l, hl => ⟨Cg.refl _, entA_canon hm hi hl⟩
  | k + 1, l, hl => by
    have h := row_mul (m := m) (r := (frRow m i k).set i 0) (l := l) (by rw [List.length_set, frRow_len hm hi]) hl
    refine ⟨h.1.trans ?_, h.2⟩
    refine Sm_Cg _ _ _ (fun j hj => ?_)
    refine Cg.mul ?_ (Cg.refl _)
    have hjl : j < (frRow m i k).length := by rw [frRow_len hm hi]; exact hj
    by_cases e : j = i
    · subst e
      simp [List.getD, List.getElem?_set, hjl]
      exact Cg.refl _
    · have h2 : ((frRow m i k).set i 0).getD j 0 = (frRow m i k).getD j 0 := by
        simp only [List.getD, List.getElem?_set]
        rw [if_neg (fun e2 => e e2.symm)]
      rw [h2]
      simp only [if_neg e]
      exact (frRow_Cg hm hi k j hj).1
theorem mulM_is {a b c : List (List Int)} (h : mulM a b = some c) : c = mulT a b b.length ∧ isMat a = true ∧ a.length = b.length := by
  unfold mulM at h
  split at h
  · rename_i h1
    injection h with h
    simp only [Bool.and_eq_true, decide_eq_true_eq] at h1
    exact ⟨h.symm, h1.1, h1.2.2.1⟩
  · cases h
theorem iterM_row {m : List (List Int)} {i : Nat} (hi : i < m.length) : ∀ (k t : Nat) (acc p : List (List Int)), acc.length = m.length → (acc.getD i []).length = m.length →
    (∀ l, l < m.length → Cg ((acc.getD i []).getD l 0) (TT m.length i (entA m) t l)) → iterM m k acc = some p → ∀ l, l < m.length → Cg ((p.getD i []).getD l 0) (TT m.length i (entA m) (t + k) l)
  | 0, t, acc, p, _, _, h, e => by
    injection e with e
    subst e
    exact h
  | k + 1, t, acc, p, h1, h2, h, e => by
    cases hq : mulM acc m with
    | none => rw [iterM_none hq] at e; cases e
    | some q =>
      rw [iterM_some hq] at e
      have hq2 := mulM_is hq
      have hrow : q.getD i [] = mulRow m m.length (acc.getD i []) := by
        rw [hq2.1]
        exact getD_get (mulT_get (get_lt acc i [] (by omega)))
      have := iterM_row hi k (t + 1) q p (by rw [hq2.1, mulT_len]; exact h1) (by rw [hrow, mulRow_len]) (by
        intro l hl
        rw [hrow]
        refine (row_mul h2 hl).1.trans ?_
        exact Sm_Cg _ _ _ (fun j hj => (h j hj).mul (Cg.refl _))) e
      intro l hl
      have h5 := this l hl
      rw [show t + 1 + k = t + (k + 1) by omega] at h5
      exact h5
theorem iterM_pre {m : List (List Int)} : ∀ (a b : Nat) (acc p : List (List Int)), iterM m (a + b) acc = some p → ∃ q, iterM m a acc = some q
  | 0, b, acc, p, _ => ⟨acc, rfl⟩
  | a + 1, b, acc, p, h => by
    rw [show a + 1 + b = (a + b) + 1 by omega] at h
    cases hq : mulM acc m with
    | none => rw [iterM_none hq] at h; cases h
    | some q =>
      rw [iterM_some hq] at h ⊢
      exact iterM_pre a b q p h
theorem rooted_facts {m : List (List Int)} {i n : Int} (h : ¬ rooted m i n < 0) : isMat m = true ∧ 0 ≤ i ∧ i.toNat < m.length ∧ 1 ≤ n ∧ n ≤ 30 ∧
    ∀ k : Nat, 1 ≤ k → (k : Int) ≤ n → Cg (rooted m i k) (TT m.length i.toNat (entA m) k i.toNat) ∧ wrap64 (rooted m i k) = rooted m i k := by
  cases h1 : isMat m
  · rw [rooted_mat h1] at h; omega
  cases h2 : inR i 0 (m.length - 1)
  · rw [rooted_i h2] at h; omega
  cases h3 : inR n 1 30
  · rw [rooted_n h3] at h; omega
  have b2 := inR_true h2
  have b3 := inR_true h3
  obtain ⟨i0, rfl⟩ := Int.eq_ofNat_of_zero_le b2.1
  have hi : i0 < m.length := by omega
  refine ⟨rfl, b2.1, hi, b3.1, b3.2, ?_⟩
  intro k hk1 hk2
  have h4 : inR n 0 30 = true := inR_mk ⟨by omega, by omega⟩
  have h5 : inR (k : Int) 0 30 = true := inR_mk ⟨by omega, by omega⟩
  cases hp : powM m n with
  | none => rw [rooted_none hp] at h; omega
  | some p =>
    rw [powM_iter h1 h4] at hp
    have e : n.toNat = k + (n.toNat - k) := by omega
    rw [e] at hp
    obtain ⟨q, hq⟩ := iterM_pre k (n.toNat - k) _ _ hp
    have hpk : powM m (k : Int) = some q := by rw [powM_iter h1 h5]; exact hq
    have hqm := powM_mat hpk
    have hr : rooted m (i0 : Int) (k : Int) = (q.getD i0 []).getD i0 0 := by
      have h6 : inR (k : Int) 1 30 = true := inR_mk ⟨by omega, by omega⟩
      simp [rooted, h1, h2, h6, hpk]
    have hrow := isMat_row hqm.2.1 (get_lt q i0 [] (by rw [hqm.2.2]; exact hi))
    rw [hr]
    constructor
    · have h7 := iterM_row hi k 0 (oneT m.length) q (oneT_len _) (by rw [getD_get (oneT_get hi)]; exact oneRow_len _ _) (by
        intro l hl
        rw [getD_get (oneT_get hi)]
        refine Cg.of_eq ?_
        show (oneRow m.length i0).getD l 0 = if l = i0 then 1 else 0
        unfold oneRow
        simp only [List.getD, List.getElem?_set, List.length_replicate]
        by_cases e : i0 = l
        · subst e; simp [hi]
        · rw [if_neg e, if_neg (fun e2 => e e2.symm)]
          simp [List.getElem?_replicate, hl]) hq i0 hi
      rw [Nat.zero_add] at h7
      exact h7
    · have h8 := allIn_get hrow.2 (get_lt (q.getD i0 []) i0 0 (by rw [hrow.1, hqm.2.2]; exact hi))
      exact wrap_id ⟨by omega, by omega⟩
/-- The sums that are taken off, one after the other. -/
def conv (fs rs : List Int) (k : Nat) : Nat → Nat → Int → Int
  | 0, _, f => f
  | c + 1, l, f => conv fs rs k c (l + 1) (wrap64 (f - wrap64 (fs.getD l 0 * rs.getD (k - l) 0)))
theorem conv_Cg (fs rs : List Int) (k : Nat) : ∀ (c l : Nat) (f : Int), wrap64 f = f → Cg (conv fs rs k c l f) (f - Sm c (fun t => fs.getD (l + t) 0 * rs.getD (k - (l + t)) 0)) ∧ wrap64 (conv fs rs k c l f) = conv fs rs k c l f
  | 0, l, f, hf => ⟨Cg.of_eq (by simp [conv, Sm]), hf⟩
  | c + 1, l, f, hf => by
    have ih := conv_Cg fs rs k c (l + 1) (wrap64 (f - wrap64 (fs.getD l 0 * rs.getD (k - l) 0))) (Cg.wrap _).eq
    refine ⟨ih.1.trans ?_, ih.2⟩
    rw [Sm_first]
    have h1 : Cg (wrap64 (f - wrap64 (fs.getD l 0 * rs.getD (k - l) 0))) (f - fs.getD l 0 * rs.getD (k - l) 0) := (Cg.wrap _).trans ((Cg.refl f).sub (Cg.wrap _))
    refine (h1.sub (Cg.refl _)).trans (Cg.of_eq ?_)
    have h2 : Sm c (fun t => fs.getD (l + 1 + t) 0 * rs.getD (k - (l + 1 + t)) 0) = Sm c (fun j => fs.getD (l + (j + 1)) 0 * rs.getD (k - (l + (j + 1))) 0) :=
      Sm_congr c _ _ (fun t _ => by rw [show l + 1 + t = l + (t + 1) by omega])
    rw [h2]
    simp only [Nat.add_zero]
    omega
def rsL (m : List (List Int)) (i : Int) (k : Nat) : List Int := 1 :: (List.range k).map (fun (t : Nat) => rooted m i ((t : Int) + 1))
def fsL (m : List (List Int)) (i : Int) : Nat → List Int
  | 0 => [0]
  | k + 1 => fsL m i k ++ [conv (fsL m i k) (rsL m i (k + 1)) (k + 1) k 1 ((rsL m i (k + 1)).getD (k + 1) 0)]
theorem rsL_len (m : List (List Int)) (i : Int) (k : Nat) : (rsL m i k).length = k + 1 := by simp [rsL]
theorem fsL_len (m : List (List Int)) (i : Int) : ∀ k, (fsL m i k).length = k + 1
  | 0 => rfl
  | k + 1 => by simp [fsL, fsL_len m i k]
theorem rsL_get {m : List (List Int)} {i : Int} {k t : Nat} (h1 : 1 ≤ t) (h2 : t ≤ k) : (rsL m i k).getD t 0 = rooted m i t := by
  obtain ⟨s, rfl⟩ : ∃ s, t = s + 1 := ⟨t - 1, by omega⟩
  have hs : s < k := by omega
  simp [rsL, List.getD, hs]
theorem rsL_push (m : List (List Int)) (i : Int) (k : Nat) : rsL m i k ++ [rooted m i ((k : Int) + 1)] = rsL m i (k + 1) := by
  simp [rsL, List.range_succ]
theorem fsL_Cg {m : List (List Int)} {i n : Int} (h : ¬ rooted m i n < 0) : ∀ (k : Nat), (k : Int) ≤ n → ∀ t, 1 ≤ t → t ≤ k →
    Cg ((fsL m i k).getD t 0) (FF m.length i.toNat (entA m) (t - 1)) ∧ wrap64 ((fsL m i k).getD t 0) = (fsL m i k).getD t 0
  | 0, _, t, h1, h2 => by omega
  | k + 1, hk, t, h1, h2 => by
    have ih := fsL_Cg h k (by omega)
    have hf := rooted_facts h
    by_cases ht : t ≤ k
    · have e : (fsL m i (k + 1)).getD t 0 = (fsL m i k).getD t 0 := by
        show (fsL m i k ++ [_]).getD t 0 = _
        simp only [List.getD]
        rw [List.getElem?_append_left (by rw [fsL_len]; omega)]
      rw [e]
      exact ih t h1 ht
    · have e : t = k + 1 := by omega
      subst e
      have e : (fsL m i (k + 1)).getD (k + 1) 0 = conv (fsL m i k) (rsL m i (k + 1)) (k + 1) k 1 ((rsL m i (k + 1)).getD (k + 1) 0) := by
        show (fsL m i k ++ [_]).getD (k + 1) 0 = _
        simp only [List.getD]
        rw [List.getElem?_append_right (by rw [fsL_len]; omega), fsL_len]
        simp
      rw [e, rsL_get (by omega) (Nat.le_refl _)]
      have hk1 := hf.2.2.2.2.2 (k + 1) (by omega) hk
      have hc := conv_Cg (fsL m i k) (rsL m i (k + 1)) (k + 1) k 1 (rooted m i ((k + 1 : Nat) : Int)) hk1.2
      refine ⟨hc.1.trans ?_, hc.2⟩
      have hren := renew m.length i.toNat (entA m) hf.2.2.1 k i.toNat
      have h3 : Cg (Sm k (fun t => (fsL m i k).getD (1 + t) 0 * (rsL m i (k + 1)).getD (k + 1 - (1 + t)) 0)) (Sm k (fun t => FF m.length i.toNat (entA m) t * TT m.length i.toNat (entA m) (k - t) i.toNat)) := by
        refine Sm_Cg _ _ _ (fun s hs => ?_)
        have a1 := (ih (1 + s) (by omega) (by omega)).1
        rw [show 1 + s - 1 = s by omega] at a1
        have a2 := (hf.2.2.2.2.2 (k - s) (by omega) (by omega)).1
        rw [← rsL_get (k := k + 1) (by omega) (by omega)] at a2
        rw [show k + 1 - (1 + s) = k - s by omega]
        exact a1.mul a2
      refine (hk1.1.sub h3).trans (Cg.of_eq ?_)
      rw [hren, show k + 1 - 1 = k by omega]
      unfold FF
      omega
def firstR (m : List (List Int)) (i n : Int) : Int := if 10 < n then -1 else if rooted m i n < 0 then -1 else (frRow m i.toNat (n.toNat - 1)).getD i.toNat 0
/-- Both roads come to one number. -/
theorem first_both {m : List (List Int)} {i n : Int} (h : ¬ rooted m i n < 0) : (fsL m i n.toNat).getD n.toNat 0 = (frRow m i.toNat (n.toNat - 1)).getD i.toNat 0 := by
  have hf := rooted_facts h
  have h1 := fsL_Cg h n.toNat (by omega) n.toNat (by omega) (Nat.le_refl _)
  have h2 := frRow_Cg hf.1 hf.2.2.1 (n.toNat - 1) i.toNat hf.2.2.1
  exact (h1.1.trans h2.1.symm).same h1.2 h2.2
end Go.Proofs.YtdmpokanfnlbgaaGreatDoor

namespace Go.Proofs.YtdmpokanfnlbgaaGreatDoor
open Go.RowKit
set_option linter.all false
/- A square table by its numbers, filled cell by cell. -/
def mkT (n : Nat) (f : Nat → Nat → Int) : List (List Int) := (List.range n).map fun x => (List.range n).map fun y => f x y
theorem mkT_len (n : Nat) (f : Nat → Nat → Int) : (mkT n f).length = n := by simp [mkT]
theorem mkT_get {n : Nat} {f : Nat → Nat → Int} {x : Nat} (h : x < n) : (mkT n f)[x]? = some ((List.range n).map fun y => f x y) := by simp [mkT, h]
theorem mkT_ent {n : Nat} {f : Nat → Nat → Int} {x y : Nat} (hx : x < n) (hy : y < n) : entA (mkT n f) x y = f x y := by
  unfold entA
  rw [getD_get (mkT_get hx)]
  simp [List.getD, hy]
theorem mkT_congr {n : Nat} {f g : Nat → Nat → Int} (h : ∀ x y, x < n → y < n → f x y = g x y) : mkT n f = mkT n g := by
  unfold mkT
  refine List.map_congr_left fun x hx => List.map_congr_left fun y hy => h x y (List.mem_range.1 hx) (List.mem_range.1 hy)
theorem mkT_zero (n : Nat) : List.replicate n (List.replicate n (0 : Int)) = mkT n (fun _ _ => 0) := by
  apply List.ext_getElem?
  intro x
  by_cases hx : x < n
  · rw [mkT_get hx, List.getElem?_replicate, if_pos hx]
    congr 1
    apply List.ext_getElem?
    intro y
    by_cases hy : y < n
    · simp [List.getElem?_replicate, hy]
    · simp [List.getElem?_replicate, hy]
  · rw [List.getElem?_eq_none (by rw [List.length_replicate]; omega), List.getElem?_eq_none (by rw [mkT_len]; omega)]
theorem mkT_set {n : Nat} {f g : Nat → Nat → Int} {i j : Nat} {v : Int} (hi : i < n) (hg : ∀ x y, x < n → y < n → g x y = if x = i ∧ y = j then v else f x y) :
    (mkT n f).set i (((List.range n).map fun y => f i y).set j v) = mkT n g := by
  apply List.ext_getElem?
  intro x
  by_cases hx : x < n
  · rw [mkT_get hx, List.getElem?_set, mkT_len]
    by_cases e : i = x
    · subst e
      rw [if_pos rfl, if_pos hi]
      congr 1
      apply List.ext_getElem?
      intro y
      by_cases hy : y < n
      · rw [List.getElem?_set]
        simp only [List.length_map, List.length_range, List.getElem?_map, List.getElem?_range hy, Option.map_some]
        rw [hg i y hi hy]
        by_cases e2 : j = y
        · subst e2; rw [if_pos rfl, if_pos hy, if_pos ⟨rfl, rfl⟩]
        · rw [if_neg e2, if_neg (fun e3 => e2 e3.2.symm)]
      · rw [List.getElem?_eq_none (by simp; omega), List.getElem?_eq_none (by simp; omega)]
    · rw [if_neg e, mkT_get hx]
      congr 1
      refine List.map_congr_left fun y hy => ?_
      rw [hg x y hx (List.mem_range.1 hy), if_neg (fun e3 => e e3.1.symm)]
  · rw [List.getElem?_eq_none (by rw [List.length_set, mkT_len]; omega), List.getElem?_eq_none (by rw [mkT_len]; omega)]
/-- The cells of a row, and the store into one of them. -/
theorem OIntss.mkEnt {w : World} {lo g n cap i : Nat} {f : Nat → Nat → Int} (h : OIntss w lo (.slice (some ⟨g, 0, none⟩) n cap) n (mkT n f)) (hi : i < n) :
    ∃ gi ci, w.cell? ⟨g, i, none⟩ = some (.slice (some ⟨gi, 0, none⟩) n ci) ∧ lo ≤ gi ∧ (gi ≠ g ∧ n ≤ ci) ∧ (∀ j, j < n → (∃ u, w.cell? ⟨gi, j, none⟩ = some (.int .i64 u)) ∧ w.frozen? ⟨gi, j, none⟩ = false) ∧
      (∀ (j : Nat) (v : Int) (f' : Nat → Nat → Int), j < n → (∀ x y, x < n → y < n → f' x y = if x = i ∧ y = j then v else f x y) → OIntss (w.setCell ⟨gi, j, none⟩ (.int .i64 v)) lo (.slice (some ⟨g, 0, none⟩) n cap) n (mkT n f')) := by
  have hg := mkT_get (f := f) hi
  have hl : ((List.range n).map fun y => f i y).length = n := by simp
  obtain ⟨gk, ck, hck, hok, hne, hlo⟩ := h.rowAt hg (by omega)
  have hck2 := hck
  rw [hl] at hck2
  refine ⟨gk, ck, hck2, hlo, ⟨hne, by have := hok.capLe rfl; omega⟩, fun j hj => ⟨⟨_, hok.cell j (by omega)⟩, hok.frozen j⟩, fun j v f' hj hf => ?_⟩
  have h2 := h.setIn hg hck hok j v
  rw [mkT_set hi hf] at h2
  exact h2
/-- Cells that are done, row by row, have their number; all others have 0. -/
def mixT (g : Nat → Nat → Int) (i j : Nat) : Nat → Nat → Int := fun x y => if x < i ∨ (x = i ∧ y < j) then g x y else 0
theorem mix_start (n : Nat) (g : Nat → Nat → Int) : List.replicate n (List.replicate n (0 : Int)) = mkT n (mixT g 0 0) := by
  rw [mkT_zero]
  refine mkT_congr fun x y _ _ => ?_
  unfold mixT
  rw [if_neg (by omega)]
theorem mix_step {g : Nat → Nat → Int} {i j n : Nat} : ∀ x y, x < n → y < n → mixT g i (j + 1) x y = if x = i ∧ y = j then g i j else mixT g i j x y := by
  intro x y _ _
  unfold mixT
  by_cases e : x = i ∧ y = j
  · rw [if_pos e, if_pos (by omega), e.1, e.2]
  · rw [if_neg e]
    by_cases h : x < i ∨ (x = i ∧ y < j)
    · rw [if_pos h, if_pos (by omega)]
    · rw [if_neg h, if_neg (by omega)]
theorem mix_skip {g : Nat → Nat → Int} {i j n : Nat} (h0 : g i j = 0) : mkT n (mixT g i j) = mkT n (mixT g i (j + 1)) := by
  refine mkT_congr fun x y hx hy => ?_
  rw [mix_step (n := n) x y hx hy]
  by_cases e : x = i ∧ y = j
  · rw [if_pos e, e.1, e.2, h0]
    unfold mixT
    rw [if_neg (by omega)]
  · rw [if_neg e]
theorem mix_row (g : Nat → Nat → Int) (i n : Nat) : mkT n (mixT g i n) = mkT n (mixT g (i + 1) 0) := by
  refine mkT_congr fun x y hx hy => ?_
  unfold mixT
  by_cases h : x < i ∨ (x = i ∧ y < n)
  · rw [if_pos h, if_pos (by omega)]
  · rw [if_neg h, if_neg (by omega)]
theorem mix_fin (g : Nat → Nat → Int) (n : Nat) : mkT n (mixT g n 0) = mkT n g := by
  refine mkT_congr fun x y hx hy => ?_
  unfold mixT
  rw [if_pos (by omega)]
theorem replicate_len (n : Nat) : (List.replicate n (List.replicate n (0 : Int))).length = n := by simp
/-- Numbers copied into a row. -/
def copF (i off : Nat) (r : List Int) (f : Nat → Nat → Int) : Nat → Nat → Int := fun x y => if x = i ∧ off ≤ y ∧ y < off + r.length then r.getD (y - off) 0 else f x y
theorem setCells_mk {lo g n cap i gi ci : Nat} (hi : i < n) : ∀ (r : List Int) (off : Nat) (f : Nat → Nat → Int) (w : World), OIntss w lo (.slice (some ⟨g, 0, none⟩) n cap) n (mkT n f) → w.cell? ⟨g, i, none⟩ = some (.slice (some ⟨gi, 0, none⟩) n ci) → off + r.length ≤ n →
    OIntss (w.setCells gi off (r.map (Value.int .i64))) lo (.slice (some ⟨g, 0, none⟩) n cap) n (mkT n (copF i off r f)) ∧ Below lo w (w.setCells gi off (r.map (Value.int .i64)))
  | [], off, f, w, h, _, _ => by
    have e : mkT n (copF i off [] f) = mkT n f := mkT_congr fun x y _ _ => by unfold copF; rw [if_neg (by simp only [List.length_nil]; omega)]
    rw [e]
    exact ⟨h, Below.refl _ _⟩
  | v :: r, off, f, w, h, hc, hl => by
    rw [List.length_cons] at hl
    obtain ⟨gj, cj, h1, hlo, hne, _, hst⟩ := h.mkEnt hi
    rw [hc] at h1
    injection h1 with h1
    injection h1 with h2 _ _
    injection h2 with h2
    injection h2 with h2 _
    subst h2
    have h3 := hst off v (fun x y => if x = i ∧ y = off then v else f x y) (by omega) (fun x y _ _ => rfl)
    have hc2 : (w.setCell ⟨gi, off, none⟩ (.int .i64 v)).cell? ⟨g, i, none⟩ = some (.slice (some ⟨gi, 0, none⟩) n ci) :=
      (World.cell?_setCell_far w _ _ _ (by show gi ≠ g; exact hne.1)).trans hc
    obtain ⟨h4, h5⟩ := setCells_mk hi r (off + 1) _ _ h3 hc2 (by omega)
    have e : mkT n (copF i (off + 1) r (fun x y => if x = i ∧ y = off then v else f x y)) = mkT n (copF i off (v :: r) f) := mkT_congr fun x y _ _ => by
      unfold copF
      rw [List.length_cons]
      dsimp only
      by_cases q1 : x = i ∧ off + 1 ≤ y ∧ y < off + 1 + r.length
      · rw [if_pos q1, if_pos (by omega), show y - off = (y - (off + 1)) + 1 by omega, List.getD_cons_succ]
      · rw [if_neg q1]
        by_cases q2 : x = i ∧ y = off
        · rw [if_pos q2, if_pos (by omega), show y - off = 0 by omega, List.getD_cons_zero]
        · rw [if_neg q2, if_neg (by omega)]
    rw [e] at h4
    refine ⟨h4, ?_⟩
    exact (((Below.refl lo w).setCell (p := ⟨gi, off, none⟩) hlo (.int .i64 v))).trans h5
theorem wpList_copyT {ops : Array Oper} {rest : List Oper} {o : Oper} {a : Act} {Q : Exit → Act → World → Prop} (w : World) (hgd : o.guard = none) (d s : Operand)
    (ho : o.op = .call { callee := .builtin .copy, args := #[d, s], argTypes := #[49, 49] })
    (lo g n cap i gi ci : Nat) (f : Nat → Nat → Int) (h : OIntss w lo (.slice (some ⟨g, 0, none⟩) n cap) n (mkT n f)) (hi : i < n) (hc : w.cell? ⟨g, i, none⟩ = some (.slice (some ⟨gi, 0, none⟩) n ci))
    (off dLen dCap : Nat) (hd : a.eval d = .slice (some ⟨gi, off, none⟩) dLen dCap) (sp : Addr) (sLen sCap : Nat) (hs : a.eval s = .slice (some sp) sLen sCap) (r : List Int) (hr : Ints w (some sp) sLen r) (hle : sLen ≤ dLen) (hfit : off + sLen ≤ n)
    (K : ∀ w', OIntss w' lo (.slice (some ⟨g, 0, none⟩) n cap) n (mkT n (copF i off r f)) → Below lo w w' → wpList Tryz.prog ops Q rest (a.put o.dst (goInt sLen)) w') : wpList Tryz.prog ops Q (o :: rest) a w := by
  have hrl := hr.1
  obtain ⟨h4, h5⟩ := setCells_mk hi r off f w h hc (by omega)
  obtain ⟨gj, cj, h1, _, _, hcl, _⟩ := h.mkEnt hi
  rw [hc] at h1
  injection h1 with h1
  injection h1 with h2 _ _
  injection h2 with h2
  injection h2 with h2 _
  subst h2
  refine wpList_plain hgd fun K' hK => ?_
  have hlen : (r.map (Value.int .i64)).length = Nat.min sLen dLen := by
    rw [List.length_map, hrl]
    exact (Nat.min_eq_left hle).symm
  have hrun := run_copy_cells (P := Tryz.prog) w 49 49 o.type 3 gi off dLen dCap sp sLen sCap (r.map (Value.int .i64)) Tryz.underlying49 (by kernel_rfl) hlen
    (by
      intro j v hj
      rw [List.getElem?_map] at hj
      cases hq : r[j]? with
      | none => rw [hq] at hj; cases hj
      | some x =>
        rw [hq] at hj
        injection hj with hj
        subst hj
        have hjl := (List.getElem?_eq_some_iff.1 hq).1
        obtain ⟨b, o', e, hcell⟩ := hr.2.2 j hjl
        injection e with e
        subst e
        rw [Addr.add_lit, hcell]
        simp [List.getD, hq])
    (fun j hj => by
      rw [List.length_map] at hj
      obtain ⟨⟨u, hu⟩, _⟩ := hcl (off + j) (by omega)
      rw [hu]; rfl)
    (fun j hj => by
      rw [List.length_map] at hj
      exact (hcl (off + j) (by omega)).2)
    (fun v hv => by
      obtain ⟨x, _, rfl⟩ := List.mem_map.1 hv
      rfl)
  unfold Oper.wp
  simp [execOp, ho, resolve, invoke, builtin, hd, hs, hrun, Result.andThen]
  have e : goInt (sLen : Nat) = goInt sLen := rfl
  refine hK _ _ ?_
  have := K _ h4 h5
  simpa [hrl] using this
end Go.Proofs.YtdmpokanfnlbgaaGreatDoor

namespace Go.Proofs.YtdmpokanfnlbgaaGreatDoor
open Go.RowKit
set_option linter.all false
def arcsJ (i : Nat) : Nat → List Int → List (List Int)
  | _, [] => []
  | j, x :: r => List.replicate x.toNat [(i : Int), (j : Int)] ++ arcsJ i (j + 1) r
def arcsI : Nat → List (List Int) → List (List Int)
  | _, [] => []
  | i, r :: rs => arcsJ i 0 r ++ arcsI (i + 1) rs
def arcsL (m : List (List Int)) : List (List Int) := arcsI 0 m
theorem arcsI_step {m acc R : List (List Int)} {i : Nat} {r : List Int} (hr : m[i]? = some r) (h : acc ++ arcsI i (m.drop i) = R) : acc ++ (arcsJ i 0 (r.drop 0) ++ arcsI (i + 1) (m.drop (i + 1))) = R := by
  rw [drop_of_get hr, arcsI] at h
  simpa using h
theorem arcsI_end {m acc R : List (List Int)} {i : Nat} (hi : m.length ≤ i) (h : acc ++ arcsI i (m.drop i) = R) : acc = R := by
  rw [drop_all m i hi] at h
  simpa [arcsI] using h
theorem arcsJ_step {acc Z R : List (List Int)} {i j : Nat} {r : List Int} {x : Int} (hx : r[j]? = some x) (h : acc ++ (arcsJ i j (r.drop j) ++ Z) = R) : acc ++ (List.replicate (x.toNat - 0) [(i : Int), (j : Int)] ++ (arcsJ i (j + 1) (r.drop (j + 1)) ++ Z)) = R := by
  rw [drop_of_get hx, arcsJ] at h
  simpa using h
theorem arcsJ_end {acc Z R : List (List Int)} {i j : Nat} {r : List Int} (hj : r.length ≤ j) (h : acc ++ (arcsJ i j (r.drop j) ++ Z) = R) : acc ++ Z = R := by
  rw [drop_all r j hj] at h
  simpa [arcsJ] using h
theorem rep_step {acc Z R : List (List Int)} {a : List Int} {c k : Nat} (hk : k < c) (h : acc ++ (List.replicate (c - k) a ++ Z) = R) : (acc ++ [a]) ++ (List.replicate (c - (k + 1)) a ++ Z) = R := by
  rw [show c - k = (c - (k + 1)) + 1 by omega, List.replicate_succ] at h
  simpa using h
theorem rep_end {acc Z R : List (List Int)} {a : List Int} {c k : Nat} (hk : c ≤ k) (h : acc ++ (List.replicate (c - k) a ++ Z) = R) : acc ++ Z = R := by
  rw [show c - k = 0 by omega] at h
  simpa using h
theorem toCome_le {α : Type} {acc Z R : List α} (h : acc ++ Z = R) : acc.length ≤ R.length := by rw [← h]; simp
theorem arcsJ_len (i : Nat) : ∀ (r : List Int) (j : Nat), allIn 0 1000000 r = true → ((arcsJ i j r).length : Int) = r.sum
  | [], _, _ => rfl
  | x :: r, j, h => by
    simp only [allIn, List.all_cons, Bool.and_eq_true] at h
    have h1 := inR_true h.1
    have h2 := arcsJ_len i r (j + 1) h.2
    simp only [arcsJ, List.length_append, List.length_replicate, List.sum_cons, Int.natCast_add, h2]
    omega
theorem arcsI_len (n : Nat) : ∀ (m : List (List Int)) (i : Nat), tabIn n 0 1000000 m = true → ((arcsI i m).length : Int) = msum m
  | [], _, _ => rfl
  | r :: rs, i, h => by
    simp only [tabIn, List.all_cons, Bool.and_eq_true] at h
    have h2 := arcsI_len n rs (i + 1) h.2
    rw [arcsI, List.length_append, Int.natCast_add, arcsJ_len i r 0 h.1.2, h2, msum_cons]
theorem arcsL_len {m : List (List Int)} (h : isMat m = true) : ((arcsL m).length : Int) = sumOf m := by
  unfold sumOf
  rw [if_pos h]
  simp only [isMat, Bool.and_eq_true] at h
  exact arcsI_len _ m 0 h.1
theorem mem_arcsJ {i : Nat} : ∀ {r : List Int} {j : Nat} {a : List Int}, a ∈ arcsJ i j r → ∃ k : Nat, a = [(i : Int), (k : Int)]
  | [], _, _, h => by simp [arcsJ] at h
  | x :: r, j, a, h => by
    rw [arcsJ] at h
    rcases List.mem_append.1 h with h | h
    · exact ⟨j, List.eq_of_mem_replicate h⟩
    · exact mem_arcsJ h
theorem mem_arcsI : ∀ {m : List (List Int)} {i : Nat} {a : List Int}, a ∈ arcsI i m → ∃ p q : Nat, a = [(p : Int), (q : Int)]
  | [], _, _, h => by simp [arcsI] at h
  | r :: rs, i, a, h => by
    rw [arcsI] at h
    rcases List.mem_append.1 h with h | h
    · obtain ⟨k, e⟩ := mem_arcsJ h; exact ⟨i, k, e⟩
    · exact mem_arcsI h
theorem arc_get {m : List (List Int)} {k : Nat} {a : List Int} (h : (arcsL m)[k]? = some a) : ∃ p q : Nat, a = [(p : Int), (q : Int)] := mem_arcsI (List.mem_of_getElem? h)
/-- May arc a follow a path? -/
def toOf (A : List (List Int)) (x : Int) : Int := (A.getD x.toNat []).getD 1 0
def fromOf (A : List (List Int)) (a : Nat) : Int := (A.getD a []).getD 0 0
def okN (A : List (List Int)) (head : List Int) (a : Nat) : Bool := decide (head.length = 0) || decide (toOf A (head.getLastD 0) = fromOf A a)
def ext (A : List (List Int)) (head : List Int) (a : Nat) : List (List Int) := if okN A head a then [head ++ [(a : Int)]] else []
def ext1 (A : List (List Int)) (head : List Int) : List (List Int) := (List.range' 0 A.length).flatMap (ext A head)
def fillL (A : List (List Int)) : Nat → List Int → List (List Int)
  | 0, head => [head]
  | r + 1, head => (List.range' 0 A.length).flatMap fun a => if okN A head a then fillL A r (head ++ [(a : Int)]) else []
theorem fillL_ext (A : List (List Int)) (r : Nat) (head : List Int) : fillL A (r + 1) head = (ext1 A head).flatMap (fillL A r) := by
  unfold ext1
  rw [List.flatMap_assoc]
  unfold fillL
  congr 1
  funext a
  unfold ext
  split <;> simp
theorem range_step {α : Type} {g : Nat → List α} {acc R : List α} {a N : Nat} (ha : a < N) (h : acc ++ (List.range' a (N - a)).flatMap g = R) : (acc ++ g a) ++ (List.range' (a + 1) (N - (a + 1))).flatMap g = R := by
  rw [show N - a = (N - (a + 1)) + 1 by omega, List.range'_succ, List.flatMap_cons] at h
  simpa using h
theorem range_end {α : Type} {g : Nat → List α} {acc R : List α} {a N : Nat} (ha : N ≤ a) (h : acc ++ (List.range' a (N - a)).flatMap g = R) : acc = R := by
  rw [show N - a = 0 by omega] at h
  simpa using h
def cntP (m : List (List Int)) (n : Int) : Int := match powM m n with
  | none => -1
  | some p => sumOf p
def pathsOk (m : List (List Int)) (n : Int) : Bool := isGraph m && (inR n 1 6 && inR (cntP m n) 0 500)
def pathsV (m : List (List Int)) (n : Int) : List (List Int) := if pathsOk m n then fillL (arcsL m) n.toNat [] else []
def txtP (p : List Int) : ByteArray := p.foldl (fun t x => t ++ decB x.toNat) ⟨#[]⟩
def pathW (m : List (List Int)) (n : Int) : List ByteArray := if 10 < sumOf m then [] else (pathsV m n).map txtP
theorem fillL_mem {A : List (List Int)} : ∀ {r : Nat} {head p : List Int}, p ∈ fillL A r head → Idx A.length head → p.length = head.length + r ∧ Idx A.length p
  | 0, head, p, h, hi => by
    simp [fillL] at h
    subst h
    exact ⟨rfl, hi⟩
  | r + 1, head, p, h, hi => by
    rw [fillL, List.mem_flatMap] at h
    obtain ⟨a, ha, h⟩ := h
    have ha2 : a < A.length := by simpa [List.mem_range'_1] using ha
    split at h
    · have h2 := fillL_mem h (by
        intro x hx
        rcases List.mem_append.1 hx with hx | hx
        · exact hi x hx
        · simp at hx; subst hx; omega)
      refine ⟨?_, h2.2⟩
      have := h2.1
      simp at this
      omega
    · simp at h
theorem fillL_len {A : List (List Int)} (hA : A.length ≤ 60) : ∀ (r : Nat) (head : List Int), (fillL A r head).length ≤ 60 ^ r
  | 0, head => by simp [fillL]
  | r + 1, head => by
    rw [fillL, List.length_flatMap, Nat.pow_succ]
    have key : ∀ (l : List Nat), (l.map fun a => (if okN A head a then fillL A r (head ++ [(a : Int)]) else []).length).sum ≤ 60 ^ r * l.length := by
      intro l
      induction l with
      | nil => simp
      | cons a l ih =>
        simp only [List.map_cons, List.sum_cons, List.length_cons]
        rw [Nat.mul_succ]
        have h1 : (if okN A head a then fillL A r (head ++ [(a : Int)]) else []).length ≤ 60 ^ r := by
          split
          · exact fillL_len hA r _
          · simp
        omega
    have h2 := key (List.range' 0 A.length)
    rw [List.length_range'] at h2
    exact Nat.le_trans h2 (Nat.mul_le_mul_left _ hA)
end Go.Proofs.YtdmpokanfnlbgaaGreatDoor

namespace Go.Proofs.YtdmpokanfnlbgaaGreatDoor
open Go.RowKit
set_option linter.all false
theorem OInts.lit2 (w : World) (lo : Nat) (x y : Int) (hlo : lo ≤ w.heap.size) : OInts (w.alloc (.cells #[.int .i64 x, .int .i64 y] 3)) lo (.slice (some ⟨w.heap.size, 0, none⟩) 2 2) 2 [x, y] :=
  ⟨by omega, World.ownsRow_lit (base := lo) (e := 3) (size := 1) w #[.int .i64 x, .int .i64 y] 2 hlo (by unfold maxLen; omega) (by simp)⟩
theorem arcs_low {m : List (List Int)} (hm : isMat m = true) {i j : Nat} {r : List Int} {x : Int} (hr : m[i]? = some r) (hx : r[j]? = some x) : 0 ≤ x ∧ x ≤ 1000000 := allIn_get (isMat_row hm hr).2 hx
end Go.Proofs.YtdmpokanfnlbgaaGreatDoor

namespace Go.Proofs.YtdmpokanfnlbgaaGreatDoor
open Go.RowKit
set_option linter.all false
set_option maxRecDepth 20000 in
set_option maxHeartbeats 3200000 in
theorem sArcs5_any (p : Option Addr) (n c : Nat) (m : List (List Int)) (w : World) (h : Intss w p n m) (hmat : isMat m = true) (h60 : (arcsL m).length ≤ 60) :
    Calls Tryz.prog 62 #[.slice p n c] w fun e w' => ∃ v, e = .returned v ∧ OIntss w' w.heap.size v (arcsL m).length (arcsL m) ∧ Below w.heap.size w w' := by
  have HL : Hid (m.length = n) := h.1
  have H := Lib.hid h
  have HM := Lib.hid hmat
  have H60 := Lib.hid h60
  have HRL := Lib.hid (isMat_rowsLen hmat h.1)
  have hn9 : n ≤ 9 := by have := isMat_len hmat; have := HL.out; omega
  clear h hmat h60
  go_enter Tryz.func62, Tryz.ntmps62
  go_wp2_with fail
  go_loopw [3, 4] (fun v x wr => ∃ (i : Nat) (acc : List (List Int)), i ≤ n ∧ x = .int .i64 i ∧ OIntss wr w.heap.size v acc.length acc ∧ Hid (acc ++ arcsI i (m.drop i) = arcsL m) ∧ Below w.heap.size w wr) (fun _ x _ => n - (intOf x).toNat)
  case atStart => exact ⟨0, [], Nat.zero_le _, rfl, OIntss.empty w _ (Nat.le_refl _), rfl, (Below.refl _ _).alloc (Nat.le_refl _) _⟩
  case round =>
    obtain ⟨i, acc, hi, rfl, hown, heq, hbl⟩ := hrel
    by_cases hlt : i < n
    · obtain ⟨b1, o1, a1, c1, r, rfl, hca, hrow, hget⟩ := H.out.at_ hlt
      have HR := Lib.hid hget.out
      have HRn : Hid (r.length = n) := HRL.out _ _ hget.out
      have Hrow := Lib.hid hrow
      have Hca := Lib.hid hca
      have Hown := Lib.hid hown
      have Hbl := Lib.hid hbl
      have HEQ := Lib.hid (arcsI_step HR.out heq.out)
      clear hown hbl heq hca hrow hget
      go_wp2_with fail
      go_loopw [3, 5] (fun v x wr => ∃ (j : Nat) (acc : List (List Int)), j ≤ n ∧ x = .int .i64 j ∧ OIntss wr w.heap.size v acc.length acc ∧ Hid (acc ++ (arcsJ i j (r.drop j) ++ arcsI (i + 1) (m.drop (i + 1))) = arcsL m) ∧ Below w.heap.size w wr) (fun _ x _ => n - (intOf x).toNat)
      case atStart => exact ⟨0, _, Nat.zero_le _, rfl, Hown.out, HEQ, Hbl.out⟩
      case round =>
        obtain ⟨j, acc, hj, rfl, hown, heq, hbl⟩ := hrel
        clear Hown HEQ Hbl
        by_cases hjl : j < n
        · obtain ⟨b2, o2, x, rfl, hcx, hgx⟩ := Hrow.out.at_ (k := j) (by have := HRn.out; omega)
          have hxr := arcs_low HM.out HR.out hgx.out
          have HC := Lib.hid (arcsJ_step hgx.out heq.out)
          have Hcx := Lib.hid hcx
          obtain ⟨cx, rfl⟩ : ∃ cx : Nat, x = cx := ⟨x.toNat, by omega⟩
          rw [Int.toNat_natCast] at HC
          have Hown := Lib.hid hown
          have Hbl := Lib.hid hbl
          clear hown hbl heq hcx hgx
          go_wp2_with fail
          go_loopw [3, 6] (fun v x wr => ∃ (k : Nat) (acc : List (List Int)), k ≤ cx ∧ x = .int .i64 k ∧ OIntss wr w.heap.size v acc.length acc ∧ Hid (acc ++ (List.replicate (cx - k) [(i : Int), (j : Int)] ++ (arcsJ i (j + 1) (r.drop (j + 1)) ++ arcsI (i + 1) (m.drop (i + 1)))) = arcsL m) ∧ Below w.heap.size w wr) (fun _ x _ => cx - (intOf x).toNat)
          case atStart => exact ⟨0, _, Nat.zero_le _, rfl, Hown.out, HC, Hbl.out⟩
          case round =>
            obtain ⟨k, acc, hk, rfl, hown, heq, hbl⟩ := hrel
            clear Hown HC Hbl
            have q1 := (hbl.cell (World.block_lt_of_cell? w _ Hca.out)).trans Hca.out
            have q2 := (hbl.cell (World.block_lt_of_cell? w _ Hcx.out)).trans Hcx.out
            have hrn : r.length = n := HRn.out
            have hjr : j < r.length := by omega
            by_cases hkc : k < cx
            · have HQ := Lib.hid (rep_step hkc heq.out)
              have hl := toCome_le HQ.out
              have hl2 : acc.length + 1 ≤ 60 := by have := H60.out; simp at hl; omega
              have Hown := Lib.hid hown
              have Hbl := Lib.hid hbl
              have HO := Lib.hid (OInts.lit2 wr wr.heap.size (i : Int) (j : Int) (Nat.le_refl _))
              have HB := Lib.hid (belowA wr (.cells #[.int .i64 (i : Int), .int .i64 (j : Int)] 3))
              clear hown hbl heq hl
              go_wp2_with (first | (at_builtin; refine wpList_push_fresh _ _ wr rfl (.tmp 31) (.tmp 35) rfl w.heap.size _ acc.length acc rfl Hown.out (by omega) Hbl.out.size HB.out _ _ HO.out _ ?_ rfl ?_; (simp); intro v4 w4 ho4 hb4 _; have Ho4 := Lib.hid ho4; have Hb4 := Lib.hid hb4; clear ho4 hb4))
              go_roundw
              case rel => exact ⟨k + 1, _, hkc, by go_num, by simpa using Ho4.out, HQ, Hbl.out.trans Hb4.out⟩
              case measure => simp [intOf]; omega
            · have HQ := Lib.hid (rep_end (by omega) heq.out)
              have Hown := Lib.hid hown
              have Hbl := Lib.hid hbl
              clear hown hbl heq
              go_wp2_with fail
              go_roundw
              case rel => exact ⟨j + 1, acc, hjl, by go_num, Hown.out, HQ, Hbl.out⟩
              case measure => simp [intOf]; omega
        · have HQ := Lib.hid (arcsJ_end (by have := HRn.out; omega) heq.out)
          have Hown := Lib.hid hown
          have Hbl := Lib.hid hbl
          clear hown hbl heq
          go_wp2_with fail
          go_roundw
          case rel => exact ⟨i + 1, acc, hlt, by go_num, Hown.out, HQ, Hbl.out⟩
          case measure => simp [intOf]; omega
    · have HQ := Lib.hid (arcsI_end (by have := HL.out; omega) heq.out)
      have Hown := Lib.hid hown
      have Hbl := Lib.hid hbl
      clear hown hbl heq
      go_wp2_with fail
      go_ret
      have h9 := Hown.out
      rw [HQ.out] at h9
      exact ⟨_, rfl, h9, Hbl.out⟩
end Go.Proofs.YtdmpokanfnlbgaaGreatDoor

namespace Go.Proofs.YtdmpokanfnlbgaaGreatDoor
open Go.RowKit
set_option linter.all false
set_option maxHeartbeats 800000 in
theorem sSumOf_any (ao : Option Addr) (n cap : Nat) (xss : List (List Int)) (w : World) (h : Intss w ao n xss) :
    Calls Tryz.prog 26 #[.slice ao n cap] w fun e w' => e = .returned (.int .i64 (sumOf xss)) ∧ w = w' := by
  have hm := h.2.1
  have HL := Lib.hid h.1
  have H := Lib.hid h
  clear h
  cases hmat : isMat xss
  · have hg : Hid (sumOf xss = -1) := by show sumOf xss = _; simp [sumOf, hmat]
    go_enter Tryz.func26, Tryz.ntmps26
    go_wp2_with (first | (go_at_call 41; refine (sIsMatrix_any _ _ _ xss _ H.out).mono ?_; rintro e w' ⟨rfl, rfl⟩))
    go_ret
    exact ⟨ret_int hg.out.symm, rfl⟩
  · have hg : Hid (sumOf xss = msum xss) := by show sumOf xss = _; simp [sumOf, hmat]
    have HM := Lib.hid hmat
    have hms := isMat_msum hmat
    go_enter Tryz.func26, Tryz.ntmps26
    go_wp2_with (first | (go_at_call 41; refine (sIsMatrix_any _ _ _ xss _ H.out).mono ?_; rintro e w' ⟨rfl, rfl⟩))
    go_loop [3, 4] (fun s i => ∃ (k : Nat) (t : Int), k ≤ n ∧ i = .int .i64 k ∧ s = .int .i64 t ∧ 0 ≤ t ∧ Hid (t + msum (xss.drop k) = msum xss)) (fun _ i => n - (intOf i).toNat)
    case atStart => exact ⟨0, 0, Nat.zero_le _, rfl, rfl, by omega, Int.zero_add _⟩
    case round =>
      obtain ⟨k, t, hk, rfl, rfl, ht, hr⟩ := hrel
      by_cases hlt : k < n
      · obtain ⟨b, o, ai, ci, r, rfl, hcell, hrow, hget⟩ := H.out.at_ hlt
        have Hrow := Lib.hid hrow
        clear hrow H
        have HR := Lib.hid (isMat_row HM.out hget.out)
        have hrl : r.length ≤ n := by have := HR.out.1; have := HL.out; omega
        have hrl' : n ≤ r.length := by have := HR.out.1; have := HL.out; omega
        have h2 := rest_nonneg HM.out (k + 1)
        have hd := hr.out
        rw [drop_of_get hget.out, msum_cons] at hd
        have hr0 : Hid (t + r.sum + msum (xss.drop (k + 1)) = msum xss) := by show t + r.sum + msum (xss.drop (k + 1)) = msum xss; omega
        have hq : t + r.sum ≤ 81000000 := by omega
        clear hr hd h2
        go_wp2
        go_loop [3, 5] (fun s i => ∃ (j : Nat) (u : Int), j ≤ n ∧ i = .int .i64 j ∧ s = .int .i64 u ∧ 0 ≤ u ∧ Hid (u + (r.drop j).sum = t + r.sum)) (fun _ i => n - (intOf i).toNat)
        case atStart => exact ⟨0, t, Nat.zero_le _, rfl, rfl, ht, rfl⟩
        case round =>
          obtain ⟨j, u, hj, rfl, rfl, hu, hrj⟩ := hrel
          by_cases hjn : j < n
          · obtain ⟨b', o', x, rfl, hcell', hget'⟩ := Hrow.out.at_ (k := j) (by omega)
            have hjr : j < r.length := by omega
            have hx := allIn_get HR.out.2 hget'.out
            have h4 := rest_row (by decide) HR.out.2 (j + 1)
            have hd := hrj.out
            rw [drop_of_get hget'.out, List.sum_cons] at hd
            have h5 : u + x ≤ 81000000 := by omega
            have hr1 : Hid (u + x + (r.drop (j + 1)).sum = t + r.sum) := by show u + x + (r.drop (j + 1)).sum = t + r.sum; omega
            clear hrj hd h4 Hrow
            go_wp2
            go_round
            case rel => exact ⟨j + 1, _, hjn, by go_num, rfl, by omega, hr1⟩
            case measure => simp [intOf]; omega
          · have hr1 : Hid (u + msum (xss.drop (k + 1)) = msum xss) := by
              have h6 := hrj.out
              rw [drop_all r j (by omega), List.sum_nil, Int.add_zero] at h6
              have h7 := hr0.out
              show u + msum (xss.drop (k + 1)) = msum xss
              omega
            clear hrj Hrow
            go_wp2
            go_round
            case rel => exact ⟨k + 1, _, hlt, by go_num, rfl, hu, hr1⟩
            case measure => simp [intOf]; omega
      · go_wp2
        go_ret
        rw [drop_all xss k (by have := HL.out; omega)] at hr
        exact ⟨ret_int (by rw [hg.out, ← hr.out]; simp [msum]), rfl⟩
end Go.Proofs.YtdmpokanfnlbgaaGreatDoor

namespace Go.Proofs.YtdmpokanfnlbgaaGreatDoor
open Go.RowKit
set_option linter.all false
set_option maxHeartbeats 800000 in
theorem sIsGraph_any (ao : Option Addr) (n cap : Nat) (xss : List (List Int)) (w : World) (h : Intss w ao n xss) :
    Calls Tryz.prog 61 #[.slice ao n cap] w fun e w' => e = .returned (.bool (isGraph xss)) ∧ w = w' := by
  have H := Lib.hid h
  clear h
  cases hmat : isMat xss
  · have hg : Hid (isGraph xss = false) := by show isGraph xss = _; simp [isGraph, hmat]
    go_enter Tryz.func61, Tryz.ntmps61
    go_wp2_with (first | (go_at_call 41; refine (sIsMatrix_any _ _ _ xss _ H.out).mono ?_; rintro e w' ⟨rfl, rfl⟩))
    go_ret
    exact ⟨ret_bool hg.out.symm, rfl⟩
  · have hg : Hid (isGraph xss = decide (sumOf xss ≤ 60)) := by show isGraph xss = _; simp [isGraph, hmat]
    go_enter Tryz.func61, Tryz.ntmps61
    go_wp2_with (first | (go_at_call 41; refine (sIsMatrix_any _ _ _ xss _ H.out).mono ?_; rintro e w' ⟨rfl, rfl⟩) | (go_at_call 26; refine (sSumOf_any _ _ _ xss _ H.out).mono ?_; rintro e w' ⟨rfl, rfl⟩))
    go_ret
    exact ⟨ret_bool hg.out.symm, rfl⟩
end Go.Proofs.YtdmpokanfnlbgaaGreatDoor

namespace Go.Proofs.YtdmpokanfnlbgaaGreatDoor
open Go.RowKit
set_option linter.all false
theorem graph_arcs {m : List (List Int)} (h : isGraph m = true) : isMat m = true ∧ sumOf m ≤ 60 ∧ ((arcsL m).length : Int) = sumOf m := by
  have hm : isMat m = true := by
    cases e : isMat m
    · simp [isGraph, e] at h
    · rfl
  simp [isGraph, hm] at h
  exact ⟨hm, h, arcsL_len hm⟩
def arcsV (m : List (List Int)) : List (List Int) := if isGraph m then arcsL m else []
set_option maxHeartbeats 800000 in
theorem sArcsOf_any (p : Option Addr) (n c : Nat) (m : List (List Int)) (w : World) (h : Intss w p n m) :
    Calls Tryz.prog 32 #[.slice p n c] w fun e w' => ∃ v, e = .returned v ∧ OIntss w' w.heap.size v (arcsV m).length (arcsV m) ∧ Below w.heap.size w w' := by
  have H := Lib.hid h
  clear h
  cases hg : isGraph m
  · have hv : Hid (arcsV m = []) := by show _ = _; simp [arcsV, hg]
    go_enter Tryz.func32, Tryz.ntmps32
    go_wp2_with (go_at_call 61; refine (sIsGraph_any _ _ _ m _ H.out).mono ?_; rw [hg]; rintro e w' ⟨rfl, rfl⟩)
    go_ret
    rw [hv.out]
    exact ⟨_, rfl, OIntss.empty _ _ (Nat.le_refl _), (Below.refl _ _).alloc (Nat.le_refl _) _⟩
  · have hv : Hid (arcsV m = arcsL m) := by show _ = _; simp [arcsV, hg]
    have HA := Lib.hid (graph_arcs hg)
    have HG := Lib.hid hg
    clear hg
    go_enter Tryz.func32, Tryz.ntmps32
    go_wp2_with fail
    refine (sIsGraph_any _ _ _ m _ H.out).mono ?_
    rw [HG.out]
    rintro e w' ⟨rfl, rfl⟩
    go_wp2_with fail
    refine (sArcs5_any _ _ _ m _ H.out HA.out.1 (by have := HA.out; omega)).mono ?_
    rintro e w1 ⟨v1, rfl, ho1, hb1⟩
    have Ho1 := Lib.hid ho1
    have Hb1 := Lib.hid hb1
    clear ho1 hb1
    go_wp2_with fail
    go_ret
    rw [hv.out]
    exact ⟨_, rfl, Ho1.out, Hb1.out⟩
end Go.Proofs.YtdmpokanfnlbgaaGreatDoor

namespace Go.Proofs.YtdmpokanfnlbgaaGreatDoor
open Go.RowKit
set_option linter.all false
def blkF (m : List (List Int)) : Nat → Nat → Int := fun x y => if entA (arcsV m) x 1 = entA (arcsV m) y 0 then 1 else 0
def blkOk (m : List (List Int)) : Bool := inR ((arcsV m).length : Int) 1 9
def blkV (m : List (List Int)) : List (List Int) := if blkOk m then mkT (arcsV m).length (blkF m) else []
def isBlk (m n : List (List Int)) : Bool := blkOk m && eqL (blkV m) n
theorem arcs_two {m : List (List Int)} {i : Nat} {a : List Int} (h : (arcsV m)[i]? = some a) : ∃ p q : Nat, a = [(p : Int), (q : Int)] ∧ entA (arcsV m) i 0 = p ∧ entA (arcsV m) i 1 = q := by
  have hm : a ∈ arcsV m := List.mem_of_getElem? h
  unfold arcsV at hm
  split at hm
  · obtain ⟨p, q, e⟩ := mem_arcsI hm
    refine ⟨p, q, e, ?_, ?_⟩ <;> unfold entA <;> rw [getD_get h, e] <;> rfl
  · cases hm
def joinF (a b : List (List Int)) : Nat → Nat → Int := fun x y => if x < a.length then (if y < a.length then entA a x y else 0) else if y < a.length then 0 else entA b (x - a.length) (y - a.length)
def joinOk (a b : List (List Int)) : Bool := isMat a && (isMat b && decide (a.length + b.length ≤ 9))
def joinV (a b : List (List Int)) : List (List Int) := if joinOk a b then mkT (a.length + b.length) (joinF a b) else []
def pairF (a b : List (List Int)) : Nat → Nat → Int := fun x y => entA a (x / b.length) (y / b.length) * entA b (x % b.length) (y % b.length)
def pairOk (a b : List (List Int)) : Bool := isMat a && (isMat b && isMat (mkT (a.length * b.length) (pairF a b)))
def pairV (a b : List (List Int)) : List (List Int) := if pairOk a b then mkT (a.length * b.length) (pairF a b) else []
def pwgOk (m : List (List Int)) (n : Int) : Bool := inR n 1 30 && (powM m n).isSome
def pwgV (m : List (List Int)) (n : Int) : List (List Int) := if inR n 1 30 then (powM m n).getD [] else []
theorem isMat_mkT {n : Nat} {f : Nat → Nat → Int} (h : isMat (mkT n f) = true) : 1 ≤ n ∧ n ≤ 9 ∧ ∀ x y, x < n → y < n → 0 ≤ f x y ∧ f x y ≤ 1000000 := by
  have hl := isMat_len h
  rw [mkT_len] at hl
  refine ⟨hl.1, by omega, fun x y hx hy => ?_⟩
  have h2 := isMat_row h (mkT_get hx)
  have h3 := allIn_get h2.2 (k := y) (x := f x y) (by simp [hy])
  exact h3
theorem mkT_isMat {n : Nat} {f : Nat → Nat → Int} (h1 : 1 ≤ n) (h9 : n ≤ 9) (h : ∀ x y, x < n → y < n → 0 ≤ f x y ∧ f x y ≤ 1000000) : isMat (mkT n f) = true := by
  unfold isMat
  rw [Bool.and_eq_true]
  refine ⟨?_, inR_mk ⟨by rw [mkT_len]; omega, by rw [mkT_len]; omega⟩⟩
  unfold tabIn
  rw [List.all_eq_true]
  intro r hr
  obtain ⟨x, hx, rfl⟩ := List.mem_map.1 hr
  rw [Bool.and_eq_true, decide_eq_true_eq, mkT_len]
  refine ⟨by simp, ?_⟩
  unfold allIn
  rw [List.all_eq_true]
  intro v hv
  obtain ⟨y, hy, rfl⟩ := List.mem_map.1 hv
  exact inR_mk (h x y (List.mem_range.1 hx) (List.mem_range.1 hy))
theorem ent_low {m : List (List Int)} (hm : isMat m = true) {j l : Nat} (hj : j < m.length) (hl : l < m.length) : 0 ≤ entA m j l ∧ entA m j l ≤ 1000000 := by
  have hq : m[j]? = some m[j] := List.getElem?_eq_getElem hj
  have h2 := isMat_row hm hq
  have hx : m[j][l]? = some (m[j][l]'(by rw [h2.1]; exact hl)) := List.getElem?_eq_getElem _
  have h3 := allIn_get h2.2 hx
  have e : entA m j l = m[j][l]'(by rw [h2.1]; exact hl) := by unfold entA; rw [getD_get hq, getD_get hx]
  rw [e]; exact h3
theorem join_mat {a b : List (List Int)} (ha : isMat a = true) (hb : isMat b = true) : isMat (mkT (a.length + b.length) (joinF a b)) = decide (a.length + b.length ≤ 9) := by
  have la := isMat_len ha
  have lb := isMat_len hb
  by_cases h : a.length + b.length ≤ 9
  · rw [decide_eq_true h]
    refine mkT_isMat (by omega) h fun x y hx hy => ?_
    unfold joinF
    by_cases h1 : x < a.length
    · rw [if_pos h1]
      by_cases h2 : y < a.length
      · rw [if_pos h2]; exact ent_low ha h1 h2
      · rw [if_neg h2]; omega
    · rw [if_neg h1]
      by_cases h2 : y < a.length
      · rw [if_pos h2]; omega
      · rw [if_neg h2]; exact ent_low hb (by omega) (by omega)
  · rw [decide_eq_false h]
    cases hq : isMat (mkT (a.length + b.length) (joinF a b))
    · rfl
    · exact absurd (isMat_mkT hq).2.1 h
end Go.Proofs.YtdmpokanfnlbgaaGreatDoor

namespace Go.Proofs.YtdmpokanfnlbgaaGreatDoor
open Go.RowKit
set_option linter.all false
theorem Sm_mulr (n : Nat) (c : Int) (f : Nat → Int) : Sm n (fun j => f j * c) = Sm n f * c := by
  rw [Int.mul_comm, ← Sm_mul]
  exact Sm_congr n _ _ (fun j _ => Int.mul_comm _ _)
theorem Sm_assoc (n m : Nat) (a : Nat → Int) (b : Nat → Nat → Int) (c : Nat → Int) : Sm m (fun l => Sm n (fun j => a j * b j l) * c l) = Sm n (fun j => a j * Sm m (fun l => b j l * c l)) := by
  have h1 : Sm m (fun l => Sm n (fun j => a j * b j l) * c l) = Sm m (fun l => Sm n (fun j => a j * (b j l * c l))) := by
    refine Sm_congr m _ _ (fun l _ => ?_)
    rw [← Sm_mulr]
    exact Sm_congr n _ _ (fun j _ => Int.mul_assoc _ _ _)
  rw [h1, ← Sm_comm]
  exact Sm_congr n _ _ (fun j _ => Sm_mul _ _ _)
/-- The sum of the diagonal of the power k. -/
def tr (n : Nat) (A : Nat → Nat → Int) (k : Nat) : Int := Sm n (fun i => TT n i A k i)
theorem TT_congr {n : Nat} {A B : Nat → Nat → Int} (h : ∀ i j, i < n → j < n → A i j = B i j) (i : Nat) : ∀ k l, l < n → TT n i A k l = TT n i B k l
  | 0, _, _ => rfl
  | k + 1, l, hl => Sm_congr n _ _ (fun j hj => by rw [TT_congr h i k j hj, h j l hj hl])
theorem tr_congr {n : Nat} {A B : Nat → Nat → Int} (h : ∀ i j, i < n → j < n → A i j = B i j) (k : Nat) : tr n A k = tr n B k :=
  Sm_congr n _ _ (fun i hi => TT_congr h i k i hi)
section
variable {n m : Nat} {R S A X : Nat → Nat → Int} (hA : ∀ i j, i < n → j < n → A i j = Sm m (fun q => R i q * S q j)) (hX : ∀ p q, p < m → q < m → X p q = Sm n (fun i => S p i * R i q))
include hA hX
theorem TT_two {k : Nat} (hk : k < n) : ∀ (t q : Nat), q < m → Sm n (fun l => TT n k A t l * R l q) = Sm m (fun p => R k p * TT m p X t q)
  | 0, q, hq => by
    have h1 : Sm n (fun l => TT n k A 0 l * R l q) = R k q := Sm_one n k (fun l => R l q) hk
    have h2 : Sm m (fun p => R k p * TT m p X 0 q) = Sm m (fun p => (if p = q then 1 else 0) * R k p) := by
      refine Sm_congr m _ _ (fun p _ => ?_)
      show R k p * (if q = p then 1 else 0) = _
      by_cases e : p = q
      · subst e; simp
      · rw [if_neg e, if_neg (fun e2 => e e2.symm)]; simp
    rw [h1, h2, Sm_one m q (fun p => R k p) hq]
  | t + 1, q, hq => by
    have ih := TT_two hk t
    show Sm n (fun l => Sm n (fun j => TT n k A t j * A j l) * R l q) = _
    rw [Sm_assoc]
    have h1 : Sm n (fun j => TT n k A t j * Sm n (fun l => A j l * R l q)) = Sm n (fun j => TT n k A t j * Sm m (fun p => R j p * X p q)) := by
      refine Sm_congr n _ _ (fun j hj => ?_)
      congr 1
      have h2 : Sm n (fun l => A j l * R l q) = Sm n (fun l => Sm m (fun p => R j p * S p l) * R l q) := Sm_congr n _ _ (fun l hl => by rw [hA j l hj hl])
      rw [h2, Sm_assoc]
      exact Sm_congr m _ _ (fun p hp => by rw [hX p q hp hq])
    rw [h1, ← Sm_assoc]
    have h3 : Sm m (fun l => Sm n (fun j => TT n k A t j * R j l) * X l q) = Sm m (fun l => Sm m (fun p => R k p * TT m p X t l) * X l q) := Sm_congr m _ _ (fun l hl => by rw [ih l hl])
    rw [h3, Sm_assoc]
    rfl
/-- Both products have the same closed paths. -/
theorem tr_two (t : Nat) : tr n A (t + 1) = tr m X (t + 1) := by
  unfold tr
  have h1 : Sm n (fun k => TT n k A (t + 1) k) = Sm n (fun k => Sm m (fun p => R k p * Sm m (fun l => TT m p X t l * S l k))) := by
    refine Sm_congr n _ _ (fun k hk => ?_)
    show Sm n (fun j => TT n k A t j * A j k) = _
    have h2 : Sm n (fun j => TT n k A t j * A j k) = Sm n (fun j => TT n k A t j * Sm m (fun q => R j q * S q k)) := Sm_congr n _ _ (fun j hj => by rw [hA j k hj hk])
    rw [h2, ← Sm_assoc]
    have h3 : Sm m (fun l => Sm n (fun j => TT n k A t j * R j l) * S l k) = Sm m (fun l => Sm m (fun p => R k p * TT m p X t l) * S l k) := Sm_congr m _ _ (fun l hl => by rw [TT_two hA hX hk t l hl])
    rw [h3, Sm_assoc]
  rw [h1, Sm_comm]
  refine Sm_congr m _ _ (fun p hp => ?_)
  show Sm n (fun k => R k p * Sm m (fun l => TT m p X t l * S l k)) = Sm m (fun l => TT m p X t l * X l p)
  have h4 : Sm n (fun k => R k p * Sm m (fun l => TT m p X t l * S l k)) = Sm n (fun k => Sm m (fun l => TT m p X t l * S l k) * R k p) := Sm_congr n _ _ (fun k _ => Int.mul_comm _ _)
  rw [h4, Sm_assoc]
  exact Sm_congr m _ _ (fun l hl => by rw [hX l p hl hp])
end
theorem TT_left (n : Nat) (A : Nat → Nat → Int) {i : Nat} (hi : i < n) : ∀ (k l : Nat), l < n → TT n i A (k + 1) l = Sm n (fun j => A i j * TT n j A k l)
  | 0, l, hl => by
    rw [TT_one n i A hi l]
    have h2 : Sm n (fun j => A i j * TT n j A 0 l) = Sm n (fun j => (if j = l then 1 else 0) * A i j) := by
      refine Sm_congr n _ _ (fun p _ => ?_)
      show A i p * (if l = p then 1 else 0) = _
      by_cases e : p = l
      · subst e; simp
      · rw [if_neg e, if_neg (fun e2 => e e2.symm)]; simp
    rw [h2, Sm_one n l (fun p => A i p) hl]
  | k + 1, l, hl => by
    have ih := TT_left n A hi k
    show Sm n (fun q => TT n i A (k + 1) q * A q l) = _
    have h1 : Sm n (fun q => TT n i A (k + 1) q * A q l) = Sm n (fun q => Sm n (fun j => A i j * TT n j A k q) * A q l) := Sm_congr n _ _ (fun q hq => by rw [ih q hq])
    rw [h1, Sm_assoc]
    rfl
theorem TT_turn (n : Nat) (A : Nat → Nat → Int) : ∀ (k i l : Nat), i < n → l < n → TT n i (fun a b => A b a) k l = TT n l A k i
  | 0, i, l, _, _ => by
    show (if l = i then 1 else 0) = (if i = l then (1 : Int) else 0)
    by_cases e : l = i
    · subst e; rfl
    · rw [if_neg e, if_neg (fun e2 => e e2.symm)]
  | k + 1, i, l, hi, hl => by
    rw [TT_left n A hl k i hi]
    show Sm n (fun j => TT n i (fun a b => A b a) k j * A l j) = _
    exact Sm_congr n _ _ (fun j hj => by rw [TT_turn n A k i j hi hj, Int.mul_comm])
theorem tr_turn (n : Nat) (A : Nat → Nat → Int) (k : Nat) : tr n (fun a b => A b a) k = tr n A k :=
  Sm_congr n _ _ (fun i hi => TT_turn n A k i i hi hi)
theorem trc_Cg : ∀ (p : List (List Int)) (k : Nat) (a : Int), Cg (trc k a p) (a + Sm p.length (fun i => (p.getD i []).getD (k + i) 0)) ∧ (wrap64 a = a → wrap64 (trc k a p) = trc k a p)
  | [], k, a => ⟨Cg.of_eq (by simp [trc, Sm]), id⟩
  | r :: p, k, a => by
    have ih := trc_Cg p (k + 1) (wrap64 (a + r.getD k 0))
    refine ⟨?_, fun _ => ih.2 (Cg.wrap _).eq⟩
    refine ih.1.trans ?_
    rw [List.length_cons, Sm_first]
    refine ((Cg.wrap _).add (Cg.refl _)).trans (Cg.of_eq ?_)
    have h2 : Sm p.length (fun i => (p.getD i []).getD (k + 1 + i) 0) = Sm p.length (fun j => ((r :: p).getD (j + 1) []).getD (k + (j + 1)) 0) :=
      Sm_congr _ _ _ (fun j _ => by rw [List.getD_cons_succ, show k + 1 + j = k + (j + 1) by omega])
    rw [h2, List.getD_cons_zero, Nat.add_zero]
    omega
theorem Sm_bound (c : Int) : ∀ (n : Nat) (f : Nat → Int), (∀ j, j < n → 0 ≤ f j ∧ f j ≤ c) → 0 ≤ Sm n f ∧ Sm n f ≤ n * c
  | 0, _, _ => by simp [Sm]
  | n + 1, f, h => by
    have ih := Sm_bound c n f (fun j hj => h j (by omega))
    have h1 := h n (by omega)
    show 0 ≤ Sm n f + f n ∧ Sm n f + f n ≤ ((n + 1 : Nat) : Int) * c
    have e : ((n + 1 : Nat) : Int) * c = n * c + c := by rw [Int.natCast_add, Int.add_mul]; simp
    omega
/-- Where a number of closed paths is known, it is the sum of the diagonal. -/
theorem closed_Cg {m : List (List Int)} {k : Int} (h : 0 ≤ closed m k) : isMat m = true ∧ 1 ≤ k ∧ k ≤ 30 ∧ Cg (closed m k) (tr m.length (entA m) k.toNat) ∧ closed m k ≤ 9000000 := by
  unfold closed at h ⊢
  cases h1 : inR k 1 30
  · rw [h1] at h; simp at h
  rw [h1] at h
  simp only [if_true] at h ⊢
  have b1 := inR_true h1
  cases hp : powM m k with
  | none => rw [hp] at h; simp at h
  | some p =>
    rw [hp] at h
    simp only at h ⊢
    have hm := powM_mat hp
    have hl := isMat_len hm.2.1
    have hc := trc_Cg p 0 0
    have hent : ∀ j, j < p.length → 0 ≤ (p.getD j []).getD (0 + j) 0 ∧ (p.getD j []).getD (0 + j) 0 ≤ 1000000 := by
      intro j hj
      rw [Nat.zero_add]
      have h2 := isMat_row hm.2.1 (get_lt p j [] hj)
      exact allIn_get h2.2 (get_lt _ j 0 (by rw [h2.1]; exact hj))
    have hsb := Sm_bound 1000000 p.length _ hent
    have hcan := hc.2 (wrap_id (by omega))
    have heq : trc 0 0 p = Sm p.length (fun i => (p.getD i []).getD (0 + i) 0) := by
      refine Cg.same (hc.1.trans (Cg.of_eq (Int.zero_add _))) hcan (wrap_id ?_)
      have : (p.length : Int) ≤ 9 := by omega
      omega
    refine ⟨hm.1, b1.1, b1.2, ?_, by rw [heq]; have : (p.length : Int) ≤ 9 := by omega
                                     omega⟩
    rw [heq, hm.2.2]
    unfold tr
    refine Sm_Cg _ _ _ (fun i hi => ?_)
    have h4 : inR k 0 30 = true := inR_mk ⟨by omega, by omega⟩
    rw [powM_iter hm.1 h4] at hp
    have h7 := iterM_row hi k.toNat 0 (oneT m.length) p (oneT_len _) (by rw [getD_get (oneT_get hi)]; exact oneRow_len _ _) (by
      intro l hl
      rw [getD_get (oneT_get hi)]
      refine Cg.of_eq ?_
      show (oneRow m.length i).getD l 0 = if l = i then 1 else 0
      unfold oneRow
      simp only [List.getD, List.getElem?_set, List.length_replicate]
      by_cases e : i = l
      · subst e; simp [hi]
      · rw [if_neg e, if_neg (fun e2 => e e2.symm)]
        simp [List.getElem?_replicate, hl]) hp i hi
    rw [Nat.zero_add] at h7 ⊢
    exact h7
/-- Two graphs of which the sums of the diagonals are one have the same closed paths, where these are known. -/
theorem closed_same {m x : List (List Int)} {k : Int} (hm : 0 ≤ closed m k) (hx : 0 ≤ closed x k) (h : ∀ t : Nat, tr x.length (entA x) (t + 1) = tr m.length (entA m) (t + 1)) : closed x k = closed m k := by
  have h1 := closed_Cg hm
  have h2 := closed_Cg hx
  have e : k.toNat = (k.toNat - 1) + 1 := by omega
  have h3 := h (k.toNat - 1)
  rw [← e] at h3
  have h4 := h2.2.2.2.1
  rw [h3] at h4
  exact (h4.trans h1.2.2.2.1.symm).same (wrap_id (by omega)) (wrap_id (by omega))
end Go.Proofs.YtdmpokanfnlbgaaGreatDoor

namespace Go.Proofs.YtdmpokanfnlbgaaGreatDoor
open Go.RowKit
set_option linter.all false
theorem sum_flat {β γ : Type} (g : β → List γ) (f : γ → Nat) : ∀ L : List β, ((L.flatMap g).map f).sum = (L.map fun x => ((g x).map f).sum).sum
  | [] => rfl
  | x :: L => by rw [List.flatMap_cons, List.map_append, List.sum_append, sum_flat g f L, List.map_cons, List.sum_cons]
theorem sum_const {β : Type} (c : Nat) : ∀ L : List β, (L.map fun _ => c).sum = L.length * c
  | [] => by simp
  | x :: L => by rw [List.map_cons, List.sum_cons, sum_const c L, List.length_cons, Nat.succ_mul, Nat.add_comm]
theorem filter_flat {β γ : Type} (g : β → List γ) (p : γ → Bool) : ∀ L : List β, ((L.flatMap g).filter p).length = (L.map fun x => ((g x).filter p).length).sum
  | [] => rfl
  | x :: L => by rw [List.flatMap_cons, List.filter_append, List.length_append, filter_flat g p L, List.map_cons, List.sum_cons]
theorem sum_range (f : Nat → Nat) : ∀ n : Nat, (((List.range n).map f).sum : Int) = Sm n (fun i => (f i : Int))
  | 0 => rfl
  | n + 1 => by
    rw [List.range_succ, List.map_append, List.sum_append, Int.natCast_add, sum_range f n]
    simp [Sm]
theorem Sm_pick {n i : Nat} (hi : i < n) (f : Nat → Int) : Sm n (fun j => if j = i then f j else 0) = f i := by
  have := Sm_one n i f hi
  rw [← this]
  exact Sm_congr n _ _ fun j _ => by split <;> simp
abbrev Arc3 := Nat × Nat × Nat
def arcs3 (n : Nat) (a : Nat → Nat → Nat) : List Arc3 := (List.range n).flatMap fun i => (List.range n).flatMap fun j => (List.range (a i j)).map fun k => (i, j, k)
theorem mem_arcs3 {n : Nat} {a : Nat → Nat → Nat} {x : Arc3} : x ∈ arcs3 n a ↔ x.1 < n ∧ x.2.1 < n ∧ x.2.2 < a x.1 x.2.1 := by
  obtain ⟨i, j, k⟩ := x
  simp only [arcs3, List.mem_flatMap, List.mem_map, List.mem_range]
  constructor
  · rintro ⟨i', hi, j', hj, k', hk, e⟩
    injection e with e1 e2
    injection e2 with e2 e3
    subst e1; subst e2; subst e3
    exact ⟨hi, hj, hk⟩
  · rintro ⟨hi, hj, hk⟩
    exact ⟨i, hi, j, hj, k, hk, rfl⟩
theorem nodup_arcs3 (n : Nat) (a : Nat → Nat → Nat) : (arcs3 n a).Nodup := by
  unfold arcs3 List.Nodup
  rw [List.pairwise_flatMap]
  refine ⟨fun i _ => ?_, ?_⟩
  · rw [List.pairwise_flatMap]
    refine ⟨fun j _ => ?_, ?_⟩
    · rw [List.pairwise_map]
      exact List.nodup_range.imp fun hne e => hne (by injection e with _ e; injection e)
    · refine List.nodup_range.imp fun {j j'} hne x hx y hy e => hne ?_
      simp only [List.mem_map] at hx hy
      obtain ⟨_, _, rfl⟩ := hx
      obtain ⟨_, _, rfl⟩ := hy
      injection e with _ e
      injection e
  · refine List.nodup_range.imp fun {i i'} hne x hx y hy e => hne ?_
    simp only [List.mem_flatMap, List.mem_map] at hx hy
    obtain ⟨_, _, _, _, rfl⟩ := hx
    obtain ⟨_, _, _, _, rfl⟩ := hy
    injection e
/-- A word of arcs that leads from i to l. -/
def pathB3 (l : Nat) : Nat → List Arc3 → Bool
  | i, [] => decide (i = l)
  | i, x :: w => decide (x.1 = i) && pathB3 l x.2.1 w
theorem arcs_sum {n i : Nat} (hi : i < n) (a : Nat → Nat → Nat) (f : Nat → Nat) : (((arcs3 n a).map fun x => if x.1 = i then f x.2.1 else 0).sum : Int) = Sm n (fun j => (a i j : Int) * (f j : Int)) := by
  unfold arcs3
  rw [sum_flat, sum_range]
  have h1 : Sm n (fun q => ((((List.range n).flatMap fun j => (List.range (a q j)).map fun k => ((q, j, k) : Arc3)).map fun x => if x.1 = i then f x.2.1 else 0).sum : Int)) = Sm n (fun q => if q = i then Sm n (fun j => (a q j : Int) * (f j : Int)) else 0) := by
    refine Sm_congr n _ _ fun q _ => ?_
    rw [sum_flat, sum_range]
    by_cases e : q = i
    · rw [if_pos e]
      refine Sm_congr n _ _ fun j _ => ?_
      rw [List.map_map]
      have h2 : ((List.range (a q j)).map ((fun x : Arc3 => if x.1 = i then f x.2.1 else 0) ∘ fun k => (q, j, k))) = (List.range (a q j)).map fun _ => f j := by
        apply List.map_congr_left
        intro k _
        simp [e]
      rw [h2, sum_const, List.length_range, Int.natCast_mul]
    · rw [if_neg e]
      have h3 : Sm n (fun j => ((((List.range (a q j)).map fun k => ((q, j, k) : Arc3)).map fun x => if x.1 = i then f x.2.1 else 0).sum : Int)) = Sm n (fun _ => 0) := by
        refine Sm_congr n _ _ fun j _ => ?_
        rw [List.map_map, sum_nil _ _ fun k _ => by simp [e]]
        rfl
      rw [h3, Sm_zero]
  rw [h1, Sm_pick hi]
theorem path_count {n : Nat} (a : Nat → Nat → Nat) {l : Nat} (hl : l < n) : ∀ (k i : Nat), i < n → ((((wordsL (arcs3 n a) k).filter (pathB3 l i)).length : Nat) : Int) = TT n i (fun p q => (a p q : Int)) k l
  | 0, i, _ => by
    show _ = if l = i then (1 : Int) else 0
    simp only [wordsL, List.filter_cons, pathB3, List.filter_nil, decide_eq_true_eq]
    by_cases e : i = l
    · rw [if_pos e, if_pos e.symm]; rfl
    · rw [if_neg e, if_neg (fun h => e h.symm)]; rfl
  | k + 1, i, hi => by
    rw [TT_left n _ hi k l hl]
    unfold wordsL
    rw [filter_flat]
    have h1 : ((arcs3 n a).map fun x => (((wordsL (arcs3 n a) k).map (x :: ·)).filter (pathB3 l i)).length) = (arcs3 n a).map fun x => if x.1 = i then ((wordsL (arcs3 n a) k).filter (pathB3 l x.2.1)).length else 0 := by
      apply List.map_congr_left
      intro x _
      rw [List.filter_map, List.length_map]
      by_cases e : x.1 = i
      · rw [if_pos e]
        congr 2
        funext w
        simp [pathB3, e]
      · rw [if_neg e]
        have : (wordsL (arcs3 n a) k).filter (pathB3 l i ∘ (x :: ·)) = [] := by
          rw [List.filter_eq_nil_iff]
          intro w _
          simp [pathB3, e]
        rw [this]
        rfl
    rw [h1, arcs_sum hi a fun q => ((wordsL (arcs3 n a) k).filter (pathB3 l q)).length]
    refine Sm_congr n _ _ fun j hj => ?_
    rw [path_count a hl k j hj]
def winA (x y _ : Arc3) : Bool := decide (x.2.1 = y.1)
def vtx (i : Nat) (w : List Arc3) : Nat → Nat
  | 0 => i
  | t + 1 => (w.getD t default).2.1
theorem path_vtx {l : Nat} : ∀ (w : List Arc3) (i : Nat), pathB3 l i w = true ↔ (∀ t x, w[t]? = some x → x.1 = vtx i w t) ∧ vtx i w w.length = l
  | [], i => by simp [pathB3, vtx]
  | x :: w, i => by
    rw [pathB3, Bool.and_eq_true, decide_eq_true_eq, path_vtx w]
    have hv : ∀ t, vtx i (x :: w) (t + 1) = vtx x.2.1 w t := fun t => by cases t <;> simp [vtx]
    constructor
    · rintro ⟨h1, h2, h3⟩
      refine ⟨fun t y hy => ?_, ?_⟩
      · cases t with
        | zero => simp at hy; subst hy; exact h1
        | succ t => rw [hv]; exact h2 t y (by simpa using hy)
      · rw [List.length_cons, hv]; exact h3
    · rintro ⟨h1, h2⟩
      refine ⟨h1 0 x (by simp), fun t y hy => ?_, ?_⟩
      · rw [← hv]; exact h1 (t + 1) y (by simpa using hy)
      · rw [← hv]; rw [List.length_cons] at h2; exact h2
theorem vtx_exw {i : Nat} {w : List Arc3} {t : Nat} (ht : t < w.length) : vtx i w (t + 1) = (exw w t).2.1 := by
  show (w.getD t default).2.1 = _
  rw [List.getD_eq_getElem?_getD, exw_lt ht]
  rfl
theorem path_ring {w : List Arc3} (hw : 0 < w.length) (i : Nat) : pathB3 i i w = true ↔ rings winA w ∧ (exw w 0).1 = i := by
  rw [path_vtx]
  constructor
  · rintro ⟨h1, h2⟩
    have h0 : (exw w 0).1 = i := h1 0 _ (exw_lt hw)
    refine ⟨fun t => ?_, h0⟩
    unfold winA
    rw [decide_eq_true_eq, ← exw_mod w t, ← exw_modk w t 1]
    have ht : t % w.length < w.length := Nat.mod_lt _ hw
    generalize t % w.length = s at ht
    by_cases e : s + 1 < w.length
    · have := h1 (s + 1) _ (exw_lt e)
      rw [vtx_exw ht] at this
      exact this.symm
    · have e2 : s + 1 = w.length := by omega
      rw [← vtx_exw (i := i) ht, e2, h2, ← exw_mod w w.length, Nat.mod_self, h0]
  · rintro ⟨hr, h0⟩
    have hr2 : ∀ t, (exw w t).2.1 = (exw w (t + 1)).1 := fun t => by
      have := hr t
      unfold winA at this
      rwa [decide_eq_true_eq] at this
    refine ⟨fun t x hx => ?_, ?_⟩
    · have ht := (List.getElem?_eq_some_iff.1 hx).1
      rw [← exw_of hx]
      cases t with
      | zero => exact h0
      | succ t => rw [vtx_exw (by omega), hr2]
    · obtain ⟨m, hm⟩ : ∃ m, w.length = m + 1 := ⟨w.length - 1, by omega⟩
      rw [hm, vtx_exw (by omega), hr2, ← hm, ← exw_mod w w.length, Nat.mod_self, h0]
/-- The closed words of arcs are as many as the sum of the power's diagonal says. -/
theorem ring_tr {n : Nat} (a : Nat → Nat → Nat) {k : Nat} (hk : 0 < k) : (((ringL (arcs3 n a) winA k).length : Nat) : Int) = tr n (fun p q => (a p q : Int)) k := by
  have h1 : (ringL (arcs3 n a) winA k).length = ((List.range n).map fun i => ((ringL (arcs3 n a) winA k).filter (pathB3 i i)).length).sum := by
    refine part_len List.nodup_range (fun i => pathB3 i i) _ fun w hw => ?_
    have h := (mem_ringL hk).1 hw
    have hl : 0 < w.length := by rw [h.1.1]; exact hk
    have hm := mem_arcs3.1 (h.1.2 _ (List.mem_of_getElem? (exw_lt hl)))
    refine ⟨(exw w 0).1, List.mem_range.2 hm.1, (path_ring hl _).2 ⟨h.2, rfl⟩, fun e _ he => ((path_ring hl e).1 he).2.symm⟩
  rw [h1, sum_range]
  refine Sm_congr n _ _ fun i hi => ?_
  rw [← path_count a hi k i hi]
  congr 2
  unfold ringL
  rw [List.filter_filter]
  apply List.filter_congr
  intro w hw
  have hl : 0 < w.length := by rw [(mem_wordsL.1 hw).1]; exact hk
  cases hp : pathB3 i i w with
  | false => rfl
  | true => rw [Bool.true_and]; exact (ring_iff hl).2 ((path_ring hl i).1 hp).1
end Go.Proofs.YtdmpokanfnlbgaaGreatDoor

namespace Go.Proofs.YtdmpokanfnlbgaaGreatDoor
open Go.RowKit
set_option linter.all false
theorem ent_range {m : List (List Int)} (hm : isMat m = true) {j l : Nat} (hj : j < m.length) (hl : l < m.length) : 0 ≤ entA m j l ∧ entA m j l ≤ 1000000 := by
  have h2 := isMat_row hm (get_lt m j [] hj)
  exact allIn_get h2.2 (get_lt (m.getD j []) l 0 (by rw [h2.1]; exact hl))
theorem iterM_exact {m : List (List Int)} (hm : isMat m = true) : ∀ (k t : Nat) (acc p : List (List Int)), isMat acc = true → acc.length = m.length →
    (∀ i l, i < m.length → l < m.length → entA acc i l = TT m.length i (entA m) t l) → iterM m k acc = some p → ∀ i l, i < m.length → l < m.length → entA p i l = TT m.length i (entA m) (t + k) l
  | 0, t, acc, p, _, _, h, e => by
    injection e with e
    subst e
    exact h
  | k + 1, t, acc, p, h1, h2, h, e => by
    cases hq : mulM acc m with
    | none => rw [iterM_none hq] at e; cases e
    | some q =>
      rw [iterM_some hq] at e
      have hq2 := mulM_is hq
      have hq3 := mulM_mat hq
      have hmn := isMat_len hm
      have key : ∀ i l, i < m.length → l < m.length → entA q i l = TT m.length i (entA m) (t + 1) l := by
        intro i l hi hl
        have hrl : (acc.getD i []).length = m.length := by
          have := isMat_row h1 (get_lt acc i [] (by omega))
          omega
        have hrow : q.getD i [] = mulRow m m.length (acc.getD i []) := by
          rw [hq2.1]
          exact getD_get (mulT_get (get_lt acc i [] (by omega)))
        have hr := row_mul hrl hl
        have hb := Sm_bound 1000000000000 m.length (fun j => (acc.getD i []).getD j 0 * entA m j l) (fun j hj => by
          have ha := ent_range h1 (j := i) (l := j) (by omega) (by omega)
          have hc := ent_range hm hj hl
          show 0 ≤ entA acc i j * entA m j l ∧ entA acc i j * entA m j l ≤ _
          have h5 := Int.mul_nonneg ha.1 hc.1
          have h6 : entA acc i j * entA m j l ≤ 1000000 * 1000000 := Int.mul_le_mul ha.2 hc.2 hc.1 (by omega)
          omega)
        have h7 : (m.length : Int) * 1000000000000 ≤ 9 * 1000000000000 := by omega
        have h8 : entA q i l = Sm m.length (fun j => (acc.getD i []).getD j 0 * entA m j l) := by
          unfold entA
          rw [hrow]
          exact hr.1.same hr.2 (wrap_id (by unfold entA at hb ⊢; omega))
        rw [h8]
        exact Sm_congr _ _ _ fun j hj => by
          show entA acc i j * _ = _
          rw [h i j hi hj]
      have := iterM_exact hm k (t + 1) q p hq3.1 hq3.2 key e
      intro i l hi hl
      rw [this i l hi hl]
      congr 1
      omega
theorem one_ent {n i l : Nat} (hi : i < n) (hl : l < n) : entA (oneT n) i l = if l = i then 1 else 0 := by
  unfold entA
  rw [getD_get (oneT_get hi)]
  unfold oneRow
  simp only [List.getD, List.getElem?_set, List.length_replicate]
  by_cases e : i = l
  · subst e; simp [hi]
  · rw [if_neg e, if_neg (fun e2 => e e2.symm)]
    simp [List.getElem?_replicate, hl]
theorem closed_exact {m p : List (List Int)} {k : Nat} (h1 : 1 ≤ k) (h30 : k ≤ 30) (hp : powM m k = some p) : closed m k = tr m.length (entA m) k ∧ 0 ≤ closed m k ∧ closed m k ≤ 9000000 := by
  have hm := powM_mat hp
  have hl := isMat_len hm.2.1
  have hc := trc_Cg p 0 0
  have hent : ∀ j, j < p.length → 0 ≤ (p.getD j []).getD (0 + j) 0 ∧ (p.getD j []).getD (0 + j) 0 ≤ 1000000 := by
    intro j hj
    rw [Nat.zero_add]
    exact ent_range hm.2.1 hj hj
  have hsb := Sm_bound 1000000 p.length _ hent
  have hp9 : (p.length : Int) ≤ 9 := by omega
  have hcan := hc.2 (wrap_id (by omega))
  have heq : trc 0 0 p = Sm p.length (fun i => (p.getD i []).getD (0 + i) 0) := Cg.same (hc.1.trans (Cg.of_eq (Int.zero_add _))) hcan (wrap_id (by omega))
  rw [closed_some (inR_mk ⟨by omega, by omega⟩) hp, heq]
  refine ⟨?_, by omega, by omega⟩
  rw [hm.2.2]
  unfold tr
  refine Sm_congr _ _ _ fun i hi => ?_
  rw [powM_iter hm.1 (inR_mk ⟨by omega, by omega⟩)] at hp
  have hml := isMat_len hm.1
  have := iterM_exact hm.1 _ 0 _ p (oneT_mat hml.1 hml.2) (oneT_len _) (fun i l hi hl => one_ent hi hl) hp i i hi hi
  rw [Int.toNat_natCast, Nat.zero_add] at this
  rw [Nat.zero_add]
  exact this
theorem closed_down {m : List (List Int)} {n d : Nat} (hn : 0 ≤ closed m n) (hd : 1 ≤ d) (hdn : d ≤ n) : closed m d = tr m.length (entA m) d ∧ 0 ≤ closed m d ∧ closed m d ≤ 9000000 := by
  have h := closed_Cg hn
  have hn30 : n ≤ 30 := by omega
  cases hp : powM m n with
  | none => rw [closed_none hp] at hn; omega
  | some p =>
    rw [powM_iter h.1 (inR_mk ⟨by omega, by omega⟩), Int.toNat_natCast, show n = d + (n - d) by omega] at hp
    obtain ⟨q, hq⟩ := iterM_pre d (n - d) _ _ hp
    refine closed_exact hd (by omega) (p := q) ?_
    rw [powM_iter h.1 (inR_mk ⟨by omega, by omega⟩), Int.toNat_natCast]
    exact hq
def aN (m : List (List Int)) (i j : Nat) : Nat := (entA m i j).toNat
/-- How many closed words of n arcs are no shorter ones repeated. -/
def primN (m : List (List Int)) (n : Nat) : Nat := (cprimL (arcs3 m.length (aN m)) winA n).length
theorem tr_sum {m : List (List Int)} (hm : isMat m = true) {n : Nat} (hn : 0 < n) : tr m.length (entA m) n = (((divs n).map (primN m)).sum : Nat) := by
  have h1 : tr m.length (entA m) n = tr m.length (fun p q => (aN m p q : Int)) n := tr_congr (fun i j hi hj => by
    have := ent_range hm hi hj
    unfold aN
    omega) n
  rw [h1, ← ring_tr (aN m) hn, count_sum (nodup_arcs3 _ _) hn]
  rfl
theorem key_ex {β : Type} [DecidableEq β] : ∀ L : List β, ∃ key : β → Nat, ∀ u ∈ L, ∀ w ∈ L, key u = key w → u = w
  | [] => ⟨fun _ => 0, fun u hu => by simp at hu⟩
  | x :: L => by
    obtain ⟨key, h⟩ := key_ex L
    refine ⟨fun u => if u = x then 0 else key u + 1, fun u hu w hw e => ?_⟩
    simp only at e
    by_cases h1 : u = x
    · by_cases h2 : w = x
      · rw [h1, h2]
      · rw [if_pos h1, if_neg h2] at e; omega
    · by_cases h2 : w = x
      · rw [if_neg h1, if_pos h2] at e; omega
      · rw [if_neg h1, if_neg h2] at e
        rcases List.mem_cons.1 hu with hu | hu
        · exact absurd hu h1
        · rcases List.mem_cons.1 hw with hw | hw
          · exact absurd hw h2
          · exact h u hu w hw (by omega)
theorem prim_dvd (m : List (List Int)) {n : Nat} (hn : 0 < n) : ∃ q : Nat, primN m n = n * q := by
  obtain ⟨key, h⟩ := key_ex (wordsL (arcs3 m.length (aN m)) n)
  exact ⟨_, count_turns (nodup_arcs3 _ _) hn h⟩
theorem moeb_small : ∀ k : Fin 13, -1 ≤ moeb (k.val : Int) ∧ moeb (k.val : Int) ≤ 1 := by decide
def lpG (m : List (List Int)) (n d : Nat) : Int := if n % d = 0 then moeb ((n : Int) / (d : Int)) * closed m d else 0
theorem lpG_bound {m : List (List Int)} {n d : Nat} (h12 : n ≤ 12) (hn : 0 ≤ closed m n) (hd : 1 ≤ d) (hdn : d ≤ n) : -9000000 ≤ lpG m n d ∧ lpG m n d ≤ 9000000 := by
  unfold lpG
  split
  · have h1 := closed_down hn hd hdn
    have h2 : n / d ≤ 12 := Nat.le_trans (Nat.div_le_self n d) h12
    have h3 := moeb_small ⟨n / d, by omega⟩
    simp only at h3
    rw [divI]
    have h5 : moeb ((n / d : Nat) : Int) = -1 ∨ moeb ((n / d : Nat) : Int) = 0 ∨ moeb ((n / d : Nat) : Int) = 1 := by omega
    rcases h5 with e | e | e <;> rw [e] <;> omega
  · omega
theorem lp_sum {m : List (List Int)} {n : Nat} (h12 : n ≤ 12) (hn : 0 ≤ closed m n) : ∀ (f d : Nat) (s : Int), 1 ≤ d → d + f ≤ n + 1 → -(9000000 * (d : Int)) ≤ s → s ≤ 9000000 * (d : Int) → lpLoop m n f d s = s + Sm f (fun t => lpG m n (d + t))
  | 0, d, s, _, _, _, _ => by simp [lpLoop, Sm]
  | f + 1, d, s, hd, hf, h1, h2 => by
    have hb := lpG_bound h12 hn hd (show d ≤ n by omega)
    have e : (if n % d = 0 then wrap64 (s + wrap64 (moeb ((n : Int) / (d : Int)) * closed m d)) else s) = s + lpG m n d := by
      unfold lpG at hb ⊢
      split
      · rename_i hc
        rw [if_pos hc] at hb
        rw [wrap_id (a := moeb _ * _) (by omega), wrap_id (by omega)]
      · omega
    rw [lpLoop, e, lp_sum h12 hn f (d + 1) _ (by omega) (by omega) (by omega) (by omega), Sm_first]
    have h3 : Sm f (fun t => lpG m n (d + 1 + t)) = Sm f (fun j => lpG m n (d + (j + 1))) := Sm_congr _ _ _ fun t _ => by rw [show d + 1 + t = d + (t + 1) by omega]
    rw [h3, Nat.add_zero]
    omega
theorem lp_prim {m : List (List Int)} {n : Nat} (h1 : 1 ≤ n) (h12 : n ≤ 12) (hn : 0 ≤ closed m n) : lp m n = primN m n := by
  have hm := (closed_Cg hn).1
  have hc : ∀ d : Nat, 1 ≤ d → d ≤ n → closed m (d : Int) = (((divs d).map (primN m)).sum : Nat) := fun d hd hdn => by
    rw [(closed_down hn hd hdn).1, tr_sum hm (by omega)]
  have e : lp m n = Sm n (fun t => lpG m n (1 + t)) := by
    unfold lp
    rw [if_neg (by omega), if_neg (by omega), Int.toNat_natCast, lp_sum h12 hn n 1 0 (by omega) (by omega) (by omega) (by omega), Int.zero_add]
  rw [e]
  have hn' : n = 1 ∨ n = 2 ∨ n = 3 ∨ n = 4 ∨ n = 5 ∨ n = 6 ∨ n = 7 ∨ n = 8 ∨ n = 9 ∨ n = 10 ∨ n = 11 ∨ n = 12 := by omega
  have m1 : moeb 1 = 1 := by decide
  have m2 : moeb 2 = -1 := by decide
  have m3 : moeb 3 = -1 := by decide
  have m4 : moeb 4 = 0 := by decide
  have m5 : moeb 5 = -1 := by decide
  have m6 : moeb 6 = 1 := by decide
  have m7 : moeb 7 = -1 := by decide
  have m8 : moeb 8 = 0 := by decide
  have m9 : moeb 9 = 0 := by decide
  have m10 : moeb 10 = 1 := by decide
  have m11 : moeb 11 = -1 := by decide
  have m12 : moeb 12 = 0 := by decide
  have d1 : divs 1 = [1] := by decide
  have d2 : divs 2 = [1, 2] := by decide
  have d3 : divs 3 = [1, 3] := by decide
  have d4 : divs 4 = [1, 2, 4] := by decide
  have d5 : divs 5 = [1, 5] := by decide
  have d6 : divs 6 = [1, 2, 3, 6] := by decide
  have d7 : divs 7 = [1, 7] := by decide
  have d8 : divs 8 = [1, 2, 4, 8] := by decide
  have d9 : divs 9 = [1, 3, 9] := by decide
  have d10 : divs 10 = [1, 2, 5, 10] := by decide
  have d11 : divs 11 = [1, 11] := by decide
  have d12 : divs 12 = [1, 2, 3, 4, 6, 12] := by decide
  rcases hn' with rfl | rfl | rfl | rfl | rfl | rfl | rfl | rfl | rfl | rfl | rfl | rfl
  all_goals
    simp only [Sm, lpG]
    have c1 := hc 1 (by omega)
    have c2 := hc 2 (by omega)
    have c3 := hc 3 (by omega)
    have c4 := hc 4 (by omega)
    have c5 := hc 5 (by omega)
    have c6 := hc 6 (by omega)
    have c7 := hc 7 (by omega)
    have c8 := hc 8 (by omega)
    have c9 := hc 9 (by omega)
    have c10 := hc 10 (by omega)
    have c11 := hc 11 (by omega)
    have c12 := hc 12 (by omega)
    simp [d1, d2, d3, d4, d5, d6, d7, d8, d9, d10, d11, d12] at c1 c2 c3 c4 c5 c6 c7 c8 c9 c10 c11 c12
    simp [m1, m2, m3, m4, m5, m6, m7, m8, m9, m10, m11, m12, *]
  all_goals omega
end Go.Proofs.YtdmpokanfnlbgaaGreatDoor
