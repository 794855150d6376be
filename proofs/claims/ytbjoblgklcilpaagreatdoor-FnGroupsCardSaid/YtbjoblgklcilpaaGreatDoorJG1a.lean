/- Parts of the proof of a law, joined: Cursor Draw1 Draw2 Draw2p Stretch FarAll D18a D18b SplT2 DetI DgF DgG Group SIsSmall SL23Table SMinor SDet SSignOf GrpE GrpS OrbT. -/
import Derived.Laws.Bits128
import Derived.Test.YtbjoblgklcilpaaGreatDoorProg
import Derived.StillTailTactics
import Derived.BigQuiet
import Derived.Test.YtbjoblgklcilpaaGreatDoorJG0a
import Derived.Test.YtbjoblgklcilpaaGreatDoorJThA
import Derived.Test.YtbjoblgklcilpaaGreatDoorJG0b
import Derived.Test.YtbjoblgklcilpaaGreatDoorJDelOne
namespace Go.Proofs.YtbjoblgklcilpaaGreatDoor
open Go.RowKit
set_option linter.all false
/- The cursor of the draws: a block of three cells; what is drawn from it is some number within bounds. -/
/-- A slice of bytes that can be read. -/
def Bytes (w : World) (ao : Option Addr) (n : Nat) : Prop := n ≤ 1099511627776 ∧ ∀ i, i < n → ∃ b o x, ao = some ⟨b, o, none⟩ ∧ w.cell? ⟨b, o + i, none⟩ = some (.int .u8 x) ∧ 0 ≤ x ∧ x ≤ 255
theorem Bytes.keep {w w' : World} {ao : Option Addr} {n : Nat} (h : Bytes w ao n) (hb : Below w.heap.size w w') : Bytes w' ao n := by
  refine ⟨h.1, fun i hi => ?_⟩
  obtain ⟨b, o, x, e, hc, hx⟩ := h.2 i hi
  exact ⟨b, o, x, e, (hb.cell (p := ⟨b, o + i, none⟩) (World.block_lt_of_cell? w _ hc)).trans hc, hx⟩
def Cur (w : World) (b lo : Nat) : Prop := lo ≤ b ∧ ∃ ao n c, ∃ k : Nat, ∃ h : Int, w.heap[b]? = some (.cells #[.slice ao n c, .int .i64 k, .int .i64 h] 65 (0, 0)) ∧ k ≤ n ∧ n ≤ 1099511627776 ∧
  ∀ i, i < n → ∃ q o x, ao = some ⟨q, o, none⟩ ∧ q < lo ∧ w.cell? ⟨q, o + i, none⟩ = some (.int .u8 x) ∧ 0 ≤ x ∧ x ≤ 255
theorem Cur.lt {w : World} {b lo : Nat} (h : Cur w b lo) : lo ≤ b ∧ b < w.heap.size := by
  obtain ⟨h1, ao, n, c, k, x, hh, _⟩ := h
  exact ⟨h1, (Array.getElem?_eq_some_iff.1 hh).1⟩
theorem Cur.drewN {w : World} {b lo : Nat} (h : Cur w b lo) (n : Nat) : Cur (w.drewN n) b lo := h
theorem Cur.keep {w w' : World} {b lo : Nat} (h : Cur w b lo) (hb : Below w.heap.size w w') : Cur w' b lo := by
  have hl := h.lt
  obtain ⟨h1, ao, n, c, k, x, hh, h2, h3, h4⟩ := h
  refine ⟨h1, ao, n, c, k, x, (hb.block b hl.2).trans hh, h2, h3, fun i hi => ?_⟩
  obtain ⟨q, o, y, e, hq, hc, hy⟩ := h4 i hi
  exact ⟨q, o, y, e, hq, (hb.cell (p := ⟨q, o + i, none⟩) (World.block_lt_of_cell? w _ hc)).trans hc, hy⟩
theorem Cur.grown {w w' : World} {b lo : Nat} {row : Option Nat} (h : Cur w b lo) (hb : w.grownBy w' row) (hr : ∀ g, row = some g → b < g) : Cur w' b lo := by
  have hl := h.lt
  obtain ⟨h1, ao, n, c, k, x, hh, h2, h3, h4⟩ := h
  refine ⟨h1, ao, n, c, k, x, (hb.block b hl.2 (fun e => by have := hr b e.symm; omega)).trans hh, h2, h3, fun i hi => ?_⟩
  obtain ⟨q, o, y, e, hq, hc, hy⟩ := h4 i hi
  refine ⟨q, o, y, e, hq, ?_, hy⟩
  have := hb.block q (by omega) (fun e => by have := hr q e.symm; omega)
  unfold World.cell? at hc ⊢
  simp only at hc ⊢
  rw [this]
  exact hc
theorem heap_cells {w : World} {b : Nat} {cs : Array Value} {t : TypeId} (h : w.heap[b]? = some (.cells cs t (0, 0))) (i : Nat) : w.cell? ⟨b, i, none⟩ = cs[i]? ∧ w.frozen? ⟨b, i, none⟩ = false := by
  constructor
  · simp [World.cell?, h]
  · simp [World.frozen?, h]
/-- One cell of the cursor is written. -/
theorem Cur.wrote {w : World} {b lo : Nat} {ao : Option Addr} {n c : Nat} {k : Nat} {h : Int} (h1 : lo ≤ b) (hh : w.heap[b]? = some (.cells #[.slice ao n c, .int .i64 k, .int .i64 h] 65 (0, 0))) (h2 : k ≤ n) (h3 : n ≤ 1099511627776)
    (h4 : ∀ i, i < n → ∃ q o x, ao = some ⟨q, o, none⟩ ∧ q < lo ∧ w.cell? ⟨q, o + i, none⟩ = some (.int .u8 x) ∧ 0 ≤ x ∧ x ≤ 255) (j : Nat) (u : Value) :
    (w.setCell ⟨b, j, none⟩ u).heap[b]? = some (.cells (#[.slice ao n c, .int .i64 k, .int .i64 h].setIfInBounds j u) 65 (0, 0)) ∧
    (∀ i, i < n → ∃ q o x, ao = some ⟨q, o, none⟩ ∧ q < lo ∧ (w.setCell ⟨b, j, none⟩ u).cell? ⟨q, o + i, none⟩ = some (.int .u8 x) ∧ 0 ≤ x ∧ x ≤ 255) ∧ w.grownBy (w.setCell ⟨b, j, none⟩ u) (some b) := by
  refine ⟨heap_setCell_same w b j _ _ u hh, fun i hi => ?_, only_setCell (World.grownBy.refl w _) rfl u⟩
  obtain ⟨q, o, x, e, hq, hc, hx⟩ := h4 i hi
  exact ⟨q, o, x, e, hq, (World.cell?_setCell_far w _ _ u (by show b ≠ q; omega)).trans hc, hx⟩
theorem and255 (n : Int) : 0 ≤ bits .and .i64 n 255 ∧ bits .and .i64 n 255 ≤ 255 := by
  have h255 : (BitVec.ofInt 64 255).toNat = 2 ^ 8 - 1 := by decide
  have key : (BitVec.ofInt 64 n &&& BitVec.ofInt 64 255).toNat = (BitVec.ofInt 64 n).toNat % 2 ^ 8 := by
    rw [BitVec.toNat_and, h255, Nat.and_two_pow_sub_one_eq_mod]
  have e : bits .and .i64 n 255 = (((BitVec.ofInt 64 n).toNat % 2 ^ 8 : Nat) : Int) := by
    show IntKind.i64.wrap ((BitVec.ofInt 64 n &&& BitVec.ofInt 64 255).toNat : Nat) = _
    rw [key, IntKind.wrap_i64]
    omega
  rw [e]
  omega
theorem grown_drewN {w w' : World} {row : Option Nat} (h : w.grownBy w' row) (n : Nat) : w.grownBy (w'.drewN n) row := ⟨h.os, h.tape, h.output, h.size, h.block⟩
theorem grown_of_below {w w' : World} {row : Option Nat} (h : Below w.heap.size w w') : w.grownBy w' row := ⟨h.os, h.tape, h.output, h.size, fun k hk _ => h.block k hk⟩
theorem below_of_grown {w w' : World} {b B : Nat} (h : w.grownBy w' (some b)) (hB : B ≤ b) (hs : B ≤ w.heap.size) : Below B w w' := ⟨h.os, h.tape, h.output, h.size, fun k hk => h.block k (by omega) (fun e => by injection e; omega)⟩
theorem OInts.away {w w' : World} {lo n b : Nat} {v : Value} {xs : List Int} (h : OInts w lo v n xs) (hg : w.grownBy w' (some b)) (hb : b < lo) : OInts w' lo v n xs := by
  refine h.grown hg ?_
  cases hv : v.ownBlock with
  | none => exact .inl rfl
  | some g => right; intro e; injection e with e; have := h.ownlt g hv; omega
theorem OIntss.away {w w' : World} {lo n b : Nat} {v : Value} {xss : List (List Int)} (h : OIntss w lo v n xss) (hg : w.grownBy w' (some b)) (hb : b < lo) : OIntss w' lo v n xss :=
  h.since ⟨hg.size, fun k h1 h2 => hg.block k h2 (fun e => by injection e; omega)⟩
theorem OInts.lit_ {w : World} {lo n : Nat} {xs : List Int} {arr : Array Value} (hlo : lo ≤ w.heap.size) (ha : arr.toList = xs.map (.int .i64)) (hn : xs.length = n) (hm : n ≤ 1048576) : OInts (w.alloc (.cells arr 3)) lo (.slice (some ⟨w.heap.size, 0, none⟩) n n) n xs := by
  have hs : arr.size = n := by have := congrArg List.length ha; simpa [hn] using this
  refine ⟨by omega, ?_⟩
  have h := World.ownsRow_lit (base := lo) (e := 3) (size := 1) w arr n hlo (by unfold maxLen; omega) (by omega)
  rw [ha] at h
  exact h
theorem OIntss.lit {W : World} {lo n : Nat} {vs : List Value} {xss : List (List Int)} {arr : Array Value} (hlo : lo ≤ W.heap.size) (ha : arr.toList = vs) (hn : vs.length = n) (hl : xss.length = n) (hm : n ≤ 1048576)
    (hr : ∀ (i : Nat) (u : Value) (r : List Int), vs[i]? = some u → xss[i]? = some r → OInts W lo u r.length r)
    (hd : ∀ (i j : Nat) (u u' : Value), i ≠ j → vs[i]? = some u → vs[j]? = some u' → u.ownBlock = none ∨ u.ownBlock ≠ u'.ownBlock) :
    OIntss (W.alloc (.cells arr 26)) lo (.slice (some ⟨W.heap.size, 0, none⟩) n n) n xss := by
  have hs : arr.size = n := by have := congrArg List.length ha; simpa [hn] using this
  have h := World.ownsRow_lit (base := lo) (e := 26) (size := 1) W arr n hlo (by unfold maxLen; omega) (by omega)
  rw [ha] at h
  exact ⟨by omega, hl, vs, h, fun i u r hu hx => (hr i u r hu hx).alloc _, hd⟩
theorem OIntss.lit2 {W : World} {lo : Nat} {u0 u1 : Value} {r0 r1 : List Int} (hlo : lo ≤ W.heap.size) (h0 : OInts W lo u0 r0.length r0) (h1 : OInts W lo u1 r1.length r1) (hne : u0.ownBlock ≠ u1.ownBlock) :
    OIntss (W.alloc (.cells #[u0, u1] 26)) lo (.slice (some ⟨W.heap.size, 0, none⟩) 2 2) 2 [r0, r1] := by
  refine OIntss.lit (vs := [u0, u1]) hlo rfl rfl rfl (by omega) (fun i u r hu hx => ?_) (fun i j u u' hij hu hu' => ?_)
  · match i, hu, hx with
    | 0, hu, hx => simp at hu hx; subst hu; subst hx; exact h0
    | 1, hu, hx => simp at hu hx; subst hu; subst hx; exact h1
    | i + 2, hu, _ => simp at hu
  · match i, j, hij, hu, hu' with
    | 0, 0, hij, _, _ => exact absurd rfl hij
    | 1, 1, hij, _, _ => exact absurd rfl hij
    | 0, 1, _, hu, hu' => simp at hu hu'; subst hu; subst hu'; exact .inr hne
    | 1, 0, _, hu, hu' => simp at hu hu'; subst hu; subst hu'; exact .inr (fun e => hne e.symm)
    | i + 2, _, _, hu, _ => simp at hu
    | 0, j + 2, _, _, hu' => simp at hu'
    | 1, j + 2, _, _, hu' => simp at hu'
end Go.Proofs.YtbjoblgklcilpaaGreatDoor

namespace Go.Proofs.YtbjoblgklcilpaaGreatDoor
open Go.RowKit
set_option linter.all false
theorem heap_new (w : World) (o : Obj) : (w.alloc o).heap[w.heap.size]? = some o := by
  show (w.heap.push o)[w.heap.size]? = some o
  simp
theorem cur_new {w : World} {ao : Option Addr} {n c : Nat} {y : Int} {e : Ending} (h : Bytes w ao n) (he : e = .returned (.pointer (some ⟨w.heap.size, 0, none⟩))) :
    e = .returned (.pointer (some ⟨w.heap.size, 0, none⟩)) ∧ Cur (w.alloc (.cells #[.slice ao n c, .int .i64 0, .int .i64 y] 65)) w.heap.size w.heap.size ∧ Below w.heap.size w (w.alloc (.cells #[.slice ao n c, .int .i64 0, .int .i64 y] 65)) := by
  have hb := (Below.refl w.heap.size w).alloc (Nat.le_refl _) (.cells #[.slice ao n c, .int .i64 0, .int .i64 y] 65)
  refine ⟨he, ⟨Nat.le_refl _, ao, n, c, 0, y, heap_new _ _, Nat.zero_le _, h.1, fun i hi => ?_⟩, hb⟩
  obtain ⟨b, o, x, e, hc, hx⟩ := h.2 i hi
  have hl := World.block_lt_of_cell? w _ hc
  exact ⟨b, o, x, e, hl, (hb.cell (p := ⟨b, o + i, none⟩) hl).trans hc, hx⟩
set_option maxHeartbeats 1600000 in
theorem l1New_any (ao : Option Addr) (n c : Nat) (w : World) (h : Bytes w ao n) :
    Calls Tryz.prog 30 #[.slice ao n c] w fun e w' => e = .returned (.pointer (some ⟨w.heap.size, 0, none⟩)) ∧ Cur w' w.heap.size w.heap.size ∧ Below w.heap.size w w' := by
  have hm := h.1
  have H := Lib.hid h
  clear h
  go_enter Tryz.func30, Tryz.ntmps30
  go_wp2_with fail
  go_loop [3, 4] (fun vh x => ∃ (k : Nat) (y : Int), k ≤ n ∧ x = .int .i64 k ∧ vh = .int .i64 y) (fun _ x => n - (intOf x).toNat)
  case atStart => exact ⟨0, _, Nat.zero_le _, rfl, rfl⟩
  case round =>
    obtain ⟨k, y, hk, rfl, rfl⟩ := hrel
    by_cases hlt : k < n
    · by_cases h4 : (k : Int) < 4000
      · have hd : decide ((k : Int) < 4000) = true := by simpa using h4
        obtain ⟨b, o, x, rfl, hc, hx0, hx1⟩ := H.out.2 k hlt
        clear h4
        go_wp2_with fail
        go_round
        case rel => exact ⟨k + 1, _, hlt, by go_num, rfl⟩
        case measure => simp [intOf]; omega
      · have hd : decide ((k : Int) < 4000) = false := by simpa using h4
        clear h4
        go_wp2_with fail
        go_ret
        exact cur_new H.out rfl
    · go_wp2_with fail
      go_ret
      exact cur_new H.out rfl
theorem grown_setdrew {w w' : World} {row : Option Nat} {p : Addr} {u : Value} (h : w.grownBy (w'.setCell p u) row) (n : Nat) : w.grownBy ((w'.drewN n).setCell p u) row := ⟨h.os, h.tape, h.output, h.size, h.block⟩
theorem byte_fin {n : Int} {e : Ending} {w w' : World} {c lo : Nat} (hc : Cur w' c lo) (hg : w.grownBy w' (some c)) (he : e = .returned (.int .i64 (bits .and .i64 n 255))) :
    ∃ x : Nat, x ≤ 255 ∧ e = .returned (.int .i64 x) ∧ Cur w' c lo ∧ w.grownBy w' (some c) := by
  have h := and255 n
  refine ⟨(bits .and .i64 n 255).toNat, by omega, ?_, hc, hg⟩
  rw [he]
  congr 2
  omega
set_option maxHeartbeats 3200000 in
theorem l1Byte_any (b lo : Nat) (w : World) (h : Cur w b lo) :
    Calls Tryz.prog 65 #[.pointer (some ⟨b, 0, none⟩)] w fun e w' => ∃ x : Nat, x ≤ 255 ∧ e = .returned (.int .i64 x) ∧ Cur w' b lo ∧ w.grownBy w' (some b) := by
  obtain ⟨h1, ao, n, c, k, y, hh, h2, h3, h4⟩ := h
  have hc0 := (heap_cells hh 0).1
  have hc1 := (heap_cells hh 1).1
  have hc2 := (heap_cells hh 2).1
  have hf1 := (heap_cells hh 1).2
  have hf2 := (heap_cells hh 2).2
  simp only [List.getElem?_toArray, List.getElem?_cons_zero, List.getElem?_cons_succ] at hc0 hc1 hc2
  have HW := Lib.hid (Cur.wrote h1 hh h2 h3 h4 2 (.int .i64 (wrap64 (wrap64 (y * 6364136223846793005) + 1442695040888963407))))
  have H4 := Lib.hid h4
  have HH := Lib.hid hh
  clear hh h4
  by_cases hk : (k : Int) < (n : Int)
  · have hd : decide ((k : Int) < (n : Int)) = true := by simpa using hk
    have hkn : k < n := by omega
    go_enter Tryz.func65, Tryz.ntmps65
    go_wp2_with fail
    generalize w.setCell ⟨b, 2, none⟩ (.int .i64 (wrap64 (wrap64 (y * 6364136223846793005) + 1442695040888963407))) = W1 at HW ⊢
    generalize wrap64 (wrap64 (y * 6364136223846793005) + 1442695040888963407) = y1 at HW ⊢
    clear hc0 hc1 hc2 hf1 hf2 H4 HH
    obtain ⟨hh, h4, hg⟩ := HW.out
    simp only [List.setIfInBounds_toArray, List.set_cons_succ, List.set_cons_zero] at hh
    have hc0 := (heap_cells hh 0).1
    have hc1 := (heap_cells hh 1).1
    have hc2 := (heap_cells hh 2).1
    have hf1 := (heap_cells hh 1).2
    simp only [List.getElem?_toArray, List.getElem?_cons_zero, List.getElem?_cons_succ] at hc0 hc1 hc2
    have HW2 := Lib.hid (Cur.wrote h1 hh h2 h3 h4 1 (.int .i64 ((k : Int) + 1)))
    have HG := Lib.hid hg
    obtain ⟨q, o, x, rfl, hq, hcx, hx0, hx1⟩ := h4 k hkn
    clear hh h4 hg HW
    go_quiet (fail)
    go_wp2_with fail
    go_quiet (fail)
    go_wp2_with fail
    go_quiet (fail)
    go_wp2_with fail
    go_ret
    refine byte_fin (c := b) (w := w) ?_ ?_ rfl
    · exact (Cur.drewN ⟨h1, _, n, c, k + 1, y1, HW2.out.1, hkn, h3, HW2.out.2.1⟩ 3)
    · exact grown_setdrew (HG.out.trans HW2.out.2.2) _
  · have hd : decide ((k : Int) < (n : Int)) = false := by simpa using hk
    go_enter Tryz.func65, Tryz.ntmps65
    go_wp2_with fail
    generalize w.setCell ⟨b, 2, none⟩ (.int .i64 (wrap64 (wrap64 (y * 6364136223846793005) + 1442695040888963407))) = W1 at HW ⊢
    generalize wrap64 (wrap64 (y * 6364136223846793005) + 1442695040888963407) = y1 at HW ⊢
    clear hc0 hc1 hc2 hf1 hf2 H4 HH
    obtain ⟨hh, h4, hg⟩ := HW.out
    simp only [List.setIfInBounds_toArray, List.set_cons_succ, List.set_cons_zero] at hh
    have hc0 := (heap_cells hh 0).1
    have hc1 := (heap_cells hh 1).1
    have hc2 := (heap_cells hh 2).1
    simp only [List.getElem?_toArray, List.getElem?_cons_zero, List.getElem?_cons_succ] at hc0 hc1 hc2
    have HCu : Hid (Cur W1 b lo) := ⟨h1, ao, n, c, k, y1, hh, h2, h3, h4⟩
    have HG := Lib.hid hg
    clear hh h4 hg HW
    go_quiet (fail)
    go_wp2_with fail
    go_quiet (fail)
    go_wp2_with fail
    go_ret
    refine byte_fin (c := b) (w := w) ?_ ?_ rfl
    · exact HCu.out
    · exact grown_drewN (grown_drewN HG.out _) _
set_option maxHeartbeats 1600000 in
theorem l1Below_any (b lo n : Nat) (w : World) (h : Cur w b lo) (hn : 1 ≤ n) (hm : n ≤ 256) :
    Calls Tryz.prog 38 #[.pointer (some ⟨b, 0, none⟩), .int .i64 n] w fun e w' => ∃ x : Nat, x < n ∧ e = .returned (.int .i64 x) ∧ Cur w' b lo ∧ w.grownBy w' (some b) := by
  have H := Lib.hid h
  clear h
  have hd1 : decide ((n : Int) ≤ 0) = false := by simp; omega
  have hd2 : decide ((n : Int) ≤ 256) = true := by simp; omega
  go_enter Tryz.func38, Tryz.ntmps38
  go_wp2_with (go_at_call 65; refine (l1Byte_any b lo _ H.out).mono ?_; rintro e w1 ⟨x, hx, rfl, hc1, hg1⟩; have Hc1 := Lib.hid hc1; have Hg1 := Lib.hid hg1; clear hc1 hg1)
  go_ret
  exact ⟨x % n, Nat.mod_lt _ (by omega), ret_int (by simp), Hc1.out, Hg1.out⟩
set_option maxHeartbeats 800000 in
theorem l1Once_any (b lo n : Nat) (w : World) (h : Cur w b lo) (hn : 1 ≤ n) (hm : n ≤ 256) :
    Calls Tryz.prog 37 #[.pointer (some ⟨b, 0, none⟩), .int .i64 n] w fun e w' => ∃ t : Bool, e = .returned (.bool t) ∧ Cur w' b lo ∧ w.grownBy w' (some b) := by
  have H := Lib.hid h
  clear h
  go_enter Tryz.func37, Tryz.ntmps37
  go_wp2_with (go_at_call 38; refine (l1Below_any b lo n _ H.out hn hm).mono ?_; rintro e w1 ⟨x, hx, rfl, hc1, hg1⟩; have Hc1 := Lib.hid hc1; have Hg1 := Lib.hid hg1; clear hc1 hg1)
  go_ret
  exact ⟨_, rfl, Hc1.out, Hg1.out⟩
set_option maxHeartbeats 1600000 in
theorem l1PickInt_any (b lo lo' n cap : Nat) (ao : Option Addr) (xs : List Int) (w : World) (h : Cur w b lo) (ho : OInts w lo' (.slice ao n cap) n xs) (hb : b < lo') (hn : 1 ≤ n) (hm : n ≤ 256) :
    Calls Tryz.prog 58 #[.pointer (some ⟨b, 0, none⟩), .slice ao n cap] w fun e w' => ∃ x ∈ xs, e = .returned (.int .i64 x) ∧ Cur w' b lo ∧ w.grownBy w' (some b) := by
  have H := Lib.hid h
  have HO := Lib.hid ho
  clear h ho
  go_enter Tryz.func58, Tryz.ntmps58
  go_wp2_with (go_at_call 38; refine (l1Below_any b lo n _ H.out hn hm).mono ?_; rintro e w1 ⟨x, hx, rfl, hc1, hg1⟩; obtain ⟨q, o, y, rfl, hcy, hgy⟩ := ((HO.out.away hg1 hb).read).at_ hx; have Hc1 := Lib.hid hc1; have Hg1 := Lib.hid hg1; clear hc1 hg1)
  go_ret
  exact ⟨_, List.mem_of_getElem? hgy.out, rfl, Hc1.out, Hg1.out⟩
end Go.Proofs.YtbjoblgklcilpaaGreatDoor

namespace Go.Proofs.YtbjoblgklcilpaaGreatDoor
open Go.RowKit
set_option linter.all false
theorem rows_set {T : List (List Int)} {n i : Nat} {r : List Int} (h : RowsLen T n) (hr : r.length = n) : RowsLen (T.set i r) n := by
  intro k q hk
  rw [List.getElem?_set] at hk
  split at hk
  · split at hk
    · injection hk with hk
      subst hk
      exact hr
    · cases hk
  · exact h k q hk
theorem rows_rep (n c : Nat) : RowsLen (List.replicate n (List.replicate c (0 : Int))) c := by
  intro k q hk
  have := List.mem_of_getElem? hk
  rw [List.mem_replicate] at this
  rw [this.2]; simp
theorem grown_new {w w' : World} {row : Option Nat} (h : w.grownBy w' row) {p : Addr} (hp : w.heap.size ≤ p.block) (u : Value) : w.grownBy (w'.setCell p u) row :=
  ⟨h.os, h.tape, h.output, by simpa [World.setCell] using h.size, fun k hk hne => (Below.heap_setCell w' p u k (by rintro rfl; omega)).trans (h.block k hk hne)⟩
theorem cell_grown {w w' : World} {row : Option Nat} {p : Addr} {v : Value} (hg : w.grownBy w' row) (hc : w.cell? p = some v) (hne : some p.block ≠ row) : w'.cell? p = some v := by
  have hl := World.block_lt_of_cell? w _ hc
  have := hg.block p.block hl hne
  unfold World.cell? at hc ⊢
  rw [this]
  exact hc
theorem gr_alloc {w w' : World} {b : Nat} (h : w.grownBy w' (some b)) (o : Obj) : w.grownBy (w'.alloc o) (some b) :=
  h.trans (grown_of_below ((Below.refl _ _).alloc (Nat.le_refl _) o))
theorem Since.rowD {lo hi : Nat} {a b c : World} {v : Value} (h : Since lo hi a b) (k : b.grownBy c v.ownBlock) (hv : ∀ g, v.ownBlock = some g → g < lo ∨ hi ≤ g) (hs : hi ≤ b.heap.size) : Since lo hi a c :=
  ⟨Nat.le_trans h.size k.size, fun i h1 h2 => (k.block i (by omega) (fun e => by have := hv i e.symm; omega)).trans (h.block i h1 h2)⟩
theorem Since.apartD {lo hi g : Nat} {a b c : World} (h : Since lo hi a b) (k : b.grownBy c (some g)) (hg : g < lo) (hs : hi ≤ b.heap.size) : Since lo hi a c :=
  ⟨Nat.le_trans h.size k.size, fun i h1 h2 => (k.block i (by omega) (fun e => by injection e; omega)).trans (h.block i h1 h2)⟩
theorem hi_setD {lo hi g k : Nat} {a b : World} (h : Since lo hi a b) (hg : hi ≤ g) (u : Value) : Since lo hi a (b.setCell ⟨g, k, none⟩ u) :=
  ⟨by simpa [World.setCell] using h.size, fun i h1 h2 => (Below.heap_setCell b ⟨g, k, none⟩ u i (by show i ≠ g; omega)).trans (h.block i h1 h2)⟩
theorem grown_farV {w W w' : World} {b : Nat} {v : Value} (h : w.grownBy W (some b)) (k : W.grownBy w' v.ownBlock) (hg : ∀ g, v.ownBlock = some g → w.heap.size ≤ g) : w.grownBy w' (some b) := by
  refine ⟨k.os.trans h.os, ?_, k.output.trans h.output, Nat.le_trans h.size k.size, fun i hi hne => (k.block i (Nat.lt_of_lt_of_le hi h.size) (by intro e; have := hg i e.symm; omega)).trans (h.block i hi hne)⟩
  first | exact k.tape.trans h.tape | exact Nat.le_trans h.tape k.tape | exact h.tape.trans k.tape
theorem OInts.self {w : World} {lo n : Nat} {v : Value} {xs : List Int} (h : OInts w lo v n xs) : OInts w lo v xs.length xs := by
  rw [h.len]; exact h
theorem OIntss.self {w : World} {lo n : Nat} {v : Value} {xss : List (List Int)} (h : OIntss w lo v n xss) : OIntss w lo v xss.length xss := by
  rw [h.len]; exact h
end Go.Proofs.YtbjoblgklcilpaaGreatDoor

namespace Go.Proofs.YtbjoblgklcilpaaGreatDoor
open Go.RowKit
set_option linter.all false
set_option maxRecDepth 20000 in
set_option maxHeartbeats 3200000 in
theorem l1Pick_any (b lo g n cap : Nat) (ss : List ByteArray) (w : World) (h : Cur w b lo) (hl : ss.length = n) (hc : ∀ i s, ss[i]? = some s → w.cell? ⟨g, i, none⟩ = some (.string s)) (hb : b ≠ g) (hn : 1 ≤ n) (hm : n ≤ 256) :
    Calls Tryz.prog 82 #[.pointer (some ⟨b, 0, none⟩), .slice (some ⟨g, 0, none⟩) n cap] w fun e w' => ∃ s ∈ ss, e = .returned (.string s) ∧ Cur w' b lo ∧ w.grownBy w' (some b) := by
  have H := Lib.hid h
  have HC := Lib.hid hc
  have HL := Lib.hid hl
  clear h hc hl
  go_enter Tryz.func82, Tryz.ntmps82
  go_wp2_with (first
    | (go_at_call 38; refine (l1Below_any b lo n _ H.out hn hm).mono ?_; rintro e w1 ⟨x, hx, rfl, hc1, hg1⟩; obtain ⟨s, hs⟩ : ∃ s, ss[x]? = some s := ⟨_, List.getElem?_eq_getElem (by rw [HL.out]; exact hx)⟩; have q := cell_grown hg1 (HC.out x s hs) (by simp; exact Ne.symm hb); have Hc1 := Lib.hid hc1; have Hg1 := Lib.hid hg1; have HS := Lib.hid (List.mem_of_getElem? hs); clear hc1 hg1 hs))
  go_ret
  exact ⟨s, HS.out, rfl, Hc1.out, Hg1.out⟩
end Go.Proofs.YtbjoblgklcilpaaGreatDoor

namespace Go.Proofs.YtbjoblgklcilpaaGreatDoor
open Go.RowKit
set_option linter.all false
def strRow (i : Nat) (r : List Int) : List Int := (r ++ [r.getD i 0]).set i 0
def strT (i : Nat) (m : List (List Int)) : List (List Int) := m.map (strRow i)
def lastRow (n i : Nat) : List Int := (List.replicate (n + 1) 0).set i 1
def strOk (m : List (List Int)) (i : Int) : Bool := isMat m && (!(decide (m.length = 9)) && inR i 0 ((m.length : Int) - 1))
def strV (m : List (List Int)) (i : Int) : List (List Int) := if strOk m i then strT i.toNat m ++ [lastRow m.length i.toNat] else []
theorem strT_len (i : Nat) (m : List (List Int)) : (strT i m).length = m.length := by simp [strT]
theorem strT_get {i k : Nat} {m : List (List Int)} {r : List Int} (h : m[k]? = some r) : (strT i m)[k]? = some (strRow i r) := by simp [strT, h]
theorem strRow_len (i : Nat) (r : List Int) : (strRow i r).length = r.length + 1 := by simp [strRow]
theorem lastRow_len (n i : Nat) : (lastRow n i).length = n + 1 := by simp [lastRow]
theorem strV_tot {m : List (List Int)} {i : Int} : tot (strV m i) ≤ 1000000000 := by
  unfold strV
  cases h : strOk m i
  · simp [tot]
  · simp only [if_true]
    have hm : isMat m = true := by simp only [strOk, Bool.and_eq_true] at h; exact h.1
    have hl := isMat_len hm
    have h1 : ∀ (l : List (List Int)), (∀ r ∈ l, r.length ≤ 10) → tot l ≤ 10 * l.length := by
      intro l
      induction l with
      | nil => intro _; simp [tot]
      | cons r rs ih =>
        intro h
        have a1 := h r (by simp)
        have a2 := ih (fun q hq => h q (by simp [hq]))
        rw [tot_cons]
        simp only [List.length_cons]
        omega
    have h2 := h1 (strT i.toNat m ++ [lastRow m.length i.toNat]) (by
      intro r hr
      rcases List.mem_append.1 hr with hr | hr
      · obtain ⟨q, hq, rfl⟩ := List.mem_map.1 hr
        obtain ⟨k, hk⟩ := List.getElem?_of_mem hq
        rw [strRow_len, (isMat_row hm hk).1]
        omega
      · simp only [List.mem_singleton] at hr
        subst hr
        rw [lastRow_len]
        omega)
    simp only [List.length_append, strT_len, List.length_singleton] at h2
    omega
/-- One row has grown by an append and is stored again. -/
theorem OIntss.pushIn {w w' : World} {lo g n cap k : Nat} {xss : List (List Int)} {r r' : List Int} {u u' : Value} (h : OIntss w lo (.slice (some ⟨g, 0, none⟩) n cap) n xss) (hk : xss[k]? = some r) (hc : w.cell? ⟨g, k, none⟩ = some u)
    (hu : OInts w' lo u' r'.length r') (hg : w.grownBy w' u.ownBlock) (hnw : NewOr w.heap.size u u') : OIntss (w'.setCell ⟨g, k, none⟩ u') lo (.slice (some ⟨g, 0, none⟩) n cap) n (xss.set k r') := by
  obtain ⟨h1, h2, vs, hv, hr, hd⟩ := h
  have hvl : vs.length = n := by simpa using hv.1
  have hkn : k < n := by rw [← h2]; exact (List.getElem?_eq_some_iff.1 hk).1
  have hvk : vs[k]? = some u := by
    have h3 : vs[k]? = some vs[k] := List.getElem?_eq_getElem (by omega)
    have h4 := hv.cells (g := g) rfl k _ h3
    rw [Addr.add_lit] at h4
    simp at h4
    rw [h4] at hc
    injection hc with hc
    rw [h3, hc]
  have hou := hr k u r hvk hk
  have hne : (Value.slice (some ⟨g, 0, none⟩) n cap).ownBlock = none ∨ (Value.slice (some ⟨g, 0, none⟩) n cap).ownBlock ≠ u.ownBlock := by
    right
    intro e
    rcases own_int_ne hou hv with e2 | e2
    · rw [e2] at e; simp [Value.ownBlock] at e
    · exact e2 e.symm
  have hv' := hv.kept hg hne
  have hst := hv'.stored k u'
  refine ⟨h1, by simpa using h2, vs.set k u', hst.1, ?_, ?_⟩
  · intro i q s hq hs
    rw [List.getElem?_set] at hq hs
    by_cases e : k = i
    · subst e
      rw [if_pos rfl] at hq hs
      split at hq <;> split at hs <;> simp_all
      subst hq
      subst hs
      exact hu.grown hst.2 (by
        rcases own_int_ne hu hv' with e2 | e2
        · exact .inl e2
        · right; intro e3; exact e2 e3)
    · rw [if_neg e] at hq hs
      have h5 := (hr i q s hq hs).grown hg (hd i k q u (fun e2 => e e2.symm) hq hvk)
      exact h5.grown hst.2 (by
        rcases own_int_ne h5 hv' with e2 | e2
        · exact .inl e2
        · right; intro e3; exact e2 e3)
  · have key : ∀ (i : Nat) (q : Value), i ≠ k → vs[i]? = some q → Apart q u' := by
      intro i q hik hq
      have hi : i < xss.length := by rw [h2, ← hvl]; exact (List.getElem?_eq_some_iff.1 hq).1
      have hoq := hr i q _ hq (List.getElem?_eq_getElem hi)
      refine hnw.apart ?_ (fun b hb => (hoq.2.lt b hb).2)
      intro b hb e
      rcases hd i k q u hik hq hvk with e2 | e2
      · rw [e2] at hb; cases hb
      · exact e2 (by rw [hb, e])
    intro i j q1 q2 hij h3 h4
    rw [List.getElem?_set] at h3 h4
    by_cases ei : k = i
    · rw [if_pos ei] at h3
      rw [if_neg (by omega)] at h4
      split at h3
      · injection h3 with h3
        subst h3
        cases hb : u'.ownBlock with
        | none => exact .inl rfl
        | some b => right; exact fun e => key j q2 (by omega) h4 b e.symm hb
      · cases h3
    · rw [if_neg ei] at h3
      by_cases ej : k = j
      · rw [if_pos ej] at h4
        split at h4
        · injection h4 with h4
          subst h4
          exact (key i q1 (by omega) h3).ne
        · cases h4
      · rw [if_neg ej] at h4
        exact hd i j q1 q2 hij h3 h4
end Go.Proofs.YtbjoblgklcilpaaGreatDoor

namespace Go.Proofs.YtbjoblgklcilpaaGreatDoor
open Go.RowKit
set_option linter.all false
def FarAll (W : World) (lo : Nat) (v : Value) (n : Nat) (u : Value) : Prop := ∀ vs : List Value, W.ownsRow lo 26 1 v n vs → ∀ (i : Nat) (u' : Value), vs[i]? = some u' → Apart u u'
theorem FarAll.of {W : World} {lo lo' n : Nat} {v u : Value} {vs : List Value} (hv : W.ownsRow lo' 26 1 v n vs) (h : ∀ (i : Nat) (u' : Value), vs[i]? = some u' → Apart u u') : FarAll W lo v n u := by
  intro vs' h' i u' hi
  rw [own_unique h' hv] at hi
  exact h i u' hi
/-- The values of the rows: each block is one of the world's. -/
theorem OIntss.vals {W : World} {lo n : Nat} {v : Value} {xss : List (List Int)} (h : OIntss W lo v n xss) : ∃ vs : List Value, W.ownsRow lo 26 1 v n vs ∧ ∀ (i : Nat) (u' : Value), vs[i]? = some u' → ∀ b, u'.ownBlock = some b → lo ≤ b ∧ b < W.heap.size := by
  obtain ⟨h1, h2, vs, hv, hr, hd⟩ := h
  have hvl : vs.length = n := by simpa using hv.1
  refine ⟨vs, hv, fun i u' hi b hb => ?_⟩
  have hil : i < xss.length := by rw [h2, ← hvl]; exact (List.getElem?_eq_some_iff.1 hi).1
  exact (hr i u' _ hi (List.getElem?_eq_getElem hil)).2.lt b hb
theorem FarAll.new {W0 W : World} {lo n : Nat} {v u : Value} {xss : List (List Int)} (h : OIntss W0 lo v n xss) (hb : Below W0.heap.size W0 W) (hu : ∀ b, u.ownBlock = some b → W0.heap.size ≤ b) : FarAll W lo v n u := by
  obtain ⟨vs, hv, hl⟩ := h.vals
  refine FarAll.of (own_keep hv hb) fun i u' hi b hbu e => ?_
  have := (hl i u' hi b e).2
  have := hu b hbu
  omega
theorem FarAll.keep {W W' : World} {lo n : Nat} {v u : Value} {xss : List (List Int)} (h : OIntss W lo v n xss) (hf : FarAll W lo v n u) (hb : Below W.heap.size W W') : FarAll W' lo v n u := by
  obtain ⟨vs, hv, _⟩ := h.vals
  exact FarAll.of (own_keep hv hb) (hf vs hv)
/-- All rows lie from lo2 on, as they did in W0; u lies below lo2 or is new. -/
theorem FarAll.mid {W0 W : World} {lo lo2 n g : Nat} {v u : Value} {xss : List (List Int)} (h : OIntss W0 lo2 v n xss) (hg : W0.grownBy W (some g)) (hgl : g < lo2) (hu : ∀ b, u.ownBlock = some b → b < lo2 ∨ W0.heap.size ≤ b) : FarAll W lo v n u := by
  obtain ⟨vs, hv, hl⟩ := h.vals
  have hv' : W.ownsRow lo2 26 1 v n vs := hv.kept hg (by
    cases hb : v.ownBlock with
    | none => exact .inl rfl
    | some b => right; intro e; injection e with e; have := (hv.lt b hb).1; omega)
  refine FarAll.of hv' fun i u' hi b hbu e => ?_
  have := hl i u' hi b e
  rcases hu b hbu with h | h <;> omega
theorem FarAll.put {W : World} {lo n g cap k : Nat} {u u2 : Value} {xss : List (List Int)} (h : OIntss W lo (.slice (some ⟨g, 0, none⟩) n cap) n xss) (hf : FarAll W lo (.slice (some ⟨g, 0, none⟩) n cap) n u) (h2 : Apart u u2) :
    FarAll (W.setCell ⟨g, k, none⟩ u2) lo (.slice (some ⟨g, 0, none⟩) n cap) n u := by
  obtain ⟨vs, hv, _⟩ := h.vals
  refine FarAll.of (hv.stored k u2).1 fun i u' hi => ?_
  rw [List.getElem?_set] at hi
  split at hi
  · split at hi
    · injection hi with hi
      subst hi
      exact h2
    · cases hi
  · exact hf vs hv i u' hi
/-- A row is pushed that shares no block with the others. -/
theorem wpList_push_rowF {ops : Array Oper} {rest : List Oper} {o : Oper} {a : Act} {Q : Exit → Act → World → Prop} (W : World) (u : Value) (hgd : o.guard = none) (s x : Operand)
    (ho : o.op = .call { callee := .builtin .append, args := #[s, x], argTypes := #[24, 24] })
    (lo : Nat) (v : Value) (n : Nat) (xss : List (List Int)) (hs : a.eval s = v) (h : OIntss W lo v n xss) (hn : n + 1 ≤ 1099511627776) (hlo : lo ≤ W.heap.size)
    (m : Nat) (r : List Int) (hu : OInts W lo u m r) (hf : FarAll W lo v n u) (tb : Nat) (htb : tb = W.heap.size) (hx : a.eval x = .slice (some ⟨tb, 0, none⟩) 1 1)
    (K : ∀ v' w', OIntss w' lo v' (n + 1) (xss ++ [r]) → Below lo W w' → wpList Tryz.prog ops Q rest (a.put o.dst v') w') : wpList Tryz.prog ops Q (o :: rest) a (W.alloc (.cells #[u] 26)) := by
  subst htb
  have hml := hu.len
  subst hml
  have hW2 : Below W.heap.size W (W.alloc (.cells #[u] 26)) := (Below.refl _ _).alloc (Nat.le_refl _) _
  refine wpList_push_row _ hgd s x ho lo v n xss hs (h.keep hW2) hn W.heap.size u r hx (World.cell?_alloc_new _ _ _ _) (hu.alloc _) ?_ (by simp; omega) ?_
  · intro i u' r' ⟨vs, hv, hi⟩ _ _
    exact FarAll.keep h hf hW2 vs hv i u' hi
  · intro v' w' hown hgrow
    exact K v' w' hown ((hW2.mono hlo).grown hgrow (by simp; omega) fun k hk => (h.ownlt k hk).1)
theorem NewOr.two {s g b : Nat} {v v' : Value} (h : NewOr s v v') (hv : v.ownBlock = some g) (hb : v'.ownBlock = some b) : b = g ∨ s ≤ b := by
  rcases h with h | ⟨d, h, hd⟩
  · rw [hb, hv] at h
    injection h with h
    exact .inl h
  · rw [hb] at h
    injection h with h
    exact .inr (by omega)
theorem getD_of {α : Type} {xs : List α} {k : Nat} {x d : α} (h : xs[k]? = some x) : xs.getD k d = x := by simp [List.getD, h]
theorem OIntss.readI {w : World} {lo n c : Nat} {ao : Option Addr} {xs : List (List Int)} (h : OIntss w lo (.slice ao n c) n xs) : Intss w ao n xs := by
  obtain ⟨ao', cap', e, hi⟩ := h.form
  injection e with e1
  subst e1
  exact hi
end Go.Proofs.YtbjoblgklcilpaaGreatDoor

namespace Go.Proofs.YtbjoblgklcilpaaGreatDoor
open Go.RowKit
set_option linter.all false
/- Names in some order; a table renamed. -/
theorem slice_fromI (a : Option Addr) (len cap j : Nat) (hj : j ≤ len) (w : World) :
    (Instr.slice 26 (.slice a len cap) (some (.int .i64 (j : Int))) none none).run Tryz.prog w = .ok (.slice (if cap = j then a else a.map (·.add j)) (len - j) (cap - j)) w := by
  rw [run_slice_l (P := Tryz.prog) w 26 a len cap (by rw [elem_ints]; exact Tryz.underlying26) .i64 (j : Int) (by omega) (by omega), elem_ints, sizeOf_int]
  simp [sliced, Result.andThen]
theorem OInts.cutTo2 {w : World} {lo n i : Nat} {ao : Option Addr} {cap : Nat} {ys : List Int} (h : OInts w lo (.slice ao n cap) n ys) (hi : i ≤ n) : OInts w lo (.slice ao i cap) i (ys.take i) := by
  have hl := h.len
  refine ⟨by have := h.1; omega, by simp [hl]; omega, ?_⟩
  rcases h.2.2 with ⟨e, hn⟩ | ⟨g', c, cur, e, hg, hh, hnc, hcm, hs, ht⟩
  · left
    have hz : i = 0 := by omega
    subst hz
    injection e with e1 e2 e3
    subst e1
    subst e3
    exact ⟨rfl, rfl⟩
  · right
    injection e with e1 e2 e3
    subst e1
    subst e3
    refine ⟨g', cap, cur, rfl, hg, hh, by omega, hcm, hs, ?_⟩
    rw [List.map_take, ← ht, List.take_take]
    congr 1
    omega
theorem OInts.dropped {w : World} {lo n i cap : Nat} {ao : Option Addr} {ys : List Int} (h : OInts w lo (.slice ao n cap) n ys) (hi : i ≤ n) : Ints w (if cap = i then ao else ao.map (·.add i)) (n - i) (ys.drop i) := by
  have hl := h.len
  have hc := h.capLe rfl
  refine ⟨by simp [hl], by have := h.1; omega, fun j hj => ?_⟩
  rw [List.length_drop] at hj
  rw [if_neg (by omega)]
  obtain ⟨b, o, e, hcell⟩ := h.read.2.2 (i + j) (by omega)
  subst e
  refine ⟨b, o + i, by simp [Addr.add], ?_⟩
  rw [Nat.add_assoc, hcell]
  simp [List.getD, List.getElem?_drop]
theorem ord_mem {L : List Int} {k q : Nat} (h : ∀ x ∈ L, 0 ≤ x ∧ x < (k : Int)) : ∀ x ∈ L.take q ++ [(k : Int)] ++ L.drop q, 0 ≤ x ∧ x < ((k + 1 : Nat) : Int) := by
  intro x hx
  rcases List.mem_append.1 hx with hx | hx
  · rcases List.mem_append.1 hx with hx | hx
    · have := h x (List.mem_of_mem_take hx); omega
    · rw [List.mem_singleton.1 hx]; omega
  · have := h x (List.mem_of_mem_drop hx); omega
theorem OInts.newer {w w' : World} {o : Obj} {lo n : Nat} {v : Value} {xs : List Int} (h : OInts w lo v n xs) (hg : (w.alloc o).grownBy w' (some w.heap.size)) : OInts w' lo v n xs := by
  refine (h.alloc o).grown hg ?_
  cases hv : v.ownBlock with
  | none => exact .inl rfl
  | some g => right; intro e; injection e with e; have := (h.ownlt g hv).2; omega
theorem rest_ne {w w' : World} {lo n m q : Nat} {ao : Option Addr} {cap : Nat} {u : Value} {xs ys : List Int} (h : OInts w lo (.slice ao n cap) n xs) (hu : OInts w' w.heap.size u m ys) : u.ownBlock = none ∨ u.ownBlock ≠ (Value.slice ao q cap).ownBlock := by
  cases hv : u.ownBlock with
  | none => exact .inl rfl
  | some g =>
    right
    intro e
    have h1 := (hu.ownlt g hv).1
    have e2 : (Value.slice ao n cap).ownBlock = some g := by cases ao <;> simpa [Value.ownBlock] using e.symm
    have h2 := (h.ownlt g e2).2
    omega
set_option maxRecDepth 20000 in
set_option maxHeartbeats 6400000 in
theorem sOrder_any (b lo n : Nat) (w : World) (h : Cur w b lo) (hn : n ≤ 100) :
    Calls Tryz.prog 64 #[.pointer (some ⟨b, 0, none⟩), .int .i64 n] w fun e w' => ∃ (v : Value) (L : List Int), e = .returned v ∧ OInts w' w.heap.size v n L ∧ (∀ x ∈ L, 0 ≤ x ∧ x < (n : Int)) ∧ Cur w' b lo ∧ w.grownBy w' (some b) := by
  have hbl := h.lt.2
  have HE := Lib.hid (OInts.empty w w.heap.size (Nat.le_refl _))
  have HC0 := Lib.hid (h.keep ((Below.refl _ _).alloc (Nat.le_refl _) (.cells #[] 3)))
  have HG0 := Lib.hid (gr_alloc (World.grownBy.refl w (some b)) (.cells #[] 3))
  clear h
  go_enter Tryz.func64, Tryz.ntmps64
  go_wp2_with fail
  go_loopw [5, 6, 7, 8] (fun v5 v6 v7 v8 wr => ∃ (k : Nat) (L : List Int), k ≤ n ∧ v6 = .int .i64 k ∧ OInts wr w.heap.size v5 k L ∧ Hid (∀ x ∈ L, 0 ≤ x ∧ x < (k : Int)) ∧ Cur wr b lo ∧ w.grownBy wr (some b)) (fun _ v6 _ _ _ => n - (intOf v6).toNat)
  case atStart => exact ⟨0, [], Nat.zero_le _, rfl, HE.out, fun x hx => (by cases hx), HC0.out, HG0.out⟩
  case round =>
    obtain ⟨k, L, hk, rfl, hown, hL, hcu, hgr⟩ := hrel
    obtain ⟨ao, cap, rfl, _⟩ := hown.form
    have hs0 := hgr.size
    have HO := Lib.hid hown
    have HC := Lib.hid hcu
    have HG := Lib.hid hgr
    clear hown hcu hgr HE HC0 HG0
    by_cases hlt : k < n
    · obtain ⟨K, hK⟩ : ∃ K : Nat, (k : Int) + 1 = K := ⟨k + 1, by omega⟩
      have hK1 : 1 ≤ K := by omega
      have hK2 : K ≤ 256 := by omega
      have hcap := HO.out.capLe rfl
      obtain ⟨PA, hPA⟩ : ∃ f : Nat → Option Addr, f = fun q => if cap = q then ao else ao.map (·.add q) := ⟨_, rfl⟩
      have HF : Hid (∀ q, q ≤ k → ∀ W, (Instr.slice 26 (.slice ao k cap) (some (.int .i64 (q : Int))) none none).run Tryz.prog W = .ok (.slice (PA q) (k - q) (cap - q)) W) := fun q hq W => by rw [hPA]; exact slice_fromI ao k cap q hq W
      have HDR : Hid (∀ W q, OInts W w.heap.size (.slice ao k cap) k L → q ≤ k → Ints W (PA q) (k - q) (L.drop q)) := fun W q h hq => by rw [hPA]; exact h.dropped hq
      clear hPA
      go_wp2_with (first
        | (at_builtin; refine wpList_app_ints w3 rfl (.tmp 30) (.tmp 31) rfl w.heap.size (.slice a9 (q + 1) c9) (q + 1) (L.take q ++ [(k : Int)]) rfl HO3.out a8 (k - q) c8 (L.drop q) rfl HR3.out.read (by omega) hs3 ?_; intro v10 w4 ho4 hg4; have HO4 := Lib.hid ho4; have HC4 := Lib.hid (HC3.out.grown hg4 (fun g e => (by have := (HO3.out.ownlt g e).1; omega))); have HG4 := Lib.hid (grown_farV HG3.out hg4 (fun g e => (HO3.out.ownlt g e).1)); clear ho4 hg4)
        | (at_builtin; refine wpList_push_at w2 (k : Int) rfl (.tmp 27) (.tmp 29) rfl w.heap.size (.slice ao q cap) q (L.take q) rfl (HO2.out.cutTo2 hqk) (by omega) hs2 _ rfl rfl ?_; intro v9 w3 ho3 hg3 hn3; obtain ⟨a9, c9, rfl, _⟩ := ho3.form; have HO3 := Lib.hid ho3; have HR3 := Lib.hid (HR2.out.grown hg3 (rest_ne HO1.out HR2.out)); have HC3 := Lib.hid (HC2.out.grown hg3 (fun g e => (by have := ((HO1.out.cutTo2 hqk).ownlt g e).1; omega))); have HG3 := Lib.hid (grown_farV HG2.out hg3 (fun g e => ((HO1.out.cutTo2 hqk).ownlt g e).1)); have hs3 := Nat.le_trans hs2 hg3.size; clear ho3 hg3 hn3)
        | (at_builtin; refine wpList_app_ints (w1.alloc (.cells #[] 3)) rfl (.tmp 20) (.tmp 23) rfl w1.heap.size (.slice (some ⟨w1.heap.size, 0, none⟩) 0 0) 0 [] rfl (OInts.empty w1 w1.heap.size (Nat.le_refl _)) (PA q) (k - q) (cap - q) (L.drop q) rfl ((HDR.out w1 q HO1.out hqk).keep ((Below.refl _ _).alloc (Nat.le_refl _) _)) (by omega) (by simp) ?_; intro v8 w2 ho2 hg2; rw [Nat.zero_add, List.nil_append] at ho2; obtain ⟨a8, c8, rfl, _⟩ := ho2.form; have HR2 := Lib.hid ho2; have HO2 := Lib.hid (HO1.out.newer hg2); have HC2 := Lib.hid ((HC1.out.keep ((Below.refl _ _).alloc (Nat.le_refl _) (.cells #[] 3))).grown hg2 (fun g e => (by have e2 : some w1.heap.size = some g := e; injection e2 with e2; omega))); have HG2 := Lib.hid (grown_farV (gr_alloc HG1.out (.cells #[] 3)) hg2 (fun g e => (by have e2 : some w1.heap.size = some g := e; injection e2 with e2; omega))); have hs2 : w.heap.size ≤ w2.heap.size := (by have := hg2.size; simp at this; omega); clear ho2 hg2)
        | (go_at_call 38; refine (l1Below_any b lo K _ HC.out hK1 hK2).mono ?_; rintro e w1 ⟨q, hq, rfl, hc1, hg1⟩; have hqk : q ≤ k := (by omega); have HO1 := Lib.hid (HO.out.away hg1 hbl); have HC1 := Lib.hid hc1; have HG1 := Lib.hid (HG.out.trans hg1); have hs1 := Nat.le_trans hs0 hg1.size; have hb1 := hc1.lt.2; have hf := HF.out q hqk; have ht := slice_to ao k cap q (by omega); clear hc1 hg1))
      go_roundw
      case rel => exact ⟨k + 1, _, hlt, by go_num, by (have h9 := HO4.out; rw [show q + 1 + (k - q) = k + 1 by omega] at h9; exact h9), ord_mem hL.out, HC4.out, HG4.out⟩
      case measure => (simp [intOf] <;> omega)
    · have e : k = n := by omega
      subst e
      go_wp2_with fail
      go_ret
      exact ⟨_, L, rfl, HO.out, hL.out, HC.out, HG.out⟩
end Go.Proofs.YtbjoblgklcilpaaGreatDoor

namespace Go.Proofs.YtbjoblgklcilpaaGreatDoor
open Go.RowKit
set_option linter.all false
/- A table renamed; a number in a list. -/
set_option maxHeartbeats 800000 in
theorem hasInt_any (ao : Option Addr) (n c : Nat) (xs : List Int) (x : Int) (w : World) (h : Ints w ao n xs) :
    Calls Tryz.prog 27 #[.slice ao n c, .int .i64 x] w fun e w' => e = .returned (.bool (decide (x ∈ xs))) ∧ Drew w w' := by
  have hn := h.1
  have hm := h.2.1
  have H := Lib.hid h
  clear h
  go_enter Tryz.func27, Tryz.ntmps27
  go_wp2_with fail
  go_loopw [5] (fun v wr => ∃ k : Nat, k ≤ n ∧ v = .int .i64 k ∧ Hid (decide (x ∈ xs.drop k) = decide (x ∈ xs)) ∧ Drew w wr) (fun v _ => n - (intOf v).toNat)
  case atStart => exact ⟨0, Nat.zero_le _, rfl, rfl, Drew.refl _⟩
  case round =>
    obtain ⟨k, hk, rfl, hr, ⟨dn, rfl⟩⟩ := hrel
    by_cases hlt : k < n
    · obtain ⟨b, o, y, rfl, hcy, hgy⟩ := H.out.at_ hlt
      have hr2 := hr.out
      rw [drop_of_get hgy.out] at hr2
      have HR := Lib.hid hr2
      clear hr hr2 hgy
      by_cases hxy : y = x
      · have hb : (y == x) = true := beq_iff_eq.2 hxy
        have HT : Hid (decide (x ∈ xs) = true) := by show _ = _; rw [← HR.out, hxy]; simp
        clear hxy HR
        go_wp2_with fail
        go_ret
        exact ⟨ret_bool HT.out.symm, Drew.mk _ _⟩
      · have hb : (y == x) = false := beq_eq_false_iff_ne.2 hxy
        have HT : Hid (decide (x ∈ xs.drop (k + 1)) = decide (x ∈ xs)) := by
          show _ = _
          rw [← HR.out]
          have hne : ¬ x = y := fun e => hxy e.symm
          simp [hne]
        clear hxy HR
        go_wp2_with fail
        go_roundw
        case rel => exact ⟨k + 1, hlt, by go_num, HT.out, Drew.mk _ _⟩
        case measure => (simp [intOf] <;> omega)
    · have HT : Hid (decide (x ∈ xs) = false) := by show _ = _; rw [← hr.out, drop_all xs k (by omega)]; simp
      clear hr
      go_wp2_with fail
      go_ret
      exact ⟨ret_bool HT.out.symm, Drew.mk _ _⟩
theorem rows_rep2 (n : Nat) : ∀ r ∈ List.replicate n (List.replicate n (0 : Int)), r.length = n := fun r hr => by rw [List.eq_of_mem_replicate hr]; simp
theorem rows_set2 {n : Nat} {T : List (List Int)} (h : ∀ r ∈ T, r.length = n) {k : Nat} {r : List Int} (hr : r.length = n) : ∀ q ∈ T.set k r, q.length = n := fun q hq => by
  rcases List.mem_or_eq_of_mem_set hq with h1 | h1
  · exact h q h1
  · rw [h1]; exact hr
set_option maxRecDepth 20000 in
set_option maxHeartbeats 6400000 in
theorem sRename_any (p : Option Addr) (n c : Nat) (m : List (List Int)) (q : Option Addr) (c2 : Nat) (N : List Int) (w : World) (h : Intss w p n m) (hr : RowsLen m n) (hq : Ints w q n N) (hN : ∀ x ∈ N, 0 ≤ x ∧ x < (n : Int)) (hn : n ≤ 1048576) :
    Calls Tryz.prog 63 #[.slice p n c, .slice q n c2] w fun e w' => ∃ (v : Value) (T : List (List Int)), e = .returned v ∧ OIntss w' w.heap.size v n T ∧ Below w.heap.size w w' := by
  have H := Lib.hid h
  have HR := Lib.hid hr
  have HQ := Lib.hid hq
  have HN := Lib.hid hN
  clear h hr hq hN
  go_enter Tryz.func63, Tryz.ntmps63
  go_wp2_with fail
  refine (sL4Zero_any n n _ hn hn).mono ?_
  rintro e w1 ⟨v, rfl, hown, hbl⟩
  obtain ⟨ao, cap, rfl, _⟩ := hown.form
  have Hown := Lib.hid hown
  have Hbl := Lib.hid hbl
  clear hown hbl
  go_wp2_with fail
  go_loopw [6] (fun x wr => ∃ (i : Nat) (T : List (List Int)), i ≤ n ∧ x = .int .i64 i ∧ OIntss wr w.heap.size (.slice ao n cap) n T ∧ Hid (∀ r ∈ T, r.length = n) ∧ Below w.heap.size w wr) (fun x _ => n - (intOf x).toNat)
  case atStart => exact ⟨0, _, Nat.zero_le _, rfl, Hown.out, rows_rep2 n, Hbl.out⟩
  case round =>
    obtain ⟨i, T, hi, rfl, hown, hT, hbl⟩ := hrel
    clear Hown Hbl
    by_cases hlt : i < n
    · obtain ⟨g, cap', e⟩ := hown.head (by omega)
      injection e with e1 e2 e3
      subst e1
      clear e2 e3 cap'
      have Hown := Lib.hid hown
      have Hbl := Lib.hid hbl
      clear hown hbl
      go_wp2_with fail
      go_loopw [7] (fun x wr => ∃ (j : Nat) (T : List (List Int)), j ≤ n ∧ x = .int .i64 j ∧ OIntss wr w.heap.size (.slice (some ⟨g, 0, none⟩) n cap) n T ∧ Hid (∀ r ∈ T, r.length = n) ∧ Below w.heap.size w wr) (fun x _ => n - (intOf x).toNat)
      case atStart => exact ⟨0, T, Nat.zero_le _, rfl, Hown.out, hT.out, Hbl.out⟩
      case round =>
        clear hT Hown Hbl T
        obtain ⟨j, T, hj, rfl, hown, hT, hbl⟩ := hrel
        by_cases hjn : j < n
        · obtain ⟨b1, o1, a1, c1, r, rfl, hca, hrow, hget⟩ := (H.out.keep hbl).at_ hlt
          have hrl : r.length = n := HR.out _ _ hget.out
          obtain ⟨b2, o2, x, rfl, hcx, hgx⟩ := hrow.at_ (k := j) (by omega)
          obtain ⟨b3, o3, y1, rfl, hcy1, hgy1⟩ := (HQ.out.keep hbl).at_ hlt
          obtain ⟨b4, o4, y2, e4, hcy2, hgy2⟩ := (HQ.out.keep hbl).at_ hjn
          cases e4
          have r1 := HN.out y1 (List.mem_of_getElem? hgy1.out)
          have r2 := HN.out y2 (List.mem_of_getElem? hgy2.out)
          obtain ⟨s1, rfl⟩ := Int.eq_ofNat_of_zero_le r1.1
          obtain ⟨s2, rfl⟩ := Int.eq_ofNat_of_zero_le r2.1
          have hs1 : s1 < n := by omega
          have hs2 : s2 < n := by omega
          have hgT : T[s1]? = some (T[s1]'(by rw [hown.len]; exact hs1)) := List.getElem?_eq_getElem _
          have hTl : (T[s1]'(by rw [hown.len]; exact hs1)).length = n := hT.out _ (List.getElem_mem _)
          generalize T[s1]'(by rw [hown.len]; exact hs1) = u at hgT hTl
          obtain ⟨gk, ck, hck, hok, hgne, hglo⟩ := hown.rowAt hgT (by omega)
          have hSI := hown.setIn hgT hck hok s2 x
          have hfz := hok.frozen s2
          have hcs := hok.cell s2 (by omega)
          have HS := Lib.hid hSI
          have HT2 := Lib.hid (rows_set2 hT.out (k := s1) (r := u.set s2 x) (by rw [List.length_set]; exact hTl))
          have HB2 := Lib.hid (hbl.setCell (p := ⟨gk, s2, none⟩) hglo (.int .i64 x))
          have hjr : j < r.length := by omega
          have hsu : s2 < u.length := by omega
          clear hgx hgy1 hgy2 hget hgT hSI hok hgne hown hT hbl hrow r1 r2
          go_wp2_with fail
          go_still_tail 19, (by kernel_rfl)
          change wpList _ _ _ _ _ wr.drew
          go_wp2_with fail
          go_roundw
          all_goals first
            | exact ⟨j + 1, _, hjn, by go_num, by first | exact HS.out | exact HS.out.drewN 1, HT2.out, by first | exact HB2.out | exact HB2.out.drew⟩
            | (simp [intOf]; omega)
        · have HOx := Lib.hid hown
          have HBx := Lib.hid hbl
          clear hown hbl
          go_wp2_with fail
          go_roundw
          case rel => exact ⟨i + 1, T, hlt, by go_num, HOx.out, hT.out, HBx.out⟩
          case measure => (simp [intOf] <;> omega)
    · have HOx := Lib.hid hown
      have HBx := Lib.hid hbl
      clear hown hbl
      go_wp2_with fail
      go_ret
      exact ⟨_, T, rfl, HOx.out, HBx.out⟩
end Go.Proofs.YtbjoblgklcilpaaGreatDoor

namespace Go.Proofs.YtbjoblgklcilpaaGreatDoor
open Go.RowKit
set_option linter.all false
def leL : List Int → List Int → Bool
  | x :: p, y :: r => inR x 0 y && leL p r
  | _, _ => true
theorem leL_step {p r : List Int} {k : Nat} {x y : Int} {b : Bool} (hx : p[k]? = some x) (hy : r[k]? = some y) (h : leL (p.drop k) (r.drop k) = b) :
    (inR x 0 y = true → leL (p.drop (k + 1)) (r.drop (k + 1)) = b) ∧ (inR x 0 y = false → b = false) := by
  rw [drop_of_get hx, drop_of_get hy] at h
  generalize List.drop (k + 1) p = p1 at *
  generalize List.drop (k + 1) r = r1 at *
  constructor
  · intro e; simpa [leL, e] using h
  · intro e; simpa [leL, e] using h.symm
theorem leL_end {p r : List Int} {k : Nat} {b : Bool} (hk : p.length ≤ k) (h : leL (p.drop k) (r.drop k) = b) : b = true := by
  rw [drop_all p k hk] at h
  simpa [leL] using h.symm
theorem leL_get : ∀ {p r : List Int} {k : Nat} {x y : Int}, leL p r = true → p[k]? = some x → r[k]? = some y → 0 ≤ x ∧ x ≤ y
  | [], _, _, _, _, _, h, _ => by simp at h
  | _ :: _, [], _, _, _, _, _, h => by simp at h
  | a :: p, b :: r, 0, x, y, h, hx, hy => by
    simp only [leL, Bool.and_eq_true] at h
    simp at hx hy
    subst hx
    subst hy
    exact inR_true h.1
  | a :: p, b :: r, k + 1, x, y, h, hx, hy => by
    simp only [leL, Bool.and_eq_true] at h
    exact leL_get h.2 (by simpa using hx) (by simpa using hy)
def lessL (r p : List Int) : List Int := List.zipWith (fun x y => x - y) r p
theorem lessL_len {r p : List Int} (h : p.length = r.length) : (lessL r p).length = r.length := by simp [lessL, h]
theorem lessL_get {r p : List Int} {k : Nat} {x y : Int} (hx : r[k]? = some x) (hy : p[k]? = some y) : (lessL r p)[k]? = some (x - y) := by simp [lessL, List.getElem?_zipWith, hx, hy]
def spRow (i : Nat) (r : List Int) : List Int := r ++ [r.getD i 0]
theorem spRow_len (i : Nat) (r : List Int) : (spRow i r).length = r.length + 1 := by simp [spRow]
theorem spRow_is {i : Nat} {r : List Int} {x : Int} (h : r[i]? = some x) : r ++ [x] = spRow i r := by simp [spRow, List.getD, h]
/-- The rows after the first, and the row that is put in its place. -/
def spTop (m : List (List Int)) (i : Nat) (p : List Int) : List (List Int) := (m.set i p).map (spRow i)
def spT (m : List (List Int)) (i : Nat) (p : List Int) : List (List Int) := spTop m i p ++ [spRow i (lessL (m.getD i []) p)]
def splOk (m : List (List Int)) (i : Int) (p : List Int) : Bool :=
  isMat m && (!(decide (m.length = 9)) && (inR i 0 ((m.length : Int) - 1) && (decide (p.length = m.length) && leL p (m.getD i.toNat []))))
def splV (m : List (List Int)) (i : Int) (p : List Int) : List (List Int) := if splOk m i p then spT m i.toNat p else []
theorem spTop_len (m : List (List Int)) (i : Nat) (p : List Int) : (spTop m i p).length = m.length := by simp [spTop]
theorem spT_len (m : List (List Int)) (i : Nat) (p : List Int) : (spT m i p).length = m.length + 1 := by simp [spT, spTop_len]
theorem spTop_get {m : List (List Int)} {i k : Nat} {p r : List Int} (h : m[k]? = some r) (hk : k ≠ i) : (spTop m i p)[k]? = some (spRow i r) := by
  simp only [spTop, List.getElem?_map, List.getElem?_set]
  rw [if_neg (fun e => hk e.symm), h]
  rfl
theorem spTop_at {m : List (List Int)} {i : Nat} {p : List Int} (h : i < m.length) : (spTop m i p)[i]? = some (spRow i p) := by
  simp [spTop, List.getElem?_set, h]
/-- What must hold for a split. -/
structure SplFacts (m : List (List Int)) (i : Int) (p : List Int) : Prop where
  mat : isMat m = true
  n9 : m.length < 9
  i0 : 0 ≤ i
  il : i.toNat < m.length
  pl : p.length = m.length
  le : leL p (m.getD i.toNat []) = true
theorem splOk_facts {m : List (List Int)} {i : Int} {p : List Int} (h : splOk m i p = true) : SplFacts m i p := by
  simp only [splOk, Bool.and_eq_true, decide_eq_true_eq, Bool.not_eq_true'] at h
  obtain ⟨h1, h2, h3, h4, h5⟩ := h
  have h2 : ¬ m.length = 9 := by simpa using h2
  have := isMat_len h1
  have := inR_true h3
  exact ⟨h1, by omega, by omega, by omega, h4, h5⟩
theorem splOk_mk {m : List (List Int)} {i : Int} {p : List Int} (h : SplFacts m i p) : splOk m i p = true := by
  obtain ⟨h1, h2, h3, h4, h5, h6⟩ := h
  simp only [splOk, Bool.and_eq_true, decide_eq_true_eq, Bool.not_eq_true']
  exact ⟨h1, by simp; omega, inR_mk ⟨h3, by omega⟩, h5, h6⟩
theorem splV_no {m : List (List Int)} {i : Int} {p : List Int} (h : splOk m i p = false) : splV m i p = [] := by simp [splV, h]
theorem splV_yes {m : List (List Int)} {i : Int} {p : List Int} (h : splOk m i p = true) : splV m i p = spT m i.toNat p := by simp [splV, h]
theorem rows_split {m : List (List Int)} {i : Int} {p : List Int} (h : SplFacts m i p) : RowsLen (spT m i.toNat p) (m.length + 1) := by
  intro k r hk
  have hrow : ∀ (q : Nat) (s : List Int), m[q]? = some s → s.length = m.length := fun q s hs => (isMat_row h.mat hs).1
  by_cases h1 : k < m.length
  · rw [spT, List.getElem?_append_left (by rw [spTop_len]; exact h1)] at hk
    by_cases e : k = i.toNat
    · subst e
      rw [spTop_at h.il] at hk
      injection hk with hk
      subst hk
      rw [spRow_len, h.pl]
    · rw [spTop_get (List.getElem?_eq_getElem h1) e] at hk
      injection hk with hk
      subst hk
      rw [spRow_len, hrow k _ (List.getElem?_eq_getElem h1)]
  · have h2 : k < (spT m i.toNat p).length := (List.getElem?_eq_some_iff.1 hk).1
    rw [spT_len] at h2
    have e : k = m.length := by omega
    subst e
    rw [spT, List.getElem?_append_right (by rw [spTop_len]; exact Nat.le_refl _), spTop_len, Nat.sub_self] at hk
    simp at hk
    subst hk
    have hl := hrow i.toNat (m.getD i.toNat []) (by simp [List.getD, h.il])
    simp only [List.getD] at hl
    rw [spRow_len, lessL_len (by rw [hl, h.pl]), hl]
/-- Rows and columns exchanged. -/
def turnT (m : List (List Int)) : List (List Int) := (List.range m.length).map fun j => m.map fun r => r.getD j 0
def turnM (m : List (List Int)) : List (List Int) := if isMat m then turnT m else []
def splInV (m : List (List Int)) (i : Int) (p : List Int) : List (List Int) := if splOk (turnM m) i p then turnT (spT (turnM m) i.toNat p) else []
theorem turnT_len (m : List (List Int)) : (turnT m).length = m.length := by simp [turnT]
theorem turnT_get {m : List (List Int)} {j : Nat} (h : j < m.length) : (turnT m)[j]? = some (m.map fun r => r.getD j 0) := by simp [turnT, h]
theorem turnT_rows (m : List (List Int)) : RowsLen (turnT m) m.length := by
  intro k r hk
  have h : k < m.length := by have := (List.getElem?_eq_some_iff.1 hk).1; rw [turnT_len] at this; exact this
  rw [turnT_get h] at hk
  injection hk with hk
  subst hk
  simp
/-- The two tables of a split. -/
def prRow (n i k : Nat) : List Int := if k = i then (oneRow (n + 1) k).set n 1 else oneRow (n + 1) k
def prR (n i : Nat) : List (List Int) := (List.range n).map (prRow n i)
def prS (m : List (List Int)) (i : Nat) (p : List Int) : List (List Int) := (spT m i p).map (List.take m.length)
def pairR (m : List (List Int)) (i : Int) (p : List Int) : List (List Int) := if splOk m i p then prR m.length i.toNat else []
def pairS (m : List (List Int)) (i : Int) (p : List Int) : List (List Int) := if splOk m i p then prS m i.toNat p else []
theorem prRow_len (n i k : Nat) : (prRow n i k).length = n + 1 := by unfold prRow; split <;> simp [oneRow_len]
theorem prR_len (n i : Nat) : (prR n i).length = n := by simp [prR]
theorem prR_get {n i k : Nat} (h : k < n) : (prR n i)[k]? = some (prRow n i k) := by simp [prR, h]
theorem prR_rows (n i : Nat) : RowsLen (prR n i) (n + 1) := by
  intro k r hk
  have h : k < n := by have := (List.getElem?_eq_some_iff.1 hk).1; rw [prR_len] at this; exact this
  rw [prR_get h] at hk
  injection hk with hk
  subst hk
  exact prRow_len n i k
theorem prS_len (m : List (List Int)) (i : Nat) (p : List Int) : (prS m i p).length = m.length + 1 := by simp [prS, spT_len]
theorem prS_rows {m : List (List Int)} {i : Int} {p : List Int} (h : SplFacts m i p) : RowsLen (prS m i.toNat p) m.length := by
  intro k r hk
  simp only [prS, List.getElem?_map, Option.map_eq_some_iff] at hk
  obtain ⟨q, hq, rfl⟩ := hk
  rw [List.length_take, rows_split h k q hq]
  omega
/-- Products of tables whose numbers are not above a thousand. -/
def tabOk (t : List (List Int)) (c : Nat) : Bool := inR t.length 1 9 && (inR c 1 9 && tabIn c (-1000) 1000 t)
def ttOk (a b : List (List Int)) : Bool := !(decide (b.length = 0)) && (tabOk a b.length && tabOk b (b.getD 0 []).length)
def ttV (a b : List (List Int)) : List (List Int) := if ttOk a b then mulT a b (b.getD 0 []).length else []
theorem tabOk_facts {t : List (List Int)} {c : Nat} (h : tabOk t c = true) : 1 ≤ t.length ∧ t.length ≤ 9 ∧ 1 ≤ c ∧ c ≤ 9 ∧ RowsLen t c := by
  simp only [tabOk, Bool.and_eq_true] at h
  have h1 := inR_true h.1
  have h2 := inR_true h.2.1
  exact ⟨by omega, by omega, by omega, by omega, fun k r hk => (tabIn_get h.2.2 hk).1⟩
end Go.Proofs.YtbjoblgklcilpaaGreatDoor

namespace Go.Proofs.YtbjoblgklcilpaaGreatDoor
open Go.RowKit
set_option linter.all false
def dsum (D : List (List Int) → Int) (t : List (List Int)) : List Int → Nat → Int → Int
  | [], _, _ => 0
  | x :: xs, j, g => g * x * D (minorT t 0 j) + dsum D t xs (j + 1) (-g)
def detI : Nat → List (List Int) → Int
  | 0, _ => 1
  | m + 1, t => dsum (detI m) t (t.getD 0 []) 0 1
theorem dloop_eq {D : List (List Int) → Int} {t : List (List Int)} {B M c : Int} (hB : 0 ≤ B) (hB2 : B ≤ 4611686018427387904) (hM : 0 ≤ M) (hc : B * M = c) :
    ∀ (xs : List Int) (j : Nat) (s g S : Int), (∀ x ∈ xs, -B ≤ x ∧ x ≤ B) → (∀ k, j ≤ k → k < j + xs.length → -M ≤ D (minorT t 0 k) ∧ D (minorT t 0 k) ≤ M) →
      -1 ≤ g → g ≤ 1 → -S ≤ s → s ≤ S → S + (xs.length : Int) * c ≤ 4611686018427387904 → dloop D t xs j s g = s + dsum D t xs j g
  | [], j, s, g, S, _, _, _, _, h1, h2, _ => by simp [dloop, dsum]
  | x :: xs, j, s, g, S, hx, hD, hg1, hg2, h1, h2, hS => by
    have hc0 : 0 ≤ c := by rw [← hc]; exact Int.mul_nonneg hB hM
    have hlen : (((x :: xs).length : Nat) : Int) * c = (xs.length : Int) * c + c := by simp [Int.add_mul]
    rw [hlen] at hS
    have hl0 : 0 ≤ (xs.length : Int) * c := Int.mul_nonneg (by omega) hc0
    have hgx : -B ≤ g * x ∧ g * x ≤ B := by
      have := mul_abs (x := g) (d := x) (B := 1) (M := B) (by omega) hB ⟨hg1, hg2⟩ (hx x (by simp))
      rw [Int.one_mul] at this
      exact this
    have hd := hD j (Nat.le_refl _) (by simp)
    have hw : wrap64 (g * x) = g * x := by generalize g * x = a at *; unfold wrap64; omega
    have hp := mul_abs hB hM hgx hd
    rw [hc] at hp
    have hw2 : wrap64 (g * x * D (minorT t 0 j)) = g * x * D (minorT t 0 j) := by generalize g * x * D (minorT t 0 j) = a at *; unfold wrap64; omega
    have hw3 : wrap64 (s + g * x * D (minorT t 0 j)) = s + g * x * D (minorT t 0 j) := by generalize g * x * D (minorT t 0 j) = a at *; unfold wrap64; omega
    unfold dloop dsum
    rw [hw, hw2, hw3]
    have e : (if x = 0 then s else s + g * x * D (minorT t 0 j)) = s + g * x * D (minorT t 0 j) := by
      split
      · rename_i h0; rw [h0]; simp
      · rfl
    rw [e, dloop_eq hB hB2 hM hc xs (j + 1) _ (-g) (S + c) (fun y hy => hx y (by simp [hy])) (fun k h3 h4 => hD k (by omega) (by simp; omega)) (by omega) (by omega) (by generalize g * x * D (minorT t 0 j) = a at *; omega) (by generalize g * x * D (minorT t 0 j) = a at *; omega) (by omega)]
    omega
theorem dsum_congr {D E : List (List Int) → Int} {t : List (List Int)} : ∀ (xs : List Int) (j : Nat) (g : Int), (∀ k, j ≤ k → k < j + xs.length → D (minorT t 0 k) = E (minorT t 0 k)) → dsum D t xs j g = dsum E t xs j g
  | [], _, _, _ => rfl
  | x :: xs, j, g, h => by
    unfold dsum
    rw [h j (Nat.le_refl _) (by simp), dsum_congr xs (j + 1) (-g) (fun k h1 h2 => h k (by omega) (by simp; omega))]
theorem det_eqI {B : Int} (hB : 0 ≤ B) (hB2 : B ≤ 4611686018427387904) (m : Nat) : ∀ t : List (List Int), t.length = m → RowsLen t m → Bnd B t → (∀ k, k ≤ m → dmax B k ≤ 4611686018427387904) → det m t = detI m t := by
  induction m with
  | zero => intro t _ _ _ _; rfl
  | succ m ih =>
    intro t hl hr hb hd
    have h0 : t[0]? = some t[0] := List.getElem?_eq_getElem (by omega)
    have hr0 : t[0].length = m + 1 := hr 0 _ h0
    have e : t.getD 0 [] = t[0] := by simp [List.getD, h0]
    have hM : ∀ k, 0 ≤ k → k < 0 + t[0].length → -(dmax B m) ≤ det m (minorT t 0 k) ∧ det m (minorT t 0 k) ≤ dmax B m := by
      intro k _ hk
      exact det_bound hB hB2 m _ (by rw [minorT_len (by omega)]; omega) (minorT_rowsLen hr (by omega)) (hb.minor 0 k) (fun k hk => hd k (by omega))
    have hlast := hd (m + 1) (Nat.le_refl _)
    have := dloop_eq (D := det m) (t := t) hB hB2 (dmax_nonneg hB m) rfl t[0] 0 0 1 0 (fun x hx => hb _ (List.getElem_mem _) x hx) hM (by omega) (by omega) (by omega) (by omega) (by rw [hr0]; simpa [dmax] using hlast)
    unfold det detI
    rw [e, this, dsum_congr (E := detI m) t[0] 0 1 (fun k _ hk => ih _ (by rw [minorT_len (by omega)]; omega) (minorT_rowsLen hr (by omega)) (hb.minor 0 k) (fun k hk => hd k (by omega)))]
    omega
theorem detI1 (a : Int) : detI 1 [[a]] = a := by simp [detI, dsum]
theorem detI2 (a b c d : Int) : detI 2 [[a, b], [c, d]] = a * d - b * c := by simp [detI, dsum, minorT, cut, Int.neg_mul]; omega
theorem detI3 (a b c d e f g h i : Int) : detI 3 [[a, b, c], [d, e, f], [g, h, i]] = a * (e * i - f * h) - b * (d * i - f * g) + c * (d * h - e * g) := by
  simp [detI, dsum, minorT, cut]; grind
theorem detI4 (a b c d e f g h i j k l m n o p : Int) : detI 4 [[a, b, c, d], [e, f, g, h], [i, j, k, l], [m, n, o, p]] =
    a * detI 3 [[f, g, h], [j, k, l], [n, o, p]] - b * detI 3 [[e, g, h], [i, k, l], [m, o, p]] + c * detI 3 [[e, f, h], [i, j, l], [m, n, p]] - d * detI 3 [[e, f, g], [i, j, k], [m, n, o]] := by
  rw [detI]
  simp only [List.getD, List.getElem?_cons_zero, Option.getD_some, dsum, minorT, cut, List.eraseIdx, List.map, List.take, List.drop, List.nil_append, List.cons_append]
  grind
theorem Bnd.pick {B : Int} {t : List (List Int)} (h : Bnd B t) (hB : 0 ≤ B) (rs cs : List Int) : Bnd B (someT t rs cs) := by
  intro r hr x hx
  unfold someT at hr
  obtain ⟨a, _, rfl⟩ := List.mem_map.1 hr
  unfold pickRow at hx
  obtain ⟨c, _, rfl⟩ := List.mem_map.1 hx
  cases h1 : t[a.toNat]? with
  | none => simp [List.getD, h1]; omega
  | some q =>
    cases h2 : q[c.toNat]? with
    | none => simp [List.getD, h1, h2]; omega
    | some y =>
      simp only [List.getD, h1, h2, Option.getD_some]
      exact h q (List.mem_of_getElem? h1) y (List.mem_of_getElem? h2)
theorem dmaxC : ∀ k, k ≤ 4 → dmax 100 k ≤ 4611686018427387904 := by decide
end Go.Proofs.YtbjoblgklcilpaaGreatDoor

namespace Go.Proofs.YtbjoblgklcilpaaGreatDoor
open Go.RowKit
set_option linter.all false
def el (t : List (List Int)) (r c : Nat) : Int := (t.getD r []).getD c 0
theorem dvd_gcdI {d a b : Int} : d ∣ gcdI a b ↔ d ∣ a ∧ d ∣ b :=
  ⟨fun h => ⟨Int.dvd_trans h (Int.gcd_dvd_left a b), Int.dvd_trans h (Int.gcd_dvd_right a b)⟩, fun h => Int.dvd_coe_gcd h.1 h.2⟩
theorem dvd_gcdRow {d : Int} {t : List (List Int)} {k : Nat} {rs : List Int} : ∀ (css : List (List Int)) (g : Int), d ∣ gcdRow t k rs css g ↔ d ∣ g ∧ ∀ cs ∈ css, d ∣ det k (someT t rs cs)
  | [], g => by simp [gcdRow]
  | cs :: css, g => by
    unfold gcdRow
    rw [dvd_gcdRow css, dvd_gcdI]
    simp only [List.mem_cons, forall_eq_or_imp, and_assoc]
theorem dvd_gcdAll {d : Int} {t : List (List Int)} {k : Nat} {css : List (List Int)} : ∀ (rss : List (List Int)) (g : Int), d ∣ gcdAll t k css rss g ↔ d ∣ g ∧ ∀ rs ∈ rss, ∀ cs ∈ css, d ∣ det k (someT t rs cs)
  | [], g => by simp [gcdAll]
  | rs :: rss, g => by
    unfold gcdAll
    rw [dvd_gcdAll rss, dvd_gcdRow]
    simp only [List.mem_cons, forall_eq_or_imp, and_assoc]
theorem dvd_minors {d : Int} {t : List (List Int)} {k : Nat} : d ∣ minorsI t k ↔ ∀ rs ∈ sets t.length k, ∀ cs ∈ sets t.length k, d ∣ det k (someT t rs cs) := by
  unfold minorsI
  rw [dvd_gcdAll]
  simp
/-- A product with a common divisor. -/
theorem mul_gcdI {m y a b : Int} (h1 : m ∣ y * a) (h2 : m ∣ y * b) : m ∣ y * gcdI a b := by
  have h := Int.dvd_coe_gcd h1 h2
  rw [Int.gcd_mul_left] at h
  have e : ((y.natAbs * a.gcd b : Nat) : Int) = (y.natAbs : Int) * gcdI a b := by simp [gcdI]
  rw [e] at h
  rcases Int.natAbs_eq y with hy | hy
  · rw [hy]; exact h
  · rw [hy, Int.neg_mul]; exact Int.dvd_neg.2 h
theorem mul_gcdRow {m y : Int} {t : List (List Int)} {k : Nat} {rs : List Int} : ∀ (css : List (List Int)) (g : Int), m ∣ y * g → (∀ cs ∈ css, m ∣ y * det k (someT t rs cs)) → m ∣ y * gcdRow t k rs css g
  | [], g, h, _ => h
  | cs :: css, g, h, hc => mul_gcdRow css _ (mul_gcdI h (hc cs (by simp))) (fun c hc2 => hc c (by simp [hc2]))
theorem mul_gcdAll {m y : Int} {t : List (List Int)} {k : Nat} {css : List (List Int)} : ∀ (rss : List (List Int)) (g : Int), m ∣ y * g → (∀ rs ∈ rss, ∀ cs ∈ css, m ∣ y * det k (someT t rs cs)) → m ∣ y * gcdAll t k css rss g
  | [], g, h, _ => h
  | rs :: rss, g, h, hc => mul_gcdAll rss _ (mul_gcdRow css g h (hc rs (by simp))) (fun r hr => hc r (by simp [hr]))
theorem mul_minors {m y : Int} {t : List (List Int)} {k : Nat} (h : ∀ rs ∈ sets t.length k, ∀ cs ∈ sets t.length k, m ∣ y * det k (someT t rs cs)) : m ∣ y * minorsI t k :=
  mul_gcdAll _ _ (by rw [Int.mul_zero]; exact Int.dvd_zero _) h
/- The sets by their numbers. -/
theorem sets1_all : ∀ n : Fin 5, ∀ rs ∈ sets n.val 1, ∃ a : Fin 5, a.val < n.val ∧ rs = [(a.val : Int)] := by decide
theorem sets2_all : ∀ n : Fin 5, ∀ rs ∈ sets n.val 2, ∃ a b : Fin 5, a.val < b.val ∧ b.val < n.val ∧ rs = [(a.val : Int), (b.val : Int)] := by decide
theorem sets3_all : ∀ n : Fin 5, ∀ rs ∈ sets n.val 3, ∃ a b c : Fin 5, a.val < b.val ∧ b.val < c.val ∧ c.val < n.val ∧ rs = [(a.val : Int), (b.val : Int), (c.val : Int)] := by decide +kernel
theorem sets4_all : ∀ n : Fin 5, ∀ rs ∈ sets n.val 4, n.val = 4 ∧ rs = [0, 1, 2, 3] := by decide
theorem sets1_in : ∀ n a : Fin 5, a.val < n.val → [(a.val : Int)] ∈ sets n.val 1 := by decide
theorem sets2_in : ∀ n a b : Fin 5, a.val < b.val → b.val < n.val → [(a.val : Int), (b.val : Int)] ∈ sets n.val 2 := by decide
theorem sets3_in : ∀ n a b c : Fin 5, a.val < b.val → b.val < c.val → c.val < n.val → [(a.val : Int), (b.val : Int), (c.val : Int)] ∈ sets n.val 3 := by decide +kernel
theorem some1 (t : List (List Int)) (r c : Nat) : detI 1 (someT t [(r : Int)] [(c : Int)]) = el t r c := by
  have e : someT t [(r : Int)] [(c : Int)] = [[el t r c]] := by simp [someT, pickRow, el]
  rw [e, detI1]
theorem some2 (t : List (List Int)) (r s c d : Nat) : detI 2 (someT t [(r : Int), (s : Int)] [(c : Int), (d : Int)]) = M2 (el t) r s c d := by
  have e : someT t [(r : Int), (s : Int)] [(c : Int), (d : Int)] = [[el t r c, el t r d], [el t s c, el t s d]] := by simp [someT, pickRow, el]
  rw [e, detI2]; rfl
theorem some3 (t : List (List Int)) (r s u c d e : Nat) : detI 3 (someT t [(r : Int), (s : Int), (u : Int)] [(c : Int), (d : Int), (e : Int)]) = D3 (el t) r s u c d e := by
  have h : someT t [(r : Int), (s : Int), (u : Int)] [(c : Int), (d : Int), (e : Int)] = [[el t r c, el t r d, el t r e], [el t s c, el t s d, el t s e], [el t u c, el t u d, el t u e]] := by simp [someT, pickRow, el]
  rw [h, detI3]; rfl
theorem some4 (t : List (List Int)) : detI 4 (someT t [0, 1, 2, 3] [0, 1, 2, 3]) = D4 (el t) 0 1 2 3 0 1 2 3 := by
  have h : someT t [0, 1, 2, 3] [0, 1, 2, 3] = [[el t 0 0, el t 0 1, el t 0 2, el t 0 3], [el t 1 0, el t 1 1, el t 1 2, el t 1 3], [el t 2 0, el t 2 1, el t 2 2, el t 2 3], [el t 3 0, el t 3 1, el t 3 2, el t 3 3]] := by simp [someT, pickRow, el]
  rw [h, detI4, detI3, detI3, detI3, detI3]; rfl
theorem det_some {t : List (List Int)} (h : Bnd 100 t) {k : Nat} (hk : k ≤ 4) {rs cs : List Int} (h1 : rs.length = k) (h2 : cs.length = k) : det k (someT t rs cs) = detI k (someT t rs cs) :=
  det_eqI (B := 100) (by omega) (by omega) k _ (by rw [someT_len, h1]) (by rw [← h2]; exact someT_rowsLen t rs cs) (h.pick (by omega) rs cs) (fun m hm => dmaxC m (by omega))
section
variable {t : List (List Int)} (hb : Bnd 100 t) (hn : t.length ≤ 4)
include hb hn
theorem el_dvd {G : Int} (h : G ∣ minorsI t 1) {r c : Nat} (hr : r < t.length) (hc : c < t.length) : G ∣ el t r c := by
  have := dvd_minors.1 h _ (sets1_in ⟨t.length, by omega⟩ ⟨r, by omega⟩ hr) _ (sets1_in ⟨t.length, by omega⟩ ⟨c, by omega⟩ hc)
  rw [det_some (k := 1) hb (by omega) rfl rfl, some1] at this
  exact this
theorem m2_dvd {G : Int} (h : G ∣ minorsI t 2) : H2 (el t) G t.length := by
  have up : ∀ r s c d, r < s → s < t.length → c < d → d < t.length → G ∣ M2 (el t) r s c d := by
    intro r s c d h1 h2 h3 h4
    have := dvd_minors.1 h _ (sets2_in ⟨t.length, by omega⟩ ⟨r, by omega⟩ ⟨s, by omega⟩ h1 h2) _ (sets2_in ⟨t.length, by omega⟩ ⟨c, by omega⟩ ⟨d, by omega⟩ h3 h4)
    rw [det_some (k := 2) hb (by omega) rfl rfl, some2] at this
    exact this
  have a1 : ∀ r s c d, M2 (el t) s r c d = -M2 (el t) r s c d := by intro r s c d; unfold M2; grind
  have a2 : ∀ r s c d, M2 (el t) r s d c = -M2 (el t) r s c d := by intro r s c d; unfold M2; grind
  have a3 : ∀ r c d, M2 (el t) r r c d = 0 := by intro r c d; unfold M2; grind
  have a4 : ∀ r s c, M2 (el t) r s c c = 0 := by intro r s c; unfold M2; grind
  have cols : ∀ r s c d, r < s → s < t.length → c < t.length → d < t.length → G ∣ M2 (el t) r s c d := by
    intro r s c d h1 h2 h3 h4
    rcases Nat.lt_trichotomy c d with h5 | h5 | h5
    · exact up r s c d h1 h2 h5 h4
    · subst h5; rw [a4]; exact Int.dvd_zero _
    · rw [a2]; exact Int.dvd_neg.2 (up r s d c h1 h2 h5 h3)
  intro r s c d h1 h2 h3 h4
  rcases Nat.lt_trichotomy r s with h5 | h5 | h5
  · exact cols r s c d h5 h2 h3 h4
  · subst h5; rw [a3]; exact Int.dvd_zero _
  · rw [a1]; exact Int.dvd_neg.2 (cols s r c d h5 h1 h3 h4)
theorem d3_dvd {G : Int} (h : G ∣ minorsI t 3) : ∀ r s u c d e, r < s → s < u → u < t.length → c < d → d < e → e < t.length → G ∣ D3 (el t) r s u c d e := by
  intro r s u c d e h1 h2 h3 h4 h5 h6
  have := dvd_minors.1 h _ (sets3_in ⟨t.length, by omega⟩ ⟨r, by omega⟩ ⟨s, by omega⟩ ⟨u, by omega⟩ h1 h2 h3) _ (sets3_in ⟨t.length, by omega⟩ ⟨c, by omega⟩ ⟨d, by omega⟩ ⟨e, by omega⟩ h4 h5 h6)
  rw [det_some (k := 3) hb (by omega) rfl rfl, some3] at this
  exact this
theorem sq1 : minorsI t 1 * minorsI t 1 ∣ minorsI t 2 := by
  rw [dvd_minors]
  intro rs hrs cs hcs
  obtain ⟨r, s, h1, h2, rfl⟩ := sets2_all ⟨t.length, by omega⟩ rs hrs
  obtain ⟨c, d, h3, h4, rfl⟩ := sets2_all ⟨t.length, by omega⟩ cs hcs
  rw [det_some (k := 2) hb (by omega) rfl rfl, some2]
  have hd := fun {r c : Nat} (hr : r < t.length) (hc : c < t.length) => el_dvd hb hn (Int.dvd_refl (minorsI t 1)) hr hc
  have g1 : r.val < t.length := by have : s.val < t.length := h2; omega
  have g2 : s.val < t.length := h2
  have g3 : c.val < t.length := by have : d.val < t.length := h4; omega
  have g4 : d.val < t.length := h4
  unfold M2
  exact Int.dvd_sub (dv (hd g1 g3) (hd g2 g4)) (dv (hd g1 g4) (hd g2 g3))
theorem sq2 : minorsI t 2 * minorsI t 2 ∣ minorsI t 1 * minorsI t 3 := by
  have H := m2_dvd hb hn (Int.dvd_refl (minorsI t 2))
  apply mul_minors
  intro rs hrs cs hcs
  obtain ⟨r, s, u, h1, h2, h3, rfl⟩ := sets3_all ⟨t.length, by omega⟩ rs hrs
  obtain ⟨c, d, e, h4, h5, h6, rfl⟩ := sets3_all ⟨t.length, by omega⟩ cs hcs
  rw [det_some (k := 3) hb (by omega) rfl rfl, some3, Int.mul_comm (minorsI t 1)]
  apply mul_minors
  intro ps hps qs hqs
  obtain ⟨a, h7, rfl⟩ := sets1_all ⟨t.length, by omega⟩ ps hps
  obtain ⟨b, h8, rfl⟩ := sets1_all ⟨t.length, by omega⟩ qs hqs
  rw [det_some (k := 1) hb (by omega) rfl rfl, some1, Int.mul_comm (D3 _ _ _ _ _ _ _)]
  have g3 : u.val < t.length := h3
  have g6 : e.val < t.length := h6
  exact one_three hn H h7 h8 (by omega) (by omega) h3 (by omega) (by omega) h6
omit hb hn in
theorem d4_perm (x : Nat → Nat → Int) : ∀ (r s : Fin 4), r.val < s.val → ∃ u v : Nat, (u < 4 ∧ v < 4 ∧ u < v) ∧ (∀ c d e f, D4 x r.val s.val u v c d e f = D4 x 0 1 2 3 c d e f ∨ D4 x r.val s.val u v c d e f = -D4 x 0 1 2 3 c d e f) ∧ (r.val ≠ u ∧ s.val ≠ u ∧ r.val ≠ v ∧ s.val ≠ v) := by
  intro r s h
  have hr := r.isLt
  have hs := s.isLt
  have key : (r.val = 0 ∧ s.val = 1) ∨ (r.val = 0 ∧ s.val = 2) ∨ (r.val = 0 ∧ s.val = 3) ∨ (r.val = 1 ∧ s.val = 2) ∨ (r.val = 1 ∧ s.val = 3) ∨ (r.val = 2 ∧ s.val = 3) := by omega
  rcases key with ⟨e1, e2⟩ | ⟨e1, e2⟩ | ⟨e1, e2⟩ | ⟨e1, e2⟩ | ⟨e1, e2⟩ | ⟨e1, e2⟩ <;> rw [e1, e2]
  · exact ⟨2, 3, by omega, fun c d e f => .inl rfl, by omega⟩
  · exact ⟨1, 3, by omega, fun c d e f => .inr (D4_r23 x 0 1 2 3 c d e f), by omega⟩
  · exact ⟨1, 2, by omega, fun c d e f => .inl (by rw [D4_r23, D4_r34]; omega), by omega⟩
  · exact ⟨0, 3, by omega, fun c d e f => .inl (by rw [D4_r23, D4_r12]; omega), by omega⟩
  · exact ⟨0, 2, by omega, fun c d e f => .inr (by rw [D4_r23, D4_r12, D4_r34]; omega), by omega⟩
  · exact ⟨0, 1, by omega, fun c d e f => .inl (by rw [D4_r23, D4_r12, D4_r34, D4_r23]; omega), by omega⟩
omit hb hn in
theorem d4_permC (x : Nat → Nat → Int) : ∀ (r s : Fin 4), r.val < s.val → ∃ u v : Nat, (u < 4 ∧ v < 4 ∧ u < v) ∧ (∀ a b c d, D4 x a b c d r.val s.val u v = D4 x a b c d 0 1 2 3 ∨ D4 x a b c d r.val s.val u v = -D4 x a b c d 0 1 2 3) ∧ (r.val ≠ u ∧ s.val ≠ u ∧ r.val ≠ v ∧ s.val ≠ v) := by
  intro r s h
  have hr := r.isLt
  have hs := s.isLt
  have key : (r.val = 0 ∧ s.val = 1) ∨ (r.val = 0 ∧ s.val = 2) ∨ (r.val = 0 ∧ s.val = 3) ∨ (r.val = 1 ∧ s.val = 2) ∨ (r.val = 1 ∧ s.val = 3) ∨ (r.val = 2 ∧ s.val = 3) := by omega
  rcases key with ⟨e1, e2⟩ | ⟨e1, e2⟩ | ⟨e1, e2⟩ | ⟨e1, e2⟩ | ⟨e1, e2⟩ | ⟨e1, e2⟩ <;> rw [e1, e2]
  · exact ⟨2, 3, by omega, fun c d e f => .inl rfl, by omega⟩
  · exact ⟨1, 3, by omega, fun c d e f => .inr (D4_c23 x c d e f 0 1 2 3), by omega⟩
  · exact ⟨1, 2, by omega, fun c d e f => .inl (by rw [D4_c23, D4_c34]; omega), by omega⟩
  · exact ⟨0, 3, by omega, fun c d e f => .inl (by rw [D4_c23, D4_c12]; omega), by omega⟩
  · exact ⟨0, 2, by omega, fun c d e f => .inr (by rw [D4_c23, D4_c12, D4_c34]; omega), by omega⟩
  · exact ⟨0, 1, by omega, fun c d e f => .inl (by rw [D4_c23, D4_c12, D4_c34, D4_c23]; omega), by omega⟩
/-- All minors of three rows, in any order of the rows and columns that are apart. -/
theorem d3_any {G : Int} (h : G ∣ minorsI t 3) : ∀ r s u c d e, r < t.length → s < t.length → u < t.length → c < t.length → d < t.length → e < t.length → G ∣ D3 (el t) r s u c d e := by
  have up := d3_dvd hb hn h
  have cols : ∀ r s u c d e, r < s → s < u → u < t.length → c < t.length → d < t.length → e < t.length → G ∣ D3 (el t) r s u c d e := by
    intro r s u c d e h1 h2 h3 h4 h5 h6
    by_cases q : c = d ∨ c = e ∨ d = e
    · rw [colSame q]; exact Int.dvd_zero _
    have key : (c < d ∧ d < e) ∨ (d < c ∧ c < e) ∨ (e < d ∧ d < c) ∨ (d < e ∧ e < c) ∨ (c < e ∧ e < d) ∨ (e < c ∧ c < d) := by omega
    rcases key with k | k | k | k | k | k
    · exact up _ _ _ _ _ _ h1 h2 h3 k.1 k.2 h6
    · have := up _ _ _ _ _ _ h1 h2 h3 k.1 k.2 h6
      rw [D3_c12] at this; exact Int.dvd_neg.1 this
    · have := up _ _ _ _ _ _ h1 h2 h3 k.1 k.2 h4
      rw [D3_c13] at this; exact Int.dvd_neg.1 this
    · have := up _ _ _ _ _ _ h1 h2 h3 k.1 k.2 h4
      have e1 : D3 (el t) r s u d e c = D3 (el t) r s u c d e := by unfold D3; grind
      rw [e1] at this; exact this
    · have := up _ _ _ _ _ _ h1 h2 h3 k.1 k.2 h5
      have e1 : D3 (el t) r s u c e d = -D3 (el t) r s u c d e := by unfold D3; grind
      rw [e1] at this; exact Int.dvd_neg.1 this
    · have := up _ _ _ _ _ _ h1 h2 h3 k.1 k.2 h5
      have e1 : D3 (el t) r s u e c d = D3 (el t) r s u c d e := by unfold D3; grind
      rw [e1] at this; exact this
  intro r s u c d e h1 h2 h3 h4 h5 h6
  by_cases q : r = s ∨ r = u ∨ s = u
  · rw [rowSame q]; exact Int.dvd_zero _
  have key : (r < s ∧ s < u) ∨ (s < r ∧ r < u) ∨ (u < s ∧ s < r) ∨ (s < u ∧ u < r) ∨ (r < u ∧ u < s) ∨ (u < r ∧ r < s) := by omega
  rcases key with k | k | k | k | k | k
  · exact cols _ _ _ _ _ _ k.1 k.2 h3 h4 h5 h6
  · have := cols _ _ _ _ _ _ k.1 k.2 h3 h4 h5 h6
    rw [D3_s12] at this; exact Int.dvd_neg.1 this
  · have := cols _ _ _ _ _ _ k.1 k.2 h1 h4 h5 h6
    rw [D3_s13] at this; exact Int.dvd_neg.1 this
  · have := cols _ _ _ _ _ _ k.1 k.2 h1 h4 h5 h6
    have e1 : D3 (el t) s u r c d e = D3 (el t) r s u c d e := by unfold D3; grind
    rw [e1] at this; exact this
  · have := cols _ _ _ _ _ _ k.1 k.2 h2 h4 h5 h6
    have e1 : D3 (el t) r u s c d e = -D3 (el t) r s u c d e := by unfold D3; grind
    rw [e1] at this; exact Int.dvd_neg.1 this
  · have := cols _ _ _ _ _ _ k.1 k.2 h2 h4 h5 h6
    have e1 : D3 (el t) u r s c d e = D3 (el t) r s u c d e := by unfold D3; grind
    rw [e1] at this; exact this
theorem sq3 : minorsI t 3 * minorsI t 3 ∣ minorsI t 2 * minorsI t 4 := by
  have H := d3_any hb hn (Int.dvd_refl (minorsI t 3))
  apply mul_minors
  intro rs hrs cs hcs
  obtain ⟨h4, rfl⟩ := sets4_all ⟨t.length, by omega⟩ rs hrs
  obtain ⟨_, rfl⟩ := sets4_all ⟨t.length, by omega⟩ cs hcs
  have hl : t.length = 4 := h4
  rw [det_some (k := 4) hb (by omega) rfl rfl, some4, Int.mul_comm (minorsI t 2)]
  apply mul_minors
  intro ps hps qs hqs
  obtain ⟨r, s, h1, h2, rfl⟩ := sets2_all ⟨t.length, by omega⟩ ps hps
  obtain ⟨c, d, h5, h6, rfl⟩ := sets2_all ⟨t.length, by omega⟩ qs hqs
  rw [det_some (k := 2) hb (by omega) rfl rfl, some2, Int.mul_comm (D4 _ _ _ _ _ _ _ _ _)]
  have g2 : s.val < 4 := by have : s.val < t.length := h2; omega
  have g6 : d.val < 4 := by have : d.val < t.length := h6; omega
  obtain ⟨u, v, hu, hp, _⟩ := d4_perm (el t) ⟨r.val, by omega⟩ ⟨s.val, g2⟩ h1
  obtain ⟨e, f, he, hq, _⟩ := d4_permC (el t) ⟨c.val, by omega⟩ ⟨d.val, g6⟩ h5
  have hj := two_four (x := el t) (G := minorsI t 3) (r := r.val) (s := s.val) (t := u) (u := v) (c := c.val) (d := d.val) (e := e) (f := f)
    (H _ _ _ _ _ _ (by omega) (by omega) (by omega) (by omega) (by omega) (by omega)) (H _ _ _ _ _ _ (by omega) (by omega) (by omega) (by omega) (by omega) (by omega)) (H _ _ _ _ _ _ (by omega) (by omega) (by omega) (by omega) (by omega) (by omega)) (H _ _ _ _ _ _ (by omega) (by omega) (by omega) (by omega) (by omega) (by omega))
  have e1 := hp c.val d.val e f
  have e2 := hq 0 1 2 3
  simp only at e1 e2
  rcases e1 with e1 | e1 <;> rcases e2 with e2 | e2 <;> rw [e1, e2] at hj
  · exact hj
  · rw [Int.mul_neg] at hj; exact Int.dvd_neg.1 hj
  · rw [Int.mul_neg] at hj; exact Int.dvd_neg.1 hj
  · rw [Int.neg_neg] at hj; exact hj
end
end Go.Proofs.YtbjoblgklcilpaaGreatDoor

namespace Go.Proofs.YtbjoblgklcilpaaGreatDoor
open Go.RowKit
set_option linter.all false
theorem dsum_dvd {G : Int} {D : List (List Int) → Int} {t : List (List Int)} : ∀ (xs : List Int) (j : Nat) (g : Int), (∀ k, j ≤ k → k < j + xs.length → G ∣ D (minorT t 0 k)) → G ∣ dsum D t xs j g
  | [], _, _, _ => Int.dvd_zero _
  | x :: xs, j, g, h => by
    unfold dsum
    exact Int.dvd_add (Int.dvd_mul_of_dvd_right (h j (Nat.le_refl _) (by simp))) (dsum_dvd xs (j + 1) (-g) (fun k h1 h2 => h k (by omega) (by simp; omega)))
theorem minors_div {t : List (List Int)} (hb : Bnd 100 t) (hn : t.length ≤ 4) {k : Nat} (hk : k < t.length) : minorsI t k ∣ minorsI t (k + 1) := by
  rw [dvd_minors]
  intro rs hrs cs hcs
  have hr := (setsTo_mem hrs).1
  have hc := (setsTo_mem hcs).1
  rw [det_some (k := k + 1) hb (by omega) hr hc]
  unfold detI
  apply dsum_dvd
  intro j _ hj
  obtain ⟨r0, h0⟩ : ∃ r0, (someT t rs cs)[0]? = some r0 := ⟨_, List.getElem?_eq_getElem (by rw [someT_len]; omega)⟩
  have h1 := someT_rowsLen t rs cs 0 _ h0
  have e : (someT t rs cs).getD 0 [] = r0 := by simp [List.getD, h0]
  rw [e, h1] at hj
  have hm := dvd_minors.1 (Int.dvd_refl (minorsI t k)) _ (sets_erase hn (by omega) hrs (j := 0) (by omega)) _ (sets_erase hn (by omega) hcs (j := j) (by omega))
  rw [minor_some]
  have e1 : (rs.eraseIdx 0).length = k := by rw [List.length_eraseIdx_of_lt (by omega)]; omega
  have e2 : (cs.eraseIdx j).length = k := by rw [List.length_eraseIdx_of_lt (by omega)]; omega
  rw [det_some (k := k) hb (by omega) e1 e2] at hm
  exact hm
theorem sets0_all : ∀ n : Fin 5, sets n.val 0 = [[]] := by decide
theorem minors0 {t : List (List Int)} (hn : t.length ≤ 4) : minorsI t 0 = 1 := by
  have h : sets t.length 0 = [[]] := sets0_all ⟨t.length, by omega⟩
  unfold minorsI
  rw [h]
  simp [gcdAll, gcdRow, det, gcdI]
theorem minors_ne {t : List (List Int)} (hn : t.length ≤ 4) {k : Nat} (hk : k < t.length) (h : minorsI t (k + 1) ≠ 0) : minorsI t k ≠ 0 := fun e => h (minors_mono hn hk e)
def dgAt (t : List (List Int)) (j : Nat) : Int := if minorsI t (j + 1) = 0 then 0 else (minorsI t (j + 1)).tdiv (minorsI t j)
theorem diag_at {t : List (List Int)} (hn : t.length ≤ 4) : ∀ j, j ≤ t.length → ∃ b, (minorsI t j ≠ 0 → b = minorsI t j) ∧ diagL t (t.length - j) (j + 1) b = (diagN t).drop j
  | 0, _ => ⟨1, fun _ => (minors0 hn).symm, by simp [diagN]⟩
  | j + 1, h => by
    obtain ⟨b, hb, he⟩ := diag_at hn j (by omega)
    rw [show t.length - j = (t.length - (j + 1)) + 1 by omega] at he
    by_cases h0 : minorsI t (j + 1) = 0
    · have := diag_zero he h0
      exact ⟨b, fun e => absurd h0 e, this.2⟩
    · have := diag_step he h0
      exact ⟨_, fun _ => rfl, this.2⟩
theorem diag_get {t : List (List Int)} (hn : t.length ≤ 4) {j : Nat} (h : j < t.length) : (diagN t)[j]? = some (dgAt t j) := by
  obtain ⟨b, hb, he⟩ := diag_at hn j (by omega)
  rw [show t.length - j = (t.length - (j + 1)) + 1 by omega] at he
  unfold dgAt
  by_cases h0 : minorsI t (j + 1) = 0
  · rw [if_pos h0]; exact (diag_zero he h0).1
  · rw [if_neg h0, ← hb (minors_ne hn h h0)]; exact (diag_step he h0).1
section
variable {t : List (List Int)} (hb : Bnd 100 t) (hn : t.length ≤ 4)
include hb hn
theorem minors_nn (k : Nat) (hk : k ≤ 4) : 0 ≤ minorsI t k := (minorsI_small hb hk).1
theorem dgn_mul {j : Nat} (h : j < t.length) : minorsI t j * dgAt t j = minorsI t (j + 1) := by
  unfold dgAt
  split
  · rename_i h0; rw [Int.mul_zero, h0]
  · exact Int.mul_tdiv_cancel' (minors_div hb hn h)
theorem dgn_nn {j : Nat} (h : j < t.length) : 0 ≤ dgAt t j := by
  unfold dgAt
  split
  · omega
  · exact Int.tdiv_nonneg (minors_nn hb hn _ (by omega)) (minors_nn hb hn _ (by omega))
theorem dgn_zero {j : Nat} (h : j < t.length) : dgAt t j = 0 ↔ minorsI t (j + 1) = 0 := by
  constructor
  · intro e
    have := dgn_mul hb hn h
    rw [e, Int.mul_zero] at this
    exact this.symm
  · intro e; unfold dgAt; rw [if_pos e]
theorem sq_all {k : Nat} (h : k + 1 < t.length) : minorsI t (k + 1) * minorsI t (k + 1) ∣ minorsI t k * minorsI t (k + 2) := by
  have key : k = 0 ∨ k = 1 ∨ k = 2 := by omega
  rcases key with rfl | rfl | rfl
  · rw [minors0 hn, Int.one_mul]; exact sq1 hb hn
  · exact sq2 hb hn
  · exact sq3 hb hn
theorem dgn_dvd {j : Nat} (h : j + 1 < t.length) : dgAt t j ∣ dgAt t (j + 1) := by
  by_cases h0 : minorsI t (j + 2) = 0
  · rw [(dgn_zero hb hn h).2 h0]; exact Int.dvd_zero _
  have h1 : minorsI t (j + 1) ≠ 0 := minors_ne hn h h0
  have h2 : minorsI t j ≠ 0 := minors_ne hn (by omega) h1
  have hs := sq_all hb hn h
  have e1 := dgn_mul hb hn (j := j) (by omega)
  have e2 := dgn_mul hb hn (j := j + 1) h
  rw [show j + 1 + 1 = j + 2 by omega] at e2
  have a1 : minorsI t (j + 1) * minorsI t (j + 1) = (minorsI t j * minorsI t (j + 1)) * dgAt t j := by
    calc minorsI t (j + 1) * minorsI t (j + 1) = (minorsI t j * dgAt t j) * minorsI t (j + 1) := by rw [e1]
      _ = _ := by grind
  have a2 : minorsI t j * minorsI t (j + 2) = (minorsI t j * minorsI t (j + 1)) * dgAt t (j + 1) := by
    calc minorsI t j * minorsI t (j + 2) = minorsI t j * (minorsI t (j + 1) * dgAt t (j + 1)) := by rw [e2]
      _ = _ := by grind
  rw [a1, a2] at hs
  exact Int.dvd_of_mul_dvd_mul_left (Int.mul_ne_zero h2 h1) hs
/-- What the law's loop keeps: the product and the rank so far. -/
theorem rk_step {j : Nat} (h : j < t.length) : (dgAt t j = 0 → rankF t (j + 1) = rankF t j) ∧ (dgAt t j ≠ 0 → rankF t (j + 1) = j + 1 ∧ rankF t j = j) := by
  have hz := dgn_zero hb hn h
  refine ⟨fun e => ?_, fun e => ?_⟩
  · show (if minorsI t (j + 1) = 0 then rankF t j else j + 1) = _
    rw [if_pos (hz.1 e)]
  · have h1 : minorsI t (j + 1) ≠ 0 := fun q => e (hz.2 q)
    refine ⟨?_, rankF_top (.inr (minors_ne hn h h1))⟩
    show (if minorsI t (j + 1) = 0 then rankF t j else j + 1) = _
    rw [if_neg h1]
end
def iotb (n : Nat) : List Int := (List.range n).map fun (i : Nat) => (i : Int)
theorem iotb_len (n : Nat) : (iotb n).length = n := by simp [iotb]
theorem iotb_get {n k : Nat} (h : k < n) : (iotb n)[k]? = some (k : Int) := by simp [iotb, h]
theorem pick_iotb {r : List Int} {k : Nat} (h : k ≤ r.length) : pickRow r (iotb k) = r.take k := by
  apply List.ext_getElem?
  intro j
  by_cases hj : j < k
  · have hx : r[j]? = some r[j] := List.getElem?_eq_getElem (by omega)
    rw [pickRow_get (iotb_get hj) hx, List.getElem?_take, if_pos hj, hx]
  · rw [List.getElem?_eq_none (by rw [pickRow_len, iotb_len]; omega), List.getElem?_eq_none (by simp; omega)]
theorem setsN_all : ∀ n : Fin 5, 1 ≤ n.val → sets n.val n.val = [iotb n.val] := by decide
theorem some_iotb {t : List (List Int)} {n : Nat} (hl : t.length = n) (hr : RowsLen t n) : someT t (iotb n) (iotb n) = t := by
  apply List.ext_getElem?
  intro i
  by_cases hi : i < n
  · have h1 : t[i]? = some t[i] := List.getElem?_eq_getElem (by omega)
    have h2 := hr i _ h1
    rw [someT_get (iotb_get hi) h1, pick_iotb (by omega), List.take_of_length_le (by omega), h1]
  · rw [List.getElem?_eq_none (by rw [someT_len, iotb_len]; omega), List.getElem?_eq_none (by omega)]
theorem minors_det {t : List (List Int)} {n : Nat} (hl : t.length = n) (hr : RowsLen t n) (h1 : 1 ≤ n) (hn : n ≤ 4) : minorsI t n = ((det n t).natAbs : Int) := by
  have h : sets n n = [iotb n] := setsN_all ⟨n, by omega⟩ h1
  unfold minorsI
  rw [hl, h]
  simp only [gcdAll, gcdRow, some_iotb hl hr]
  simp [gcdI]
/- The turned table. -/
def trn (t : List (List Int)) : List (List Int) := (List.range t.length).map fun i => (List.range t.length).map fun j => el t j i
theorem trn_len (t : List (List Int)) : (trn t).length = t.length := by simp [trn]
theorem trn_el {t : List (List Int)} {i j : Nat} (hi : i < t.length) (hj : j < t.length) : el (trn t) i j = el t j i := by
  simp [el, trn, List.getD, hi, hj]
theorem trn_smith {t : List (List Int)} (h : smith t = true) : smith (trn t) = true := by
  have hl := smith_len h
  unfold smith
  rw [trn_len, inR_mk (x := (t.length : Int)) (lo := 1) (hi := 4) (by omega), Bool.and_true]
  simp only [tabIn, trn, List.all_map, List.all_eq_true, List.mem_range]
  intro i hi
  simp only [Function.comp, List.length_map, List.length_range, decide_true, Bool.true_and, allIn, List.all_eq_true, List.mem_map, List.mem_range]
  rintro x ⟨j, hj, rfl⟩
  have h1 : t[j]? = some t[j] := List.getElem?_eq_getElem hj
  have h2 := smith_row h h1
  have h3 : t[j][i]? = some (t[j][i]'(by omega)) := List.getElem?_eq_getElem _
  have h4 := allIn_get h2.2 h3
  have e : el t j i = t[j][i]'(by omega) := by simp only [el, List.getD, h1, Option.getD_some, h3]
  rw [e]
  exact inR_mk h4
theorem trn_det {t : List (List Int)} (hb : Bnd 100 t) (hb' : Bnd 100 (trn t)) (hn : t.length ≤ 4) {k : Nat} (hk : k ≤ 4) {rs cs : List Int} (hr : rs ∈ sets t.length k) (hc : cs ∈ sets t.length k) :
    det k (someT (trn t) rs cs) = det k (someT t cs rs) := by
  have l1 := (setsTo_mem hr).1
  have l2 := (setsTo_mem hc).1
  rw [det_some (k := k) hb' hk l1 l2, det_some (k := k) hb hk l2 l1]
  have key : k = 0 ∨ k = 1 ∨ k = 2 ∨ k = 3 ∨ k = 4 := by omega
  rcases key with rfl | rfl | rfl | rfl | rfl
  · rfl
  · obtain ⟨r, h1, rfl⟩ := sets1_all ⟨t.length, by omega⟩ rs hr
    obtain ⟨c, h2, rfl⟩ := sets1_all ⟨t.length, by omega⟩ cs hc
    rw [some1, some1]
    exact trn_el h1 h2
  · obtain ⟨r, s, h1, h2, rfl⟩ := sets2_all ⟨t.length, by omega⟩ rs hr
    obtain ⟨c, d, h3, h4, rfl⟩ := sets2_all ⟨t.length, by omega⟩ cs hc
    have g2 : s.val < t.length := h2
    have g4 : d.val < t.length := h4
    have g1 : r.val < t.length := by omega
    have g3 : c.val < t.length := by omega
    rw [some2, some2]
    unfold M2
    rw [trn_el g1 g3, trn_el g2 g4, trn_el g1 g4, trn_el g2 g3]
    grind
  · obtain ⟨r, s, u, h1, h2, h3, rfl⟩ := sets3_all ⟨t.length, by omega⟩ rs hr
    obtain ⟨c, d, e, h4, h5, h6, rfl⟩ := sets3_all ⟨t.length, by omega⟩ cs hc
    have g3 : u.val < t.length := h3
    have g6 : e.val < t.length := h6
    have g1 : r.val < t.length := by omega
    have g2 : s.val < t.length := by omega
    have g4 : c.val < t.length := by omega
    have g5 : d.val < t.length := by omega
    rw [some3, some3]
    unfold D3
    rw [trn_el g1 g4, trn_el g1 g5, trn_el g1 g6, trn_el g2 g4, trn_el g2 g5, trn_el g2 g6, trn_el g3 g4, trn_el g3 g5, trn_el g3 g6]
    grind
  · obtain ⟨h4, rfl⟩ := sets4_all ⟨t.length, by omega⟩ rs hr
    obtain ⟨_, rfl⟩ := sets4_all ⟨t.length, by omega⟩ cs hc
    have hl : t.length = 4 := h4
    have E := fun (i j : Nat) (hi : i < 4) (hj : j < 4) => trn_el (t := t) (i := i) (j := j) (by omega) (by omega)
    rw [some4, some4]
    unfold D4 D3
    rw [E 0 0 (by omega) (by omega), E 0 1 (by omega) (by omega), E 0 2 (by omega) (by omega), E 0 3 (by omega) (by omega), E 1 0 (by omega) (by omega), E 1 1 (by omega) (by omega), E 1 2 (by omega) (by omega), E 1 3 (by omega) (by omega),
      E 2 0 (by omega) (by omega), E 2 1 (by omega) (by omega), E 2 2 (by omega) (by omega), E 2 3 (by omega) (by omega), E 3 0 (by omega) (by omega), E 3 1 (by omega) (by omega), E 3 2 (by omega) (by omega), E 3 3 (by omega) (by omega)]
    grind
theorem trn_minors {t : List (List Int)} (h : smith t = true) {k : Nat} (hk : k ≤ 4) : minorsI (trn t) k = minorsI t k := by
  have hb := smith_bnd h
  have hb' := smith_bnd (trn_smith h)
  have hn := (smith_len h).2
  have n1 := (minorsI_small hb' hk).1
  have n2 := (minorsI_small hb hk).1
  apply Int.dvd_antisymm n1 n2
  · rw [dvd_minors]
    intro rs hr cs hc
    have := dvd_minors.1 (Int.dvd_refl (minorsI (trn t) k)) cs (by rw [trn_len]; exact hc) rs (by rw [trn_len]; exact hr)
    rw [trn_det hb hb' hn hk hc hr] at this
    exact this
  · rw [dvd_minors]
    intro rs hr cs hc
    rw [trn_len] at hr hc
    rw [trn_det hb hb' hn hk hr hc]
    exact dvd_minors.1 (Int.dvd_refl (minorsI t k)) cs hc rs hr
theorem trn_diag {t : List (List Int)} (h : smith t = true) : diagV (trn t) = diagV t := by
  have hn := (smith_len h).2
  simp only [diagV, h, trn_smith h, if_true]
  apply List.ext_getElem?
  intro j
  by_cases hj : j < t.length
  · rw [diag_get (by rw [trn_len]; exact hn) (by rw [trn_len]; exact hj), diag_get hn hj]
    unfold dgAt
    rw [trn_minors h (by omega), trn_minors h (by omega)]
  · rw [List.getElem?_eq_none (by rw [diagN_len, trn_len]; omega), List.getElem?_eq_none (by rw [diagN_len]; omega)]
end Go.Proofs.YtbjoblgklcilpaaGreatDoor

namespace Go.Proofs.YtbjoblgklcilpaaGreatDoor
open Go.RowKit
set_option linter.all false
def groupV (m : List (List Int)) : List Int := if isSmallM m then (diagN (lessT 1 1 m)).filter ne1 else []
theorem mem_set {l : List Int} {i : Nat} {v y : Int} (h : y ∈ l.set i v) : y = v ∨ y ∈ l := by
  obtain ⟨j, hj⟩ := List.getElem?_of_mem h
  rw [List.getElem?_set] at hj
  by_cases e : i = j
  · rw [if_pos e] at hj
    split at hj
    · injection hj with hj; exact .inl hj.symm
    · cases hj
  · rw [if_neg e] at hj
    exact .inr (List.mem_of_getElem? hj)
theorem less_smith {m : List (List Int)} (h : isSmallM m = true) : smith (lessT 1 1 m) = true := by
  have hm := isSmallM_mat h
  simp only [smith, Bool.and_eq_true, lessT_len]
  refine ⟨?_, inR_mk ⟨by omega, by omega⟩⟩
  simp only [tabIn, List.all_eq_true]
  intro r hr
  obtain ⟨k, hk⟩ := List.getElem?_of_mem hr
  have hkl := (List.getElem?_eq_some_iff.1 hk).1
  rw [lessT_len] at hkl
  have hq : m[k]? = some m[k] := List.getElem?_eq_getElem hkl
  rw [lessT_get hq] at hk
  injection hk with hk
  subst hk
  have hrl := (isMat_row hm.1 hq).1
  simp only [lessRow_len, hrl, decide_true, Bool.true_and, allIn, List.all_eq_true]
  have hneg : ∀ y ∈ negRow 1 m[k], -9 ≤ y ∧ y ≤ 0 := by
    intro y hy
    simp only [negRow, List.mem_map] at hy
    obtain ⟨x, hx, rfl⟩ := hy
    obtain ⟨j, hj⟩ := List.getElem?_of_mem hx
    have := isSmallM_get h hq hj
    unfold wrap64
    omega
  intro y hy
  refine inR_mk ?_
  rcases mem_set hy with e | hy
  · subst e
    have h0 : -9 ≤ (negRow 1 m[k]).getD k 0 ∧ (negRow 1 m[k]).getD k 0 ≤ 0 := by
      cases hg : (negRow 1 m[k])[k]? with
      | none => simp [List.getD, hg]
      | some y => simp only [List.getD, hg, Option.getD_some]; exact hneg y (List.mem_of_getElem? hg)
    unfold wrap64
    omega
  · have := hneg y hy
    omega
theorem diagV_less {m : List (List Int)} (h : isSmallM m = true) : diagV (lessT 1 1 m) = diagN (lessT 1 1 m) := by simp [diagV, less_smith h]
theorem filter_push {L ys : List Int} {k : Nat} {x : Int} {R : List Int} (hk : L[k]? = some x) (h : ys ++ (L.drop k).filter ne1 = R) : (x = 1 → ys ++ (L.drop (k + 1)).filter ne1 = R) ∧ (x ≠ 1 → (ys ++ [x]) ++ (L.drop (k + 1)).filter ne1 = R) := by
  rw [drop_of_get hk, List.filter_cons] at h
  constructor
  · intro e
    have : ne1 x = false := by simp [ne1, e]
    rw [this] at h
    simpa using h
  · intro e
    have : ne1 x = true := by simp [ne1, e]
    rw [this] at h
    simpa using h
end Go.Proofs.YtbjoblgklcilpaaGreatDoor

namespace Go.Proofs.YtbjoblgklcilpaaGreatDoor
open Go.RowKit
set_option linter.all false
set_option maxHeartbeats 1600000 in
theorem sIsSmall_any (ao : Option Addr) (n cap : Nat) (xss : List (List Int)) (w : World) (h : Intss w ao n xss) :
    Calls Tryz.prog 26 #[.slice ao n cap] w fun e w' => e = .returned (.bool (isSmallM xss)) ∧ w = w' := by
  have hm := h.2.1
  have HL := Lib.hid h.1
  have H := Lib.hid h
  have hg0 : Hid (isSmallM xss = (isMat xss && (!decide (4 < n) && le9T xss))) := by show isSmallM xss = _; unfold isSmallM; rw [h.1]
  clear h
  go_enter Tryz.func26, Tryz.ntmps26
  go_wp2
  go_loop [3] (fun i => ∃ k : Nat, k ≤ n ∧ i = .int .i64 k ∧ Hid (le9T (xss.drop k) = le9T xss)) (fun i => n - (intOf i).toNat)
  case atStart => exact ⟨0, Nat.zero_le _, rfl, rfl⟩
  case round =>
    obtain ⟨k, hk, rfl, hr⟩ := hrel
    by_cases hlt : k < n
    · obtain ⟨b, o, ai, ci, r, rfl, hcell, hrow, hget⟩ := H.out.at_ hlt
      have hrb := hrow.2.1
      have Hst := Lib.hid (le9T_step hget.out hr.out)
      have Hrow := Lib.hid hrow
      clear hrow hr H
      go_wp2_with fail
      go_loop [4] (fun i => ∃ j : Nat, j ≤ r.length ∧ i = .int .i64 j ∧ Hid (le9 (r.drop j) = le9 r)) (fun i => r.length - (intOf i).toNat)
      case atStart => exact ⟨0, Nat.zero_le _, rfl, rfl⟩
      case round =>
        obtain ⟨j, hj, rfl, hrj⟩ := hrel
        by_cases hjn : j < r.length
        · obtain ⟨b', o', x, rfl, hcell', hget'⟩ := Hrow.out.at_ hjn
          have Hsj := Lib.hid (le9_step hget'.out hrj.out)
          clear hrj Hrow
          by_cases h9 : 9 < x
          · have hr1 : Hid _ := Hst.out.1 (Hsj.out.1 h9)
            clear Hst Hsj
            go_wp2_with fail
            go_ret
            exact ⟨ret_bool (by rw [hg0.out, hr1.out]; simp), rfl⟩
          · have hr1 : Hid _ := Hsj.out.2 h9
            clear Hst Hsj
            go_wp2_with fail
            go_round
            case rel => exact ⟨j + 1, hjn, by go_num, hr1⟩
            case measure => simp [intOf]; omega
        · have hr1 : Hid _ := Hst.out.2 (by have := hrj.out; rw [drop_all r j (by omega)] at this; exact this.symm)
          clear Hst hrj Hrow
          go_wp2_with fail
          go_round
          case rel => exact ⟨k + 1, hlt, by go_num, hr1⟩
          case measure => simp [intOf]; omega
    · rw [drop_all xss k (by have := HL.out; omega)] at hr
      have hr1 : Hid _ := hr.out.symm
      clear hr
      cases hmat : isMat xss
      · have hg : Hid (isSmallM xss = false) := by show isSmallM xss = _; rw [hg0.out, hmat]; rfl
        go_wp2_with (first | (go_at_call 42; refine (sIsMatrix_any _ _ _ xss _ H.out).mono ?_; rintro e w' ⟨rfl, rfl⟩))
        go_ret
        exact ⟨ret_bool hg.out.symm, rfl⟩
      · have hg : Hid (isSmallM xss = decide ((n : Int) ≤ 4)) := by
          show isSmallM xss = _
          rw [hg0.out, hmat, hr1.out]
          by_cases h4 : n ≤ 4
          · have e1 : ¬ 4 < n := by omega
            have e2 : (n : Int) ≤ 4 := by omega
            simp [e1, e2, le9T]
          · have e1 : 4 < n := by omega
            have e2 : ¬ (n : Int) ≤ 4 := by omega
            simp [e1, e2]
        go_wp2_with (first | (go_at_call 42; refine (sIsMatrix_any _ _ _ xss _ H.out).mono ?_; rintro e w' ⟨rfl, rfl⟩))
        go_ret
        exact ⟨ret_bool hg.out.symm, rfl⟩
end Go.Proofs.YtbjoblgklcilpaaGreatDoor

namespace Go.Proofs.YtbjoblgklcilpaaGreatDoor
open Go.RowKit
set_option linter.all false
set_option maxHeartbeats 3200000 in
theorem sL23Table_any (p : Option Addr) (n c : Nat) (t : List (List Int)) (w : World) (h : Intss w p n t) (hr : RowsLen t n) (hn : n ≤ 1048576) :
    Calls Tryz.prog 47 #[.slice p n c] w fun e w' => ∃ v, e = .returned v ∧ OIntss w' w.heap.size v n (tabT t) ∧ Below w.heap.size w w' := by
  have H := Lib.hid h
  have HR := Lib.hid hr
  have HL : Hid (t.length = n) := h.1
  clear h hr
  go_enter Tryz.func47, Tryz.ntmps47
  go_wp2_with fail
  refine (sL4One_any n _ hn).mono ?_
  rintro e w1 ⟨v, rfl, hown, hbl⟩
  obtain ⟨ao, cap, rfl, _⟩ := hown.form
  go_wp2_with fail
  go_loopw [4] (fun i wr => ∃ k : Nat, k ≤ n ∧ i = .int .i64 k ∧ OIntss wr w.heap.size (.slice ao n cap) n ((tabT t).take k ++ (oneT n).drop k) ∧ Below w.heap.size w wr) (fun i _ => n - (intOf i).toNat)
  case atStart => exact ⟨0, Nat.zero_le _, rfl, by simpa using hown, hbl⟩
  case round =>
    obtain ⟨i, hi, rfl, hown, hbl⟩ := hrel
    by_cases hlt : i < n
    · obtain ⟨b1, o1, a1, c1, r, rfl, hca, hrow, hget⟩ := H.out.at_ hlt
      have HRL : Hid (r.length = n) := HR.out _ _ hget.out
      have hrl1 : r.length ≤ n := by have := HRL.out; omega
      have hrl2 : n ≤ r.length := by have := HRL.out; omega
      have HMG := Lib.hid (tabT_get hget.out)
      rw [HL.out] at HMG
      rw [drop_of_get (oneT_get hlt)] at hown
      have HAl : Hid (((tabT t).take i).length = i) := take_len (by rw [tabT_len]; have := HL.out; omega)
      obtain ⟨g, cap', e⟩ := hown.head (by omega)
      injection e with e1 e2 e3
      subst e1
      clear e2 e3 cap'
      have Hca := Lib.hid hca
      have Hrow := Lib.hid hrow
      have Hown := Lib.hid hown
      have Hbl := Lib.hid hbl
      clear hown hbl hrow hca
      go_wp2_with fail
      go_loopw [5] (fun i' wr => ∃ j : Nat, j ≤ n ∧ i' = .int .i64 j ∧ OIntss wr w.heap.size (.slice (some ⟨g, 0, none⟩) n cap) n ((tabT t).take i ++ ((tabRow n i r).take j ++ (oneRow n i).drop j) :: (oneT n).drop (i + 1)) ∧ Below w.heap.size w wr) (fun i _ => n - (intOf i).toNat)
      case atStart => exact ⟨0, Nat.zero_le _, rfl, by simpa using Hown.out, Hbl.out⟩
      case round =>
        obtain ⟨j, hj, rfl, hown, hbl⟩ := hrel
        clear Hown Hbl
        by_cases hjn : j < n
        · obtain ⟨b3, o3, x, rfl, hcx, hgetx⟩ := Hrow.out.at_ (k := j) (by omega)
          have hjr : j < r.length := by omega
          obtain ⟨y, hy⟩ : ∃ y, (oneRow n i)[j]? = some y := ⟨_, oneRow_get hjn⟩
          have hy2 : 0 ≤ y ∧ y ≤ 1 := by
            rw [oneRow_get hjn] at hy; injection hy with hy; split at hy <;> omega
          have HG := Lib.hid (tabRow_get hjn hy hgetx.out)
          have hlenr : ((tabRow n i r).take j ++ (oneRow n i).drop j).length = n := by
            rw [List.length_append, take_len (by rw [tabRow_len]; omega), List.length_drop, oneRow_len]; omega
          have h1 := (hbl.cell (World.block_lt_of_cell? w _ Hca.out)).trans Hca.out
          have h3 := (hbl.cell (World.block_lt_of_cell? w _ hcx)).trans hcx
          obtain ⟨gk, ck, h5, ho, hne, hlo⟩ := hown.rowAt (at_mid HAl.out) (by rw [hlenr]; omega)
          have hset := hown.setIn (at_mid HAl.out) h5 ho j (wrap64 (y - x))
          rw [set_mid HAl.out, mix_set hy HG.out] at hset
          rw [hlenr] at h5 ho
          have h6 := ho.cell j hjn
          rw [List.getD, mix_get (by rw [tabRow_len]; omega) hy, Option.getD_some] at h6
          have h7 := ho.frozen j
          have hb' := hbl.setCell (p := ⟨gk, j, none⟩) hlo (.int .i64 (wrap64 (y - x)))
          have Hset := Lib.hid hset
          have Hb' := Lib.hid hb'
          clear hset hb' ho hown hbl hlenr hcx hy HG
          go_wp2_with fail
          go_region
          all_goals (go_wp2_with fail)
          all_goals go_roundw
          case rel => exact ⟨j + 1, hjn, by go_num, by first | exact Hset.out | exact Hset.out.drewN 1, by first | exact Hb'.out | exact Hb'.out.drew⟩
          case measure => simp [intOf]; omega
        · have hjn' : j = n := by omega
          subst hjn'
          rw [mix_end (tabRow_len j i r) (oneRow_len j i), fill_shut HMG.out] at hown
          have Hown := Lib.hid hown
          have Hbl := Lib.hid hbl
          clear hown hbl
          go_wp2_with fail
          go_roundw
          case rel => exact ⟨i + 1, hlt, by go_num, Hown.out, Hbl.out⟩
          case measure => simp [intOf]; omega
    · go_wp2_with fail
      go_ret
      have : i = n := by omega
      subst this
      rw [mix_end (by rw [tabT_len]; exact HL.out) (oneT_len i)] at hown
      exact ⟨_, rfl, hown, hbl⟩
end Go.Proofs.YtbjoblgklcilpaaGreatDoor

namespace Go.Proofs.YtbjoblgklcilpaaGreatDoor
open Go.RowKit
set_option linter.all false
set_option maxHeartbeats 3200000 in
theorem sMinor_any (p : Option Addr) (n c : Nat) (t : List (List Int)) (i j m : Nat) (w : World) (h : Intss w p n t) (hr : RowsLen t m) (hj : j < m) (hm : m ≤ 1048576) (hn : n ≤ 1048576) :
    Calls Tryz.prog 72 #[.slice p n c, .int .i64 i, .int .i64 j] w fun e w' => ∃ v, e = .returned v ∧ OIntss w' w.heap.size v (minorT t i j).length (minorT t i j) ∧ Below w.heap.size w w' := by
  have H := Lib.hid h
  have HL : Hid (t.length = n) := h.1
  have HR := Lib.hid hr
  clear h hr
  go_enter Tryz.func72, Tryz.ntmps72
  go_wp2_with fail
  go_loopw [7, 8] (fun v x wr => ∃ k : Nat, k ≤ n ∧ x = .int .i64 k ∧ OIntss wr w.heap.size v (minorTo t i j k).length (minorTo t i j k) ∧ Below w.heap.size w wr) (fun _ x _ => n - (intOf x).toNat)
  case atStart => exact ⟨0, Nat.zero_le _, rfl, by rw [minorTo_zero]; exact OIntss.empty w _ (Nat.le_refl _), (Below.refl _ _).alloc (Nat.le_refl _) _⟩
  case round =>
    obtain ⟨k, hk, rfl, hown, hbl⟩ := hrel
    obtain ⟨wo, rfl⟩ : ∃ wo : World, wo = wr := ⟨_, rfl⟩
    by_cases hlt : k < n
    · obtain ⟨b1, o1, a1, c1, r, rfl, hca, hrow, hget, hcap⟩ := H.out.cap_ hlt
      have h1 := (hbl.cell (World.block_lt_of_cell? w _ hca)).trans hca
      have hrl : r.length = m := HR.out _ _ hget.out
      by_cases hki : k = i
      · subst hki
        have e : minorTo t k j (k + 1) = minorTo t k j k := minorTo_skip (by have := HL.out; omega)
        rw [← e] at hown
        have Hown := Lib.hid hown
        have Hbl := Lib.hid hbl
        have hne : ((k : Int) == (k : Int)) = true := by simp
        clear hown hbl hca hrow hrl e
        go_wp2_with fail
        go_roundw
        case rel => exact ⟨k + 1, hlt, by go_num, Hown.out, Hbl.out⟩
        case measure => simp [intOf]; omega
      · have hne : ((k : Int) == (i : Int)) = false := by simp; omega
        have e : minorTo t i j (k + 1) = minorTo t i j k ++ [cut j r] := minorTo_step hget.out hki
        have Hown := Lib.hid hown
        have Hbl := Lib.hid hbl
        have hjr2 : j ≤ r.length := by omega
        have hjr3 : j + 1 ≤ r.length := by omega
        have hjc : j ≤ c1 := by omega
        have Hrow := Lib.hid hrow
        have E := Lib.hid e
        have HRL := Lib.hid hrl
        clear hown hbl hca hki hrow e hrl
        obtain ⟨A2, hA2⟩ : ∃ A2, (if c1 = j + 1 then a1 else a1.map (·.add (j + 1))) = A2 := ⟨_, rfl⟩
        have Hd : Hid (Ints wo A2 (r.length - (j + 1)) (r.drop (j + 1))) := by rw [← hA2]; exact (Hrow.out.keep (Hbl.out.mono (Nat.le_refl _))).drop hjr3 hcap
        have Ht : Hid (Ints wo a1 j (r.take j)) := (Hrow.out.keep (Hbl.out.mono (Nat.le_refl _))).take hjr2
        have hs1 := slice_to a1 r.length c1 j hjc
        have hs2 := slice_from a1 r.length c1 j hjr3
        rw [hA2] at hs2
        have HA2 := Lib.hid hA2
        have hw0 : Below wo.heap.size wo (wo.alloc (.cells #[] 3)) := (Below.refl _ _).alloc (Nat.le_refl _) _
        have Hw0 := Lib.hid hw0
        have ho0 : Hid (OInts (wo.alloc (.cells #[] 3)) wo.heap.size (.slice (some ⟨wo.heap.size, 0, none⟩) 0 0) 0 []) := OInts.empty wo wo.heap.size (Nat.le_refl _)
        have hjm : j ≤ 1048576 := by omega
        have hrm : r.length ≤ 1048576 := by have := HRL.out; omega
        have hjr4 : j + 1 ≤ r.length := hjr3
        have hml := minorTo_len (t := t) (i := i) (j := j) (k := k)
        have H1 := Lib.hid h1
        have h10 := (hw0.cell (World.block_lt_of_cell? wo _ h1)).trans h1
        clear h1 hcap hA2 hjc hjr2 hjr3 hw0
        go_wp2_with (first
          | (at_builtin; refine wpList_app_ints _ rfl (.tmp 20) (.tmp 26) rfl wo.heap.size _ 0 [] rfl ho0.out a1 j _ (r.take j) rfl (Ht.out.keep Hw0.out) (by omega) (by exact Hw0.out.size) ?_; intro v1 w1 ho1 hg1; rw [Nat.zero_add, List.nil_append] at ho1; obtain ⟨ao1, cap1, rfl, _⟩ := ho1.form; have Ho1 := Lib.hid ho1; have Hb1 : Hid (Below wo.heap.size wo w1) := Hw0.out.grown hg1 Hw0.out.size (fun k hk => (ho0.out.ownlt k hk).1); have h1' := (Hb1.out.cell (World.block_lt_of_cell? wo _ H1.out)).trans H1.out; clear ho1 hg1)
          | (at_builtin; refine wpList_app_ints _ rfl (.tmp 29) (.tmp 36) rfl wo.heap.size _ _ _ rfl Ho1.out A2 _ _ (r.drop (j + 1)) rfl (Hd.out.keep Hb1.out) (by omega) (by exact Hb1.out.size) ?_; intro v2 w2 ho2 hg2; obtain ⟨ao2, cap2, rfl, _⟩ := ho2.form; have Ho2 := Lib.hid ho2; have Hb2 : Hid (Below wo.heap.size wo w2) := Hb1.out.grown hg2 Hb1.out.size (fun k hk => (Ho1.out.ownlt k hk).1); clear ho2 hg2)
          | (at_builtin; refine wpList_push_fresh _ _ wo rfl (.tmp 28) (.tmp 38) rfl w.heap.size _ _ _ rfl Hown.out (by omega) Hbl.out.size Hb2.out _ _ Ho2.out _ (by rfl) rfl ?_; intro v3 w3 ho3 hb3 _; have Ho3 := Lib.hid ho3; have Hb3 := Lib.hid hb3; clear ho3 hb3))
        go_roundw
        case rel =>
          refine ⟨k + 1, hlt, by go_num, ?_, Hbl.out.trans Hb3.out⟩
          have h9 := Ho3.out
          rw [E.out, List.length_append]
          exact h9
        case measure => simp [intOf]; omega
    · go_wp2_with fail
      go_ret
      rw [minorTo_end (by have := HL.out; omega)] at hown
      exact ⟨_, rfl, hown, hbl⟩
end Go.Proofs.YtbjoblgklcilpaaGreatDoor

namespace Go.Proofs.YtbjoblgklcilpaaGreatDoor
open Go.RowKit
set_option linter.all false
theorem sMinor0_any (p : Option Addr) (n c : Nat) (t : List (List Int)) (j m : Nat) (w : World) (h : Intss w p n t) (hr : RowsLen t m) (hj : j < m) (hm : m ≤ 1048576) (hn : n ≤ 1048576) :
    Calls Tryz.prog 72 #[.slice p n c, .int .i64 0, .int .i64 j] w fun e w' => ∃ v, e = .returned v ∧ OIntss w' w.heap.size v (minorT t 0 j).length (minorT t 0 j) ∧ Below w.heap.size w w' := by
  have := sMinor_any p n c t 0 j m w h hr hj hm hn
  simpa using this

set_option maxHeartbeats 1600000 in
theorem sDet_any (m : Nat) : ∀ (p : Option Addr) (n c : Nat) (t : List (List Int)) (w : World), n = m → m ≤ 9 → Intss w p n t → RowsLen t m →
    Calls Tryz.prog 49 #[.slice p n c] w fun e w' => e = .returned (.int .i64 (det m t)) ∧ Below w.heap.size w w' := by
  induction m with
  | zero =>
    intro p n c t w hn _ _ _
    subst hn
    go_enter Tryz.func49, Tryz.ntmps49
    go_wp2_with fail
    go_ret
    exact ⟨rfl, Below.refl _ _⟩
  | succ m ih =>
    intro p n c t w hn hm h hr
    subst hn
    have HL : Hid (t.length = m + 1) := h.1
    obtain ⟨b0, o0, a0, c0, r0, rfl, hc0, hrow0, hget0⟩ := h.at_ (k := 0) (by omega)
    rw [Nat.add_zero] at hc0
    have HR0 : Hid (r0.length = m + 1) := hr _ _ hget0.out
    have hl1 : r0.length ≤ m + 1 := by have := HR0.out; omega
    have hl2 : m + 1 ≤ r0.length := by have := HR0.out; omega
    have HD : Hid (det (m + 1) t = dloop (det m) t r0 0 0 1) := by
      show det (m + 1) t = _
      have e : t.getD 0 [] = r0 := by rw [List.getD, hget0.out]; rfl
      unfold det
      rw [e]
    have hne : ((m : Int) + 1 == 0) = false := by simp; omega
    have hn0 : 0 < m + 1 := by omega
    have H := Lib.hid h
    have HRL := Lib.hid hr
    have Hrow := Lib.hid hrow0
    have IH := Lib.hid ih
    have Hc0 := Lib.hid hc0
    clear h hr hrow0 ih hc0
    go_enter Tryz.func49, Tryz.ntmps49
    go_wp2_with fail
    go_loopw [3, 4, 5] (fun s g i wr => ∃ (j : Nat) (sv gv : Int), j ≤ m + 1 ∧ i = .int .i64 j ∧ s = .int .i64 sv ∧ g = .int .i64 gv ∧ -1 ≤ gv ∧ gv ≤ 1 ∧ Below w.heap.size w wr ∧ Hid (dloop (det m) t (r0.drop j) j sv gv = det (m + 1) t)) (fun _ _ i _ => (m + 1) - (intOf i).toNat)
    case atStart => exact ⟨0, 0, 1, Nat.zero_le _, rfl, rfl, rfl, by omega, by omega, Below.refl _ _, HD.out.symm⟩
    case round =>
      obtain ⟨j, sv, gv, hj, rfl, rfl, rfl, hg1, hg2, hbl, hd⟩ := hrel
      have hc0' := (hbl.cell (World.block_lt_of_cell? w _ Hc0.out)).trans Hc0.out
      by_cases hlt : j < m + 1
      · obtain ⟨b1, o1, x, rfl, hcx, hgetx⟩ := Hrow.out.at_ (k := j) (by omega)
        have hcx' := (hbl.cell (World.block_lt_of_cell? w _ hcx)).trans hcx
        have hjr : j < r0.length := by omega
        by_cases hx0 : x = 0
        · subst hx0
          have hd1 : Hid _ := dloop_zero hgetx.out hd.out
          clear hcx hd
          go_wp2_with fail
          go_roundw
          case rel => exact ⟨j + 1, sv, -gv, hlt, by go_num, rfl, rfl, by omega, by omega, hbl, hd1⟩
          case measure => simp [intOf]; omega
        · have hd1 : Hid _ := dloop_step hgetx.out hx0 hd.out
          have hne2 : (x != 0) = true := by simp [hx0]
          have Hbl := Lib.hid hbl.drew
          have Hcx0 := Lib.hid hcx
          clear hbl hcx hd hx0
          have HML : Hid ((minorT t 0 j).length = m) := by show (minorT t 0 j).length = m; rw [minorT_len (by have := HL.out; omega), HL.out]; omega
          go_wp2_with fail
          go_region_held3 (fun w' => w'.cell? ⟨b0, o0, none⟩ = some (.slice (some ⟨b1, o1, none⟩) r0.length c0) ∧ w'.cell? ⟨b1, o1 + j, none⟩ = some (.int .i64 x)) (first | go_keep | exact ⟨q1, q2⟩ | exact ⟨q3, q4⟩) (first
            | (go_at_call 72; refine (sMinor0_any _ _ _ t j (m + 1) _ (H.out.keep (Hbl.out.mono (Nat.le_refl _))) HRL.out (by omega) (by omega) (by omega)).mono ?_; rintro e w1 ⟨v1, rfl, ho1, hb1⟩; obtain ⟨ao1, cap1, rfl, hi1⟩ := ho1.form; have Hi1 := Lib.hid hi1; have Hb1 := Lib.hid (Hbl.out.trans (hb1.mono Hbl.out.size)); have q1 := (Hb1.out.cell (World.block_lt_of_cell? w _ Hc0.out)).trans Hc0.out; have q2 := (Hb1.out.cell (World.block_lt_of_cell? w _ Hcx0.out)).trans Hcx0.out; clear ho1 hb1 hi1)
            | (go_at_call 49; refine (IH.out _ _ _ (minorT t 0 j) _ HML.out (by omega) Hi1.out (minorT_rowsLen HRL.out (by omega))).mono ?_; rintro e w2 ⟨rfl, hb2⟩; have Hb2 := Lib.hid (Hb1.out.trans (hb2.mono Hb1.out.size)); have q3 := (Hb2.out.cell (World.block_lt_of_cell? w _ Hc0.out)).trans Hc0.out; have q4 := (Hb2.out.cell (World.block_lt_of_cell? w _ Hcx0.out)).trans Hcx0.out; clear hb2))
          go_wp2_with fail
          go_roundw
          case rel => exact ⟨j + 1, _, -gv, hlt, by go_num, rfl, rfl, by omega, by omega, Hb2.out, by simp only [wrap_i64_eq]; exact hd1⟩
          case measure => simp [intOf]; omega
      · go_wp2_with fail
        go_ret
        exact ⟨ret_int (dloop_end (by omega) hd.out), hbl⟩
end Go.Proofs.YtbjoblgklcilpaaGreatDoor

namespace Go.Proofs.YtbjoblgklcilpaaGreatDoor
open Go.RowKit
set_option linter.all false
def sgn (x : Int) : Int := if 0 < x then 1 else if x < 0 then -1 else 0
def signOf (t : List (List Int)) : Int := if isSmallM t then sgn (det t.length (lessT 1 1 t)) else -2
theorem sgn_bits (x : Int) : bit (decide (0 < x)) - bit (decide (x < 0)) = sgn x := by
  unfold sgn bit
  by_cases h1 : 0 < x
  · have h2 : ¬ x < 0 := by omega
    simp [h1, h2]
  · by_cases h2 : x < 0 <;> simp [h1, h2]
theorem bit_bounds (b : Bool) : 0 ≤ bit b ∧ bit b ≤ 1 := by cases b <;> decide

set_option maxHeartbeats 1600000 in
theorem sSignOf_any (ao : Option Addr) (n cap : Nat) (xss : List (List Int)) (w : World) (h : Intss w ao n xss) :
    Calls Tryz.prog 17 #[.slice ao n cap] w fun e w' => e = .returned (.int .i64 (signOf xss)) ∧ Below w.heap.size w w' := by
  have HL : Hid (xss.length = n) := h.1
  have H := Lib.hid h
  clear h
  cases hs : isSmallM xss
  · have hg : Hid (signOf xss = -2) := by show signOf xss = _; simp [signOf, hs]
    go_enter Tryz.func17, Tryz.ntmps17
    go_wp2_with (first | (go_at_call 26; refine (sIsSmall_any _ _ _ xss _ H.out).mono ?_; rintro e w' ⟨rfl, rfl⟩))
    go_ret
    exact ⟨ret_int hg.out.symm, Below.refl _ _⟩
  · have hg : Hid (signOf xss = sgn (det n (tabT xss))) := by show signOf xss = _; rw [tab_less hs]; simp [signOf, hs, HL.out]
    have hsm := isSmallM_mat hs
    have HR := Lib.hid (isMat_rowsLen hsm.1 HL.out)
    have hn4 : n ≤ 4 := by have := HL.out; omega
    have HT := Lib.hid (tabT_rowsLen xss)
    have HTL : Hid ((tabT xss).length = n) := by show (tabT xss).length = n; rw [tabT_len, HL.out]
    clear hsm
    go_enter Tryz.func17, Tryz.ntmps17
    go_wp2_with (first
      | (go_at_call 26; refine (sIsSmall_any _ _ _ xss _ H.out).mono ?_; rintro e w' ⟨rfl, rfl⟩)
      | (go_at_call 47; refine (sL23Table_any _ _ _ xss _ H.out HR.out (by omega)).mono ?_; rintro e w1 ⟨v1, rfl, ho1, hb1⟩; obtain ⟨ao1, cap1, rfl, hi1⟩ := ho1.form; have Hi1 := Lib.hid hi1; have Hb1 := Lib.hid hb1; clear ho1 hb1 hi1)
      | (go_at_call 49; refine (sDet_any n _ _ _ (tabT xss) _ rfl (by omega) Hi1.out (by have := HT.out; rw [HL.out] at this; exact this)).mono ?_; rintro e w2 ⟨rfl, hb2⟩; have Hb2 := Lib.hid (Hb1.out.trans (hb2.mono Hb1.out.size)); clear hb2; have hg' := hg.out; generalize det n (tabT xss) = z at *; have hz1 := bit_bounds (decide (0 < z)); have hz2 := bit_bounds (decide (z < 0)); have hz : Hid (bit (decide (0 < z)) - bit (decide (z < 0)) = signOf xss) := (sgn_bits z).trans hg'.symm; clear hg' hg)
      | (go_at_call 39; refine (l1Bit_any _ _).mono ?_; rintro e w' ⟨rfl, rfl⟩))
    go_ret
    exact ⟨ret_int hz.out, Hb2.out⟩
end Go.Proofs.YtbjoblgklcilpaaGreatDoor

namespace Go.Proofs.YtbjoblgklcilpaaGreatDoor
open Go.RowKit
set_option linter.all false
theorem of_H1 {t : List (List Int)} (hb : Bnd 100 t) (hn : t.length ≤ 4) {G : Int} (h : H1 (el t) G t.length) : G ∣ minorsI t 1 := by
  rw [dvd_minors]
  intro rs hrs cs hcs
  obtain ⟨r, h1, rfl⟩ := sets1_all ⟨t.length, by omega⟩ rs hrs
  obtain ⟨c, h2, rfl⟩ := sets1_all ⟨t.length, by omega⟩ cs hcs
  rw [det_some (k := 1) hb (by omega) rfl rfl, some1]
  exact h _ _ h1 h2
theorem of_H2 {t : List (List Int)} (hb : Bnd 100 t) (hn : t.length ≤ 4) {G : Int} (h : H2 (el t) G t.length) : G ∣ minorsI t 2 := by
  rw [dvd_minors]
  intro rs hrs cs hcs
  obtain ⟨r, s, h1, h2, rfl⟩ := sets2_all ⟨t.length, by omega⟩ rs hrs
  obtain ⟨c, d, h3, h4, rfl⟩ := sets2_all ⟨t.length, by omega⟩ cs hcs
  have g2 : s.val < t.length := h2
  have g4 : d.val < t.length := h4
  rw [det_some (k := 2) hb (by omega) rfl rfl, some2]
  exact h _ _ _ _ (by omega) g2 (by omega) g4
theorem of_H3 {t : List (List Int)} (hb : Bnd 100 t) (hn : t.length ≤ 4) {G : Int} (h : H3 (el t) G t.length) : G ∣ minorsI t 3 := by
  rw [dvd_minors]
  intro rs hrs cs hcs
  obtain ⟨r, s, u, h1, h2, h3, rfl⟩ := sets3_all ⟨t.length, by omega⟩ rs hrs
  obtain ⟨c, d, e, h4, h5, h6, rfl⟩ := sets3_all ⟨t.length, by omega⟩ cs hcs
  have g3 : u.val < t.length := h3
  have g6 : e.val < t.length := h6
  rw [det_some (k := 3) hb (by omega) rfl rfl, some3]
  exact h _ _ _ _ _ _ (by omega) (by omega) g3 (by omega) (by omega) g6
/-- The determinant of a whole table. -/
def Dn (n : Nat) (x : Nat → Nat → Int) : Int := match n with
  | 1 => x 0 0
  | 2 => M2 x 0 1 0 1
  | 3 => D3 x 0 1 2 0 1 2
  | 4 => D4 x 0 1 2 3 0 1 2 3
  | _ => 0
theorem det_Dn {t : List (List Int)} {n : Nat} (hb : Bnd 100 t) (hl : t.length = n) (hr : RowsLen t n) (h1 : 1 ≤ n) (hn : n ≤ 4) : det n t = Dn n (el t) := by
  have e : det n t = detI n (someT t (iotb n) (iotb n)) := by
    have := det_some hb hn (rs := iotb n) (cs := iotb n) (iotb_len n) (iotb_len n)
    rw [some_iotb hl hr] at this ⊢
    exact this
  rw [e]
  have hc : n = 1 ∨ n = 2 ∨ n = 3 ∨ n = 4 := by omega
  rcases hc with rfl | rfl | rfl | rfl
  · exact some1 t 0 0
  · exact some2 t 0 1 0 1
  · exact some3 t 0 1 2 0 1 2
  · exact some4 t
theorem eq_of_dvd {a b : Int} (ha : 0 ≤ a) (hb : 0 ≤ b) (h1 : a ∣ b) (h2 : b ∣ a) : a = b := Int.dvd_antisymm ha hb h1 h2
section
variable {t t' : List (List Int)} {n : Nat} (hl : t.length = n) (hl' : t'.length = n + 1) (hr : RowsLen t n) (hr' : RowsLen t' (n + 1)) (h1 : 1 ≤ n) (hn : n ≤ 3) (hb : Bnd 100 t) (hb' : Bnd 100 t')
  (a : Tr (n + 1) (el t') (one1 (el t) n)) (b : Tr (n + 1) (one1 (el t) n) (el t')) (hd : Dn (n + 1) (el t') = Dn n (el t))
include hl hl' hr hr' h1 hn hb hb' a b hd
theorem det_up : det (n + 1) t' = det n t := by rw [det_Dn hb' hl' hr' (by omega) (by omega), det_Dn hb hl hr h1 (by omega), hd]
theorem minors_up {k : Nat} (hk : k ≤ n) : minorsI t' (k + 1) = minorsI t k := by
  have nn := fun j (hj : j ≤ 4) => (minorsI_small hb hj).1
  have nn' := fun j (hj : j ≤ 4) => (minorsI_small hb' hj).1
  by_cases hkn : k = n
  · rw [hkn, minors_det hl' hr' (by omega) (by omega), minors_det hl hr h1 (by omega), det_up hl hl' hr hr' h1 hn hb hb' a b hd]
  have hc : k = 0 ∨ k = 1 ∨ k = 2 := by omega
  rcases hc with rfl | rfl | rfl
  · rw [minors0 (by omega)]
    have h : H1 (el t') (minorsI t' 1) (n + 1) := fun r c hr hc => el_dvd hb' (by omega) (Int.dvd_refl _) (by omega) (by omega)
    have := down1 (a.h1 _ h)
    exact eq_of_dvd (nn' 1 (by omega)) (by omega) this (Int.one_dvd _)
  · refine eq_of_dvd (nn' 2 (by omega)) (nn 1 (by omega)) ?_ ?_
    · have h := m2_dvd hb' (by omega) (Int.dvd_refl (minorsI t' 2))
      rw [hl'] at h
      have h2 := down21 (a.h2 _ h)
      rw [← hl] at h2
      exact of_H1 hb (by omega) h2
    · have h : H1 (el t) (minorsI t 1) n := fun r c hr hc => el_dvd hb (by omega) (Int.dvd_refl _) (by omega) (by omega)
      have h2 := b.h2 _ (up12 h)
      rw [← hl'] at h2
      exact of_H2 hb' (by omega) h2
  · refine eq_of_dvd (nn' 3 (by omega)) (nn 2 (by omega)) ?_ ?_
    · have h := d3_any hb' (by omega) (Int.dvd_refl (minorsI t' 3))
      rw [hl'] at h
      have h2 := down32 (a.h3 _ h)
      rw [← hl] at h2
      exact of_H2 hb (by omega) h2
    · have h := m2_dvd hb (by omega) (Int.dvd_refl (minorsI t 2))
      rw [hl] at h
      have h2 := b.h3 _ (up23 h)
      rw [← hl'] at h2
      exact of_H3 hb' (by omega) h2
theorem diagL_up : ∀ (c k : Nat) (g : Int), k + c ≤ n + 1 → diagL t' c (k + 1) g = diagL t c k g
  | 0, _, _, _ => rfl
  | c + 1, k, g, hk => by
    rw [diagL, diagL, minors_up hl hl' hr hr' h1 hn hb hb' a b hd (show k ≤ n by omega), diagL_up c (k + 1) _ (by omega), diagL_up c (k + 1) _ (by omega)]
theorem diagN_up : diagN t' = 1 :: diagN t := by
  unfold diagN
  rw [hl', hl, diagL, minors_up hl hl' hr hr' h1 hn hb hb' a b hd (show 0 ≤ n by omega), minors0 (by omega), if_neg (by omega), diagL_up hl hl' hr hr' h1 hn hb hb' a b hd n 1 1 (by omega)]
  rfl
end
/-- The entries of the table taken from a small matrix. -/
theorem less_el {m : List (List Int)} (h : isSmallM m = true) {i j : Nat} (hi : i < m.length) (hj : j < m.length) : el (lessT 1 1 m) i j = (if i = j then 1 else 0) - el m i j := by
  have hm := isSmallM_mat h
  have hq : m[i]? = some m[i] := List.getElem?_eq_getElem hi
  have hrl : m[i].length = m.length := (isMat_row hm.1 hq).1
  have hx : m[i][j]? = some m[i][j] := List.getElem?_eq_getElem (by omega)
  have hb := isSmallM_get h hq hx
  have e1 : el m i j = m[i][j] := by simp [el, List.getD, hq, hx]
  have e2 : (lessT 1 1 m).getD i [] = lessRow 1 1 i m[i] := by simp [List.getD, lessT_get hq]
  have e3 : (negRow 1 m[i])[j]? = some (wrap64 (-1 * m[i][j])) := negRow_get hx
  rw [e1]
  unfold el
  rw [e2]
  unfold lessRow
  generalize m[i][j] = x at *
  by_cases e : i = j
  · subst e
    rw [if_pos rfl]
    have e4 : (negRow 1 m[i]).getD i 0 = wrap64 (-1 * x) := by simp [List.getD, e3]
    rw [e4]
    have hl : i < (negRow 1 m[i]).length := by rw [negRow_len]; omega
    simp [List.getD, hl]
    unfold wrap64
    omega
  · rw [if_neg e]
    simp [List.getD, List.getElem?_set, e, e3]
    unfold wrap64
    omega
theorem groupV_up {m m' : List (List Int)} (hs : isSmallM m = true) (hs' : isSmallM m' = true) (h : diagN (lessT 1 1 m') = 1 :: diagN (lessT 1 1 m)) : groupV m' = groupV m := by
  unfold groupV
  rw [if_pos hs, if_pos hs', h]
  rfl
theorem signOf_up {m m' : List (List Int)} (hs : isSmallM m = true) (hs' : isSmallM m' = true) (hl : m'.length = m.length + 1) (h : det (m.length + 1) (lessT 1 1 m') = det m.length (lessT 1 1 m)) : signOf m' = signOf m := by
  unfold signOf
  rw [if_pos hs, if_pos hs', hl, h]
/-- Both at once, from the two ways between the tables. -/
theorem group_up {m m' : List (List Int)} (hs : isSmallM m = true) (hs' : isSmallM m' = true) (hl : m'.length = m.length + 1)
    (a : Tr (m.length + 1) (el (lessT 1 1 m')) (one1 (el (lessT 1 1 m)) m.length)) (b : Tr (m.length + 1) (one1 (el (lessT 1 1 m)) m.length) (el (lessT 1 1 m')))
    (hd : Dn (m.length + 1) (el (lessT 1 1 m')) = Dn m.length (el (lessT 1 1 m))) : groupV m' = groupV m ∧ signOf m' = signOf m := by
  have h1 := isSmallM_mat hs
  have h2 := isSmallM_mat hs'
  have hb := smith_bnd (less_smith hs)
  have hb' := smith_bnd (less_smith hs')
  have hr := smith_rowsLen (less_smith hs) (lessT_len 1 1 m)
  have hr' := smith_rowsLen (less_smith hs') (show (lessT 1 1 m').length = m.length + 1 by rw [lessT_len, hl])
  exact ⟨groupV_up hs hs' (diagN_up (lessT_len 1 1 m) (by rw [lessT_len, hl]) hr hr' h1.2.2 (by omega) hb hb' a b hd),
    signOf_up hs hs' hl (det_up (lessT_len 1 1 m) (by rw [lessT_len, hl]) hr hr' h1.2.2 (by omega) hb hb' a b hd)⟩
end Go.Proofs.YtbjoblgklcilpaaGreatDoor

namespace Go.Proofs.YtbjoblgklcilpaaGreatDoor
open Go.RowKit
set_option linter.all false
def strX (A : Nat → Nat → Int) (n i0 : Nat) : Nat → Nat → Int := fun k j =>
  if k = n then (if j = n then 1 else if j = i0 then -1 else 0) else if j = n then (if k = i0 then A k i0 - 1 else A k i0) else if j = i0 then (if k = i0 then 1 else 0) else A k j
def splX (A : Nat → Nat → Int) (n j0 : Nat) (u : Nat → Int) : Nat → Nat → Int := fun k l =>
  if k = n then (if l = n then 1 + u j0 else u l) else if k = j0 then (if l = n then A j0 j0 - u j0 - 1 else A j0 l - u l) else if l = n then A k j0 else A k l
theorem str_to (A : Nat → Nat → Int) {n i0 : Nat} (hi : i0 < n) : Tr (n + 1) (strX A n i0) (one1 A n) := by
  refine ((Tr.col (strX A n i0) (fun j => if j = i0 then 1 else 0) (l := n) (by omega)).trans (Tr.row _ (fun k => if k = n then 0 else if k = i0 then 1 - A k i0 else -A k i0) (l := n) (by omega))).trans (Tr.same fun k j hk hj => ?_)
  unfold rowA colA strX one1
  grind
theorem str_from (A : Nat → Nat → Int) {n i0 : Nat} (hi : i0 < n) : Tr (n + 1) (one1 A n) (strX A n i0) := by
  refine ((Tr.row (one1 A n) (fun k => if k = n then 0 else if k = i0 then A k i0 - 1 else A k i0) (l := n) (by omega)).trans (Tr.col _ (fun j => if j = i0 then -1 else 0) (l := n) (by omega))).trans (Tr.same fun k j hk hj => ?_)
  unfold rowA colA strX one1
  grind
theorem spl_to (A : Nat → Nat → Int) {n j0 : Nat} (hi : j0 < n) (u : Nat → Int) : Tr (n + 1) (splX A n j0 u) (one1 A n) := by
  refine (((Tr.row (splX A n j0 u) (fun k => if k = j0 then 1 else 0) (l := n) (by omega)).trans (Tr.col _ (fun l => if l = n then -1 else 0) (l := j0) (by omega))).trans (Tr.col _ (fun l => if l = n then 0 else -u l) (l := n) (by omega))).trans (Tr.same fun k j hk hj => ?_)
  unfold rowA colA splX one1
  grind
theorem spl_from (A : Nat → Nat → Int) {n j0 : Nat} (hi : j0 < n) (u : Nat → Int) : Tr (n + 1) (one1 A n) (splX A n j0 u) := by
  refine (((Tr.col (one1 A n) (fun l => if l = n then 0 else u l) (l := n) (by omega)).trans (Tr.col _ (fun l => if l = n then 1 else 0) (l := j0) (by omega))).trans (Tr.row _ (fun k => if k = j0 then -1 else 0) (l := n) (by omega))).trans (Tr.same fun k j hk hj => ?_)
  unfold rowA colA splX one1
  grind
theorem Dn_same {n : Nat} {x y : Nat → Nat → Int} (h : ∀ i j, i < n → j < n → x i j = y i j) (hn : n ≤ 4) : Dn n x = Dn n y := by
  have hc : n = 0 ∨ n = 1 ∨ n = 2 ∨ n = 3 ∨ n = 4 := by omega
  rcases hc with rfl | rfl | rfl | rfl | rfl
  · rfl
  · exact h 0 0 (by omega) (by omega)
  · simp only [Dn, M2]
    rw [h 0 0 (by omega) (by omega), h 0 1 (by omega) (by omega), h 1 0 (by omega) (by omega), h 1 1 (by omega) (by omega)]
  · simp only [Dn, D3]
    rw [h 0 0 (by omega) (by omega), h 0 1 (by omega) (by omega), h 0 2 (by omega) (by omega), h 1 0 (by omega) (by omega), h 1 1 (by omega) (by omega), h 1 2 (by omega) (by omega), h 2 0 (by omega) (by omega), h 2 1 (by omega) (by omega), h 2 2 (by omega) (by omega)]
  · simp only [Dn, D4, D3]
    rw [h 0 0 (by omega) (by omega), h 0 1 (by omega) (by omega), h 0 2 (by omega) (by omega), h 0 3 (by omega) (by omega), h 1 0 (by omega) (by omega), h 1 1 (by omega) (by omega), h 1 2 (by omega) (by omega), h 1 3 (by omega) (by omega),
      h 2 0 (by omega) (by omega), h 2 1 (by omega) (by omega), h 2 2 (by omega) (by omega), h 2 3 (by omega) (by omega), h 3 0 (by omega) (by omega), h 3 1 (by omega) (by omega), h 3 2 (by omega) (by omega), h 3 3 (by omega) (by omega)]
theorem str_det (A : Nat → Nat → Int) {n i0 : Nat} (hi : i0 < n) (hn : n ≤ 3) : Dn (n + 1) (strX A n i0) = Dn n A := by
  have hc : (n = 1 ∧ i0 = 0) ∨ (n = 2 ∧ i0 = 0) ∨ (n = 2 ∧ i0 = 1) ∨ (n = 3 ∧ i0 = 0) ∨ (n = 3 ∧ i0 = 1) ∨ (n = 3 ∧ i0 = 2) := by omega
  rcases hc with ⟨rfl, rfl⟩ | ⟨rfl, rfl⟩ | ⟨rfl, rfl⟩ | ⟨rfl, rfl⟩ | ⟨rfl, rfl⟩ | ⟨rfl, rfl⟩ <;> simp [Dn, D4, D3, M2, strX] <;> grind
theorem spl_det (A : Nat → Nat → Int) {n j0 : Nat} (hi : j0 < n) (hn : n ≤ 3) (u : Nat → Int) : Dn (n + 1) (splX A n j0 u) = Dn n A := by
  have hc : (n = 1 ∧ j0 = 0) ∨ (n = 2 ∧ j0 = 0) ∨ (n = 2 ∧ j0 = 1) ∨ (n = 3 ∧ j0 = 0) ∨ (n = 3 ∧ j0 = 1) ∨ (n = 3 ∧ j0 = 2) := by omega
  rcases hc with ⟨rfl, rfl⟩ | ⟨rfl, rfl⟩ | ⟨rfl, rfl⟩ | ⟨rfl, rfl⟩ | ⟨rfl, rfl⟩ | ⟨rfl, rfl⟩ <;> simp [Dn, D4, D3, M2, splX] <;> grind
/-- From a table's entries. -/
theorem group_str {m m' : List (List Int)} (hs : isSmallM m = true) (hs' : isSmallM m' = true) (hl : m'.length = m.length + 1) {i0 : Nat} (hi : i0 < m.length)
    (he : ∀ k j, k < m.length + 1 → j < m.length + 1 → el (lessT 1 1 m') k j = strX (el (lessT 1 1 m)) m.length i0 k j) : groupV m' = groupV m ∧ signOf m' = signOf m := by
  have h4 := isSmallM_mat hs'
  refine group_up hs hs' hl ((Tr.same he).trans (str_to _ hi)) ((str_from _ hi).trans (Tr.same fun k j hk hj => (he k j hk hj).symm)) ?_
  rw [Dn_same he (by omega), str_det _ hi (by omega)]
theorem group_spl {m m' : List (List Int)} (hs : isSmallM m = true) (hs' : isSmallM m' = true) (hl : m'.length = m.length + 1) {i0 : Nat} (hi : i0 < m.length) (u : Nat → Int)
    (he : ∀ k j, k < m.length + 1 → j < m.length + 1 → el (lessT 1 1 m') k j = splX (el (lessT 1 1 m)) m.length i0 u k j) : groupV m' = groupV m ∧ signOf m' = signOf m := by
  have h4 := isSmallM_mat hs'
  refine group_up hs hs' hl ((Tr.same he).trans (spl_to _ hi u)) ((spl_from _ hi u).trans (Tr.same fun k j hk hj => (he k j hk hj).symm)) ?_
  rw [Dn_same he (by omega), spl_det _ hi (by omega)]
/-- The entries of the stretched and of the split table. -/
theorem el_get {t : List (List Int)} {i j : Nat} {r : List Int} (h : t[i]? = some r) : el t i j = r.getD j 0 := by simp [el, List.getD, h]
theorem str_el {m : List (List Int)} {i : Int} (h : strOk m i = true) (hi : i.toNat < m.length) (hr : ∀ (k : Nat) (r : List Int), m[k]? = some r → r.length = m.length) : ∀ k j, k < m.length + 1 → j < m.length + 1 →
    el (strV m i) k j = if k = m.length then (if j = i.toNat then 1 else 0) else if j = m.length then el m k i.toNat else if j = i.toNat then 0 else el m k j := by
  intro k j hk hj
  unfold strV
  rw [if_pos h]
  by_cases e : k = m.length
  · rw [if_pos e]
    have hg : (strT i.toNat m ++ [lastRow m.length i.toNat])[k]? = some (lastRow m.length i.toNat) := by
      rw [List.getElem?_append_right (by rw [strT_len]; omega), strT_len, e, Nat.sub_self]; rfl
    rw [el_get hg]
    unfold lastRow
    by_cases e2 : j = i.toNat
    · rw [if_pos e2, e2]
      simp [List.getD, List.getElem?_set, show i.toNat < m.length + 1 by omega]
    · rw [if_neg e2]
      simp [List.getD, List.getElem?_set, show ¬ i.toNat = j by omega, List.getElem?_replicate]
      split <;> rfl
  · rw [if_neg e]
    have hq : m[k]? = some m[k] := List.getElem?_eq_getElem (by omega)
    have hrl := hr k _ hq
    have hg : (strT i.toNat m ++ [lastRow m.length i.toNat])[k]? = some (strRow i.toNat m[k]) := by
      rw [List.getElem?_append_left (by rw [strT_len]; omega)]; exact strT_get hq
    rw [el_get hg, el_get hq, el_get hq]
    unfold strRow
    by_cases e2 : j = m.length
    · rw [if_pos e2, e2]
      simp [List.getD, List.getElem?_set, show ¬ i.toNat = m.length by omega, List.getElem?_append_right, hrl]
    · rw [if_neg e2]
      by_cases e3 : j = i.toNat
      · rw [if_pos e3, e3]
        simp [List.getD, List.getElem?_set, hrl, show i.toNat < m.length + 1 by omega]
      · rw [if_neg e3]
        simp [List.getD, List.getElem?_set, show ¬ i.toNat = j by omega, List.getElem?_append_left, hrl, show j < m.length by omega]
theorem spl_el {m : List (List Int)} {i : Int} {p : List Int} (h : splOk m i p = true) : ∀ k l, k < m.length + 1 → l < m.length + 1 →
    el (splV m i p) k l = if k = m.length then (if l = m.length then el m i.toNat i.toNat - p.getD i.toNat 0 else el m i.toNat l - p.getD l 0) else if k = i.toNat then (if l = m.length then p.getD i.toNat 0 else p.getD l 0)
      else if l = m.length then el m k i.toNat else el m k l := by
  have hf := splOk_facts h
  have hil := hf.il
  have hr : ∀ (k : Nat) (r : List Int), m[k]? = some r → r.length = m.length := fun k r hk => (isMat_row hf.mat hk).1
  have sp : ∀ (r : List Int) (l : Nat), r.length = m.length → l < m.length + 1 → (spRow i.toNat r).getD l 0 = if l = m.length then r.getD i.toNat 0 else r.getD l 0 := by
    intro r l hl hl2
    unfold spRow
    by_cases e : l = m.length
    · rw [if_pos e, e]
      simp [List.getD, List.getElem?_append_right, hl]
    · rw [if_neg e]
      simp [List.getD, List.getElem?_append_left, hl, show l < m.length by omega]
  intro k l hk hl
  rw [splV_yes h]
  unfold spT
  have hqi : m[i.toNat]? = some m[i.toNat] := List.getElem?_eq_getElem hil
  have hri := hr _ _ hqi
  have hgi : m.getD i.toNat [] = m[i.toNat] := by simp [List.getD, hqi]
  by_cases e : k = m.length
  · rw [if_pos e]
    have hg : (spTop m i.toNat p ++ [spRow i.toNat (lessL (m.getD i.toNat []) p)])[k]? = some (spRow i.toNat (lessL (m.getD i.toNat []) p)) := by
      rw [List.getElem?_append_right (by rw [spTop_len]; omega), spTop_len, e, Nat.sub_self]; rfl
    have hll : (lessL (m.getD i.toNat []) p).length = m.length := by rw [hgi, lessL_len (by rw [hf.pl, hri]), hri]
    have lg : ∀ q, q < m.length → (lessL (m.getD i.toNat []) p).getD q 0 = el m i.toNat q - p.getD q 0 := by
      intro q hq
      have h1 : m[i.toNat][q]? = some m[i.toNat][q] := List.getElem?_eq_getElem (by omega)
      have h2 : p[q]? = some (p[q]'(by rw [hf.pl]; exact hq)) := List.getElem?_eq_getElem _
      rw [hgi, el_get hqi]
      simp [List.getD, lessL_get h1 h2, h1, h2]
    rw [el_get hg, sp _ _ hll hl]
    by_cases e2 : l = m.length
    · rw [if_pos e2, if_pos e2, lg _ hil]
    · rw [if_neg e2, if_neg e2, lg _ (by omega)]
  · rw [if_neg e]
    by_cases e1 : k = i.toNat
    · rw [if_pos e1]
      have hg : (spTop m i.toNat p ++ [spRow i.toNat (lessL (m.getD i.toNat []) p)])[k]? = some (spRow i.toNat p) := by
        rw [List.getElem?_append_left (by rw [spTop_len]; omega), e1]; exact spTop_at hil
      rw [el_get hg, sp _ _ hf.pl hl]
    · rw [if_neg e1]
      have hq : m[k]? = some m[k] := List.getElem?_eq_getElem (by omega)
      have hg : (spTop m i.toNat p ++ [spRow i.toNat (lessL (m.getD i.toNat []) p)])[k]? = some (spRow i.toNat m[k]) := by
        rw [List.getElem?_append_left (by rw [spTop_len]; omega)]; exact spTop_get hq e1
      rw [el_get hg, sp _ _ (hr _ _ hq) hl, el_get hq, el_get hq]
end Go.Proofs.YtbjoblgklcilpaaGreatDoor

namespace Go.Proofs.YtbjoblgklcilpaaGreatDoor
open Go.RowKit
set_option linter.all false
def mulM (a b : List (List Int)) : Option (List (List Int)) := if isMat a && (isMat b && (decide (a.length = b.length) && isMat (mulT a b b.length))) then some (mulT a b b.length) else none
theorem mulM_none1 {a b : List (List Int)} (h : isMat a = false) : mulM a b = none := by simp [mulM, h]
theorem mulM_none2 {a b : List (List Int)} (h : isMat b = false) : mulM a b = none := by simp [mulM, h]
theorem mulM_none3 {a b : List (List Int)} (h : a.length ≠ b.length) : mulM a b = none := by simp [mulM, h]
theorem mulM_none4 {a b : List (List Int)} (h : isMat (mulT a b b.length) = false) : mulM a b = none := by simp [mulM, h]
theorem mulM_some {a b : List (List Int)} (h1 : isMat a = true) (h2 : isMat b = true) (h3 : a.length = b.length) (h4 : isMat (mulT a b b.length) = true) : mulM a b = some (mulT a b b.length) := by
  unfold mulM; rw [h1, h2, h4]; simp [h3]
theorem mulM_mat {a b c : List (List Int)} (h : mulM a b = some c) : isMat c = true ∧ c.length = b.length := by
  unfold mulM at h
  split at h
  · rename_i h1
    injection h with h
    subst h
    simp only [Bool.and_eq_true, decide_eq_true_eq] at h1
    exact ⟨h1.2.2.2, by rw [mulT_len]; exact h1.2.2.1⟩
  · cases h
end Go.Proofs.YtbjoblgklcilpaaGreatDoor

namespace Go.Proofs.YtbjoblgklcilpaaGreatDoor
open Go.RowKit
set_option linter.all false
def iterM (m : List (List Int)) : Nat → List (List Int) → Option (List (List Int))
  | 0, acc => some acc
  | k + 1, acc => match mulM acc m with
    | none => none
    | some p => iterM m k p
def powM (m : List (List Int)) (n : Int) : Option (List (List Int)) := if isMat m && inR n 0 30 then iterM m n.toNat (oneT m.length) else none
theorem iterM_none {m acc : List (List Int)} {k : Nat} (h : mulM acc m = none) : iterM m (k + 1) acc = none := by simp [iterM, h]
theorem iterM_some {m acc p : List (List Int)} {k : Nat} (h : mulM acc m = some p) : iterM m (k + 1) acc = iterM m k p := by simp [iterM, h]
theorem powM_none1 {m : List (List Int)} {n : Int} (h : isMat m = false) : powM m n = none := by simp [powM, h]
theorem powM_none2 {m : List (List Int)} {n : Int} (h : inR n 0 30 = false) : powM m n = none := by simp [powM, h]
theorem powM_iter {m : List (List Int)} {n : Int} (h1 : isMat m = true) (h2 : inR n 0 30 = true) : powM m n = iterM m n.toNat (oneT m.length) := by simp [powM, h1, h2]
theorem oneT_mat {n : Nat} (h1 : 1 ≤ n) (h9 : n ≤ 9) : isMat (oneT n) = true := by
  have h : inR (oneT n).length 1 9 = true := inR_mk (by rw [oneT_len]; omega)
  unfold isMat
  rw [h, Bool.and_true, oneT_len]
  simp only [tabIn, oneT, List.all_map, List.all_eq_true, List.mem_range]
  intro i _
  simp only [Function.comp, oneRow_len, decide_true, Bool.true_and, allIn, List.all_eq_true]
  intro x hx
  rcases List.mem_or_eq_of_mem_set hx with hx | hx
  · have := List.eq_of_mem_replicate hx
    subst this
    decide
  · subst hx
    decide
theorem iterM_mat {m : List (List Int)} : ∀ (k : Nat) (acc p : List (List Int)), isMat acc = true → acc.length = m.length → iterM m k acc = some p → isMat p = true ∧ p.length = m.length
  | 0, acc, p, h1, h2, h => by
    injection h with h
    subst h
    exact ⟨h1, h2⟩
  | k + 1, acc, p, _, _, h => by
    cases hq : mulM acc m with
    | none => rw [iterM_none hq] at h; cases h
    | some q =>
      rw [iterM_some hq] at h
      have := mulM_mat hq
      exact iterM_mat k q p this.1 this.2 h
theorem powM_mat {m p : List (List Int)} {n : Int} (h : powM m n = some p) : isMat m = true ∧ isMat p = true ∧ p.length = m.length := by
  cases h1 : isMat m with
  | false => rw [powM_none1 h1] at h; cases h
  | true =>
    cases h2 : inR n 0 30 with
    | false => rw [powM_none2 h2] at h; cases h
    | true =>
      rw [powM_iter h1 h2] at h
      have hl := isMat_len h1
      have := iterM_mat _ _ _ (oneT_mat hl.1 hl.2) (oneT_len _) h
      exact ⟨rfl, this⟩
end Go.Proofs.YtbjoblgklcilpaaGreatDoor

namespace Go.Proofs.YtbjoblgklcilpaaGreatDoor
open Go.RowKit
set_option linter.all false
def trc : Nat → Int → List (List Int) → Int
  | _, a, [] => a
  | k, a, r :: rs => trc (k + 1) (wrap64 (a + r.getD k 0)) rs
def closed (m : List (List Int)) (n : Int) : Int :=
  if inR n 1 30 then (match powM m n with
    | none => -1
    | some p => trc 0 0 p) else -1
theorem closed_n {m : List (List Int)} {n : Int} (h : inR n 1 30 = false) : closed m n = -1 := by simp [closed, h]
theorem closed_none {m : List (List Int)} {n : Int} (h : powM m n = none) : closed m n = -1 := by simp [closed, h]
theorem closed_some {m p : List (List Int)} {n : Int} (h1 : inR n 1 30 = true) (h : powM m n = some p) : closed m n = trc 0 0 p := by simp [closed, h, h1]
theorem trc_step {p : List (List Int)} {k : Nat} {a R x : Int} {r : List Int} (hk : p[k]? = some r) (hx : r[k]? = some x) (h : trc k a (p.drop k) = R) : trc (k + 1) (wrap64 (a + x)) (p.drop (k + 1)) = R := by
  rw [drop_of_get hk] at h
  simpa [trc, List.getD, hx] using h
end Go.Proofs.YtbjoblgklcilpaaGreatDoor

namespace Go.Proofs.YtbjoblgklcilpaaGreatDoor
open Go.RowKit
set_option linter.all false
def mb : Nat → Nat → Nat → Int → Int
  | 0, _, _, o => o
  | f + 1, n, p, o => if p ≤ n then (if n % p = 0 then (if n / p % p = 0 then 0 else mb f (n / p) (p + 1) (-o)) else mb f n (p + 1) o) else o
def moeb (n : Int) : Int := if inR n 1 1000 then mb 999 n.toNat 2 1 else 0
theorem mb_stop {f n p : Nat} {o : Int} (h : n < p) : mb f n p o = o := by
  cases f with
  | zero => rfl
  | succ f => simp [mb, show ¬ p ≤ n by omega]
theorem mb_step {n p : Nat} {o M : Int} (hn : n ≤ 1000) (hp : p ≤ n) (h : Hid (mb (1001 - p) n p o = M)) :
    (n % p ≠ 0 → Hid (mb (1001 - (p + 1)) n (p + 1) o = M)) ∧ (n % p = 0 → n / p % p = 0 → M = 0) ∧ (n % p = 0 → n / p % p ≠ 0 → Hid (mb (1001 - (p + 1)) (n / p) (p + 1) (-o) = M)) := by
  have e : 1001 - p = (1001 - (p + 1)) + 1 := by omega
  have h := h.out
  rw [e] at h
  simp only [mb, if_pos hp] at h
  refine ⟨fun h1 => ?_, fun h1 h2 => ?_, fun h1 h2 => ?_⟩
  · rw [if_neg h1] at h; exact h
  · rw [if_pos h1, if_pos h2] at h; exact h.symm
  · rw [if_pos h1, if_neg h2] at h; exact h
theorem modI (n p : Nat) : (n : Int) % (p : Int) = ((n % p : Nat) : Int) := by simp
theorem divmodI (n p : Nat) : (n : Int) / (p : Int) % (p : Int) = ((n / p % p : Nat) : Int) := by simp
theorem natz (k : Nat) : (((k : Nat) : Int) == 0) = decide (k = 0) := by
  by_cases h : k = 0
  · subst h; rfl
  · simp [h]
theorem modI_z {n p : Nat} (h : n % p = 0) : ((n : Int) % (p : Int) != 0) = false := by rw [modI, bne, natz, h]; rfl
theorem modI_nz {n p : Nat} (h : n % p ≠ 0) : ((n : Int) % (p : Int) != 0) = true := by rw [modI, bne, natz, decide_eq_false h]; rfl
theorem modE_z {n p : Nat} (h : n % p = 0) : ((n : Int) % (p : Int) == 0) = true := by rw [modI, natz, h]; rfl
theorem modE_nz {n p : Nat} (h : n % p ≠ 0) : ((n : Int) % (p : Int) == 0) = false := by rw [modI, natz, decide_eq_false h]
theorem divmodI_z {n p : Nat} (h : n / p % p = 0) : ((n : Int) / (p : Int) % (p : Int) == 0) = true := by rw [divmodI, natz, h]; rfl
theorem divmodI_nz {n p : Nat} (h : n / p % p ≠ 0) : ((n : Int) / (p : Int) % (p : Int) == 0) = false := by rw [divmodI, natz, decide_eq_false h]
theorem divI (n p : Nat) : (n : Int) / (p : Int) = ((n / p : Nat) : Int) := by simp
theorem divI_bounds (n p : Nat) : 0 ≤ (n : Int) / (p : Int) ∧ (n : Int) / (p : Int) ≤ n := by
  rw [divI]
  exact ⟨Int.natCast_nonneg _, Int.ofNat_le.2 (Nat.div_le_self n p)⟩
end Go.Proofs.YtbjoblgklcilpaaGreatDoor

namespace Go.Proofs.YtbjoblgklcilpaaGreatDoor
open Go.RowKit
set_option linter.all false
def lpLoop (m : List (List Int)) (n : Nat) : Nat → Nat → Int → Int
  | 0, _, s => s
  | f + 1, d, s => lpLoop m n f (d + 1) (if n % d = 0 then wrap64 (s + wrap64 (moeb ((n : Int) / (d : Int)) * closed m d)) else s)
def lp (m : List (List Int)) (n : Int) : Int := if 12 < n then -1 else if closed m n < 0 then -1 else lpLoop m n.toNat n.toNat 1 0
theorem lp_step {m : List (List Int)} {n d : Nat} {s R : Int} (hd : d ≤ n) (h : Hid (lpLoop m n (n + 1 - d) d s = R)) :
    (n % d = 0 → Hid (lpLoop m n (n + 1 - (d + 1)) (d + 1) (wrap64 (s + wrap64 (moeb ((n : Int) / (d : Int)) * closed m d))) = R)) ∧ (n % d ≠ 0 → Hid (lpLoop m n (n + 1 - (d + 1)) (d + 1) s = R)) := by
  have h := h.out
  rw [show n + 1 - d = (n + 1 - (d + 1)) + 1 by omega] at h
  simp only [lpLoop] at h
  constructor
  · intro e; rw [if_pos e] at h; exact h
  · intro e; rw [if_neg e] at h; exact h
theorem closed_range {m : List (List Int)} {n : Int} (h : ¬ closed m n < 0) : 1 ≤ n ∧ n ≤ 30 := by
  cases h1 : inR n 1 30
  · rw [closed_n h1] at h; omega
  · exact inR_true h1
end Go.Proofs.YtbjoblgklcilpaaGreatDoor

namespace Go.Proofs.YtbjoblgklcilpaaGreatDoor
open Go.RowKit
set_option linter.all false
def orbL (m : List (List Int)) : Nat → Nat → List Int → List Int
  | 0, _, acc => acc
  | c + 1, k, acc => if lp m k < 0 then [] else orbL m c (k + 1) (acc ++ [lp m k])
def orbV (m : List (List Int)) (n : Int) : List Int := if inR n 1 10 then orbL m n.toNat 1 [] else []
theorem orbL_len (m : List (List Int)) : ∀ (c k : Nat) (acc : List Int), orbL m c k acc = [] ∨ (orbL m c k acc).length = acc.length + c
  | 0, _, acc => .inr rfl
  | c + 1, k, acc => by
    unfold orbL
    split
    · exact .inl rfl
    · rcases orbL_len m c (k + 1) (acc ++ [lp m k]) with h | h
      · exact .inl h
      · right; rw [h]; simp; omega
theorem orbV_len (m : List (List Int)) (n : Int) : orbV m n = [] ∨ (orbV m n).length = n.toNat := by
  unfold orbV
  split
  · have := orbL_len m n.toNat 1 []
    simpa using this
  · exact .inl rfl
theorem orb_step {m : List (List Int)} {n k : Nat} {ys R : List Int} (hk : k ≤ n) (h : Hid (orbL m (n + 1 - k) k ys = R)) : (lp m k < 0 → R = []) ∧ (¬ lp m k < 0 → Hid (orbL m (n + 1 - (k + 1)) (k + 1) (ys ++ [lp m k]) = R)) := by
  have h := h.out
  rw [show n + 1 - k = (n + 1 - (k + 1)) + 1 by omega] at h
  simp only [orbL] at h
  constructor
  · intro e; rw [if_pos e] at h; exact h.symm
  · intro e; rw [if_neg e] at h; exact h
def fitL : List Int → List Int → Bool
  | x :: xs, y :: ys => if y < x then false else fitL xs ys
  | _, _ => true
def fits (a b : List (List Int)) (n : Int) : Bool := fitL (orbV a n) (orbV b n) && (decide (0 < (orbV a n).length) && decide (0 < (orbV b n).length))
theorem fitL_step {xs ys : List Int} {k : Nat} {x y : Int} {R : Bool} (hx : xs[k]? = some x) (hy : ys[k]? = some y) (h : fitL (xs.drop k) (ys.drop k) = R) : (y < x → R = false) ∧ (¬ y < x → fitL (xs.drop (k + 1)) (ys.drop (k + 1)) = R) := by
  rw [drop_of_get hx, drop_of_get hy] at h
  simp only [fitL] at h
  constructor
  · intro e; rw [if_pos e] at h; exact h.symm
  · intro e; rw [if_neg e] at h; exact h
theorem fitL_end {xs ys : List Int} {k : Nat} {R : Bool} (hk : xs.length ≤ k ∨ ys.length ≤ k) (h : fitL (xs.drop k) (ys.drop k) = R) : R = true := by
  rcases hk with hk | hk
  · rw [drop_all xs k hk] at h; simpa [fitL] using h.symm
  · rw [drop_all ys k hk] at h
    cases hx : xs.drop k <;> rw [hx] at h <;> simpa [fitL] using h.symm
def fgI : Nat → List Int → List Int → Int
  | k, x :: xs, y :: ys => if y < x then (k : Int) else fgI (k + 1) xs ys
  | _, _, _ => -1
theorem fgI_neg : ∀ (xs ys : List Int) (k : Nat), decide (fgI k xs ys < 0) = fitL xs ys
  | [], ys, k => by cases ys <;> rfl
  | x :: xs, [], k => rfl
  | x :: xs, y :: ys, k => by
    unfold fgI fitL
    split
    · have : ¬ ((k : Int) < 0) := by omega
      simp [this]
    · exact fgI_neg xs ys (k + 1)
theorem fgI_step {xs ys : List Int} {k : Nat} {x y R : Int} (hx : xs[k]? = some x) (hy : ys[k]? = some y) (h : fgI k (xs.drop k) (ys.drop k) = R) : (y < x → R = (k : Int)) ∧ (¬ y < x → fgI (k + 1) (xs.drop (k + 1)) (ys.drop (k + 1)) = R) := by
  rw [drop_of_get hx, drop_of_get hy] at h
  simp only [fgI] at h
  constructor
  · intro e; rw [if_pos e] at h; exact h.symm
  · intro e; rw [if_neg e] at h; exact h
theorem fgI_end {xs ys : List Int} {k : Nat} {R : Int} (hk : xs.length ≤ k) (h : fgI k (xs.drop k) (ys.drop k) = R) : R = -1 := by
  rw [drop_all xs k hk] at h
  simpa [fgI] using h.symm
end Go.Proofs.YtbjoblgklcilpaaGreatDoor
