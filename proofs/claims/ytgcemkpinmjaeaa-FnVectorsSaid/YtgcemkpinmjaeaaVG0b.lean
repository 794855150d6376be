/- Parts of the proof of a law, joined: Draw1 TxtT Draw2 WordT SSplB SFormat SRead1 RowAt SIsMatrix SParse SL4Zero L26Fits SVectorSum IsVec Mn Greatest GreatV Least SSumOf SIsGraph L26Row L1Min Arcs Blk ArcPush RunFits RunLab LabT MatT RunMatT SBefore OrbT SL4One. -/
import Derived.Test.YtgcemkpinmjaeaaProg
import Derived.Lib.ItoaLen
import Derived.Laws.BytesString
import Derived.Laws.Cells
import Derived.Lib.AppendStr
import Derived.Lib.Join
import Derived.Test.YtgcemkpinmjaeaaVG0a
namespace Go.Proofs.Ytgcemkpinmjaeaa
open Go.RowKit
set_option linter.all false
theorem heap_new (w : World) (o : Obj) : (w.alloc o).heap[w.heap.size]? = some o := by
  show (w.heap.push o)[w.heap.size]? = some o
  simp
theorem cur_new {w : World} {ao : Option Addr} {n c : Nat} {y : Int} {e : Ending} (h : Bytes w ao n) (he : e = .returned (.pointer (some ⟨w.heap.size, 0, none⟩))) :
    e = .returned (.pointer (some ⟨w.heap.size, 0, none⟩)) ∧ Cur (w.alloc (.cells #[.slice ao n c, .int .i64 0, .int .i64 y] 138)) w.heap.size w.heap.size ∧ Below w.heap.size w (w.alloc (.cells #[.slice ao n c, .int .i64 0, .int .i64 y] 138)) := by
  have hb := (Below.refl w.heap.size w).alloc (Nat.le_refl _) (.cells #[.slice ao n c, .int .i64 0, .int .i64 y] 138)
  refine ⟨he, ⟨Nat.le_refl _, ao, n, c, 0, y, heap_new _ _, Nat.zero_le _, h.1, fun i hi => ?_⟩, hb⟩
  obtain ⟨b, o, x, e, hc, hx⟩ := h.2 i hi
  have hl := World.block_lt_of_cell? w _ hc
  exact ⟨b, o, x, e, hl, (hb.cell (p := ⟨b, o + i, none⟩) hl).trans hc, hx⟩
set_option maxHeartbeats 1600000 in
theorem l1New_any (ao : Option Addr) (n c : Nat) (w : World) (h : Bytes w ao n) :
    Calls Try.prog 90 #[.slice ao n c] w fun e w' => e = .returned (.pointer (some ⟨w.heap.size, 0, none⟩)) ∧ Cur w' w.heap.size w.heap.size ∧ Below w.heap.size w w' := by
  have hm := h.1
  have H := Lib.hid h
  clear h
  go_enter Try.func90, Try.ntmps90
  go_wp2_with fail
  go_loop [3, 4] (fun vh x => ∃ (k : Nat) (y : Int), k ≤ n ∧ x = .int .i64 k ∧ vh = .int .i64 y) (fun _ x => n - (intOf x).toNat)
  case atStart => exact ⟨0, _, Nat.zero_le _, rfl, rfl⟩
  case round =>
    obtain ⟨k, y, hk, rfl, rfl⟩ := hrel
    by_cases hlt : k < n
    · by_cases h4 : (k : Int) < 4000
      · have hd : decide ((k : Int) < 4000) = true := by simpa using h4
        obtain ⟨b, o, x, rfl, hc, hx0, hx1⟩ := H.out.2 k hlt
        clear h4
        go_wp2_with fail
        go_round
        case rel => exact ⟨k + 1, _, hlt, by go_num, rfl⟩
        case measure => simp [intOf]; omega
      · have hd : decide ((k : Int) < 4000) = false := by simpa using h4
        clear h4
        go_wp2_with fail
        go_ret
        exact cur_new H.out rfl
    · go_wp2_with fail
      go_ret
      exact cur_new H.out rfl
theorem grown_setdrew {w w' : World} {row : Option Nat} {p : Addr} {u : Value} (h : w.grownBy (w'.setCell p u) row) (n : Nat) : w.grownBy ((w'.drewN n).setCell p u) row := ⟨h.os, h.tape, h.output, h.size, h.block⟩
theorem byte_fin {n : Int} {e : Ending} {w w' : World} {c lo : Nat} (hc : Cur w' c lo) (hg : w.grownBy w' (some c)) (he : e = .returned (.int .i64 (bits .and .i64 n 255))) :
    ∃ x : Nat, x ≤ 255 ∧ e = .returned (.int .i64 x) ∧ Cur w' c lo ∧ w.grownBy w' (some c) := by
  have h := and255 n
  refine ⟨(bits .and .i64 n 255).toNat, by omega, ?_, hc, hg⟩
  rw [he]
  congr 2
  omega
set_option maxHeartbeats 3200000 in
theorem l1Byte_any (b lo : Nat) (w : World) (h : Cur w b lo) :
    Calls Try.prog 157 #[.pointer (some ⟨b, 0, none⟩)] w fun e w' => ∃ x : Nat, x ≤ 255 ∧ e = .returned (.int .i64 x) ∧ Cur w' b lo ∧ w.grownBy w' (some b) := by
  obtain ⟨h1, ao, n, c, k, y, hh, h2, h3, h4⟩ := h
  have hc0 := (heap_cells hh 0).1
  have hc1 := (heap_cells hh 1).1
  have hc2 := (heap_cells hh 2).1
  have hf1 := (heap_cells hh 1).2
  have hf2 := (heap_cells hh 2).2
  simp only [List.getElem?_toArray, List.getElem?_cons_zero, List.getElem?_cons_succ] at hc0 hc1 hc2
  have HW := Lib.hid (Cur.wrote h1 hh h2 h3 h4 2 (.int .i64 (wrap64 (wrap64 (y * 6364136223846793005) + 1442695040888963407))))
  have H4 := Lib.hid h4
  have HH := Lib.hid hh
  clear hh h4
  by_cases hk : (k : Int) < (n : Int)
  · have hd : decide ((k : Int) < (n : Int)) = true := by simpa using hk
    have hkn : k < n := by omega
    go_enter Try.func157, Try.ntmps157
    go_wp2_with fail
    generalize w.setCell ⟨b, 2, none⟩ (.int .i64 (wrap64 (wrap64 (y * 6364136223846793005) + 1442695040888963407))) = W1 at HW ⊢
    generalize wrap64 (wrap64 (y * 6364136223846793005) + 1442695040888963407) = y1 at HW ⊢
    clear hc0 hc1 hc2 hf1 hf2 H4 HH
    obtain ⟨hh, h4, hg⟩ := HW.out
    simp only [List.setIfInBounds_toArray, List.set_cons_succ, List.set_cons_zero] at hh
    have hc0 := (heap_cells hh 0).1
    have hc1 := (heap_cells hh 1).1
    have hc2 := (heap_cells hh 2).1
    have hf1 := (heap_cells hh 1).2
    simp only [List.getElem?_toArray, List.getElem?_cons_zero, List.getElem?_cons_succ] at hc0 hc1 hc2
    have HW2 := Lib.hid (Cur.wrote h1 hh h2 h3 h4 1 (.int .i64 ((k : Int) + 1)))
    have HG := Lib.hid hg
    obtain ⟨q, o, x, rfl, hq, hcx, hx0, hx1⟩ := h4 k hkn
    clear hh h4 hg HW
    go_quiet (fail)
    go_wp2_with fail
    go_quiet (fail)
    go_wp2_with fail
    go_quiet (fail)
    go_wp2_with fail
    go_ret
    refine byte_fin (c := b) (w := w) ?_ ?_ rfl
    · exact (Cur.drewN ⟨h1, _, n, c, k + 1, y1, HW2.out.1, hkn, h3, HW2.out.2.1⟩ 3)
    · exact grown_setdrew (HG.out.trans HW2.out.2.2) _
  · have hd : decide ((k : Int) < (n : Int)) = false := by simpa using hk
    go_enter Try.func157, Try.ntmps157
    go_wp2_with fail
    generalize w.setCell ⟨b, 2, none⟩ (.int .i64 (wrap64 (wrap64 (y * 6364136223846793005) + 1442695040888963407))) = W1 at HW ⊢
    generalize wrap64 (wrap64 (y * 6364136223846793005) + 1442695040888963407) = y1 at HW ⊢
    clear hc0 hc1 hc2 hf1 hf2 H4 HH
    obtain ⟨hh, h4, hg⟩ := HW.out
    simp only [List.setIfInBounds_toArray, List.set_cons_succ, List.set_cons_zero] at hh
    have hc0 := (heap_cells hh 0).1
    have hc1 := (heap_cells hh 1).1
    have hc2 := (heap_cells hh 2).1
    simp only [List.getElem?_toArray, List.getElem?_cons_zero, List.getElem?_cons_succ] at hc0 hc1 hc2
    have HCu : Hid (Cur W1 b lo) := ⟨h1, ao, n, c, k, y1, hh, h2, h3, h4⟩
    have HG := Lib.hid hg
    clear hh h4 hg HW
    go_quiet (fail)
    go_wp2_with fail
    go_quiet (fail)
    go_wp2_with fail
    go_ret
    refine byte_fin (c := b) (w := w) ?_ ?_ rfl
    · exact HCu.out
    · exact grown_drewN (grown_drewN HG.out _) _
set_option maxHeartbeats 1600000 in
theorem l1Below_any (b lo n : Nat) (w : World) (h : Cur w b lo) (hn : 1 ≤ n) (hm : n ≤ 256) :
    Calls Try.prog 92 #[.pointer (some ⟨b, 0, none⟩), .int .i64 n] w fun e w' => ∃ x : Nat, x < n ∧ e = .returned (.int .i64 x) ∧ Cur w' b lo ∧ w.grownBy w' (some b) := by
  have H := Lib.hid h
  clear h
  have hd1 : decide ((n : Int) ≤ 0) = false := by simp; omega
  have hd2 : decide ((n : Int) ≤ 256) = true := by simp; omega
  go_enter Try.func92, Try.ntmps92
  go_wp2_with (go_at_call 157; refine (l1Byte_any b lo _ H.out).mono ?_; rintro e w1 ⟨x, hx, rfl, hc1, hg1⟩; have Hc1 := Lib.hid hc1; have Hg1 := Lib.hid hg1; clear hc1 hg1)
  go_ret
  exact ⟨x % n, Nat.mod_lt _ (by omega), ret_int (by simp), Hc1.out, Hg1.out⟩
set_option maxHeartbeats 800000 in
theorem l1Once_any (b lo n : Nat) (w : World) (h : Cur w b lo) (hn : 1 ≤ n) (hm : n ≤ 256) :
    Calls Try.prog 94 #[.pointer (some ⟨b, 0, none⟩), .int .i64 n] w fun e w' => ∃ t : Bool, e = .returned (.bool t) ∧ Cur w' b lo ∧ w.grownBy w' (some b) := by
  have H := Lib.hid h
  clear h
  go_enter Try.func94, Try.ntmps94
  go_wp2_with (go_at_call 92; refine (l1Below_any b lo n _ H.out hn hm).mono ?_; rintro e w1 ⟨x, hx, rfl, hc1, hg1⟩; have Hc1 := Lib.hid hc1; have Hg1 := Lib.hid hg1; clear hc1 hg1)
  go_ret
  exact ⟨_, rfl, Hc1.out, Hg1.out⟩
set_option maxHeartbeats 1600000 in
theorem l1PickInt_any (b lo lo' n cap : Nat) (ao : Option Addr) (xs : List Int) (w : World) (h : Cur w b lo) (ho : OInts w lo' (.slice ao n cap) n xs) (hb : b < lo') (hn : 1 ≤ n) (hm : n ≤ 256) :
    Calls Try.prog 111 #[.pointer (some ⟨b, 0, none⟩), .slice ao n cap] w fun e w' => ∃ x ∈ xs, e = .returned (.int .i64 x) ∧ Cur w' b lo ∧ w.grownBy w' (some b) := by
  have H := Lib.hid h
  have HO := Lib.hid ho
  clear h ho
  go_enter Try.func111, Try.ntmps111
  go_wp2_with (go_at_call 92; refine (l1Below_any b lo n _ H.out hn hm).mono ?_; rintro e w1 ⟨x, hx, rfl, hc1, hg1⟩; obtain ⟨q, o, y, rfl, hcy, hgy⟩ := ((HO.out.away hg1 hb).read).at_ hx; have Hc1 := Lib.hid hc1; have Hg1 := Lib.hid hg1; clear hc1 hg1)
  go_ret
  exact ⟨_, List.mem_of_getElem? hgy.out, rfl, Hc1.out, Hg1.out⟩
end Go.Proofs.Ytgcemkpinmjaeaa

namespace Go.Proofs.Ytgcemkpinmjaeaa
open Go.RowKit
set_option linter.all false
/- The decimal digits of a number, as both programs and the laws' marks write them. -/
def decB (u : Nat) : ByteArray := ⟨(Lib.decDigits u).toArray⟩
def dg (x : Nat) : List UInt8 := if x = 0 then [] else Lib.decDigits x
theorem dg_zero : dg 0 = [] := rfl
theorem dg_pos {x : Nat} (h : 0 < x) : dg x = Lib.decDigits x := by simp [dg]; omega
theorem ofNat48 (k : Nat) : UInt8.ofNat (48 + k) = 48 + UInt8.ofNat k := by rw [UInt8.ofNat_add]; rfl
theorem belowA (w : World) (o : Obj) : Below w.heap.size w (w.alloc o) := (Below.refl _ _).alloc (Nat.le_refl _) o
theorem dg_step {x : Nat} (h : 0 < x) : dg x = dg (x / 10) ++ [48 + UInt8.ofNat (x % 10)] := by
  rw [← ofNat48]
  rw [dg_pos h, Lib.decDigits]
  by_cases h10 : x < 10
  · rw [dif_pos h10, show x / 10 = 0 by omega, dg_zero, show x % 10 = x by omega]; rfl
  · rw [dif_neg h10, dg_pos (by omega)]
theorem dec_len {u : Nat} (h : u < 18446744073709551616) : (Lib.decDigits u).length ≤ 20 := by
  rw [Lib.decDigits_length]; exact Lib.nDigits_le20 u h
theorem decB_size {u : Nat} (h : u < 18446744073709551616) : (decB u).size ≤ 20 := by
  have := dec_len h
  simpa [decB, ByteArray.size] using this
def catB (b : UInt8) (o : ByteArray) : ByteArray := (⟨#[b]⟩ : ByteArray) ++ o
theorem catB_list (b : UInt8) (o : ByteArray) : (catB b o).data.toList = b :: o.data.toList := by simp [catB]
theorem catB_size (b : UInt8) (o : ByteArray) : (catB b o).size = o.size + 1 := by
  have h := congrArg List.length (catB_list b o)
  simp at h
  exact h
theorem dig_next {x : Nat} {o : ByteArray} {R : List UInt8} (hx : 0 < x) (h : dg x ++ o.data.toList = R) : dg (x / 10) ++ (catB (48 + UInt8.ofNat (x % 10)) o).data.toList = R := by
  rw [dg_step hx] at h
  rw [catB_list, ← h]
  simp
theorem dig_done {o : ByteArray} {u : Nat} (hu : 0 < u) (h : dg 0 ++ o.data.toList = dg u) : o = decB u := by
  rw [dg_zero, dg_pos hu] at h
  apply ByteArray.ext
  apply Array.ext'
  simpa [decB] using h
theorem dig_size {x u : Nat} {o : ByteArray} (hu : u < 18446744073709551616) (h : dg x ++ o.data.toList = dg u) : o.size ≤ 20 := by
  have h2 := congrArg List.length h
  have h3 : (dg u).length ≤ 20 := by
    by_cases h0 : u = 0
    · rw [h0, dg_zero]; exact Nat.zero_le _
    · rw [dg_pos (by omega)]; exact dec_len hu
  simp only [List.length_append] at h2
  have h4 : o.data.toList.length = o.size := Array.length_toList
  omega
/-- One byte made a string. -/
theorem conv_one (w : World) (z : Int) (t : TypeId) : (convert 34 9 (.slice (some ⟨w.heap.size, 0, none⟩) 1 1)).run Try.prog (w.alloc (.cells #[.int .u8 z] t)) = .ok (.string ⟨#[UInt8.ofNat z.toNat]⟩) (w.alloc (.cells #[.int .u8 z] t)) := by
  rw [run_convert_bytes_string _ 34 9 5 _ _ _ Try.underlying34 Try.underlying5 Try.underlying9]
  have hc := run_loadCells_list (P := Try.prog) (w.alloc (.cells #[.int .u8 z] t)) ⟨w.heap.size, 0, none⟩ (([z] : List Int).map (Value.int .u8)) (by
    intro j u hu
    match j, hu with
    | 0, hu =>
      simp at hu
      subst hu
      exact World.cell?_alloc_new _ _ _ _)
  rw [run_bytesToString _ ⟨w.heap.size, 0, none⟩ 1 1 [z] hc]
  rfl
theorem ret_text {a b : ByteArray} (h : a = b) : Ending.returned (.string a) = .returned (.string b) := by rw [h]
end Go.Proofs.Ytgcemkpinmjaeaa

namespace Go.Proofs.Ytgcemkpinmjaeaa
open Go.RowKit
set_option linter.all false
/- Words for memory: a slice of strings. -/
theorem info_str : (Try.prog.info? 9).map (fun i => (i.zero, i.size, i.bytes)) = some (some (.string ⟨#[]⟩), 1, 16) := by kernel_rfl
def Strs (w : World) (ao : Option Addr) (n : Nat) (ss : List ByteArray) : Prop :=
  ss.length = n ∧ n ≤ 1099511627776 ∧ ∀ i s, ss[i]? = some s → ∃ b o, ao = some ⟨b, o, none⟩ ∧ w.cell? ⟨b, o + i, none⟩ = some (.string s)
theorem Strs.keep {w w' : World} {ao : Option Addr} {n : Nat} {ss : List ByteArray} (h : Strs w ao n ss) (hb : Below w.heap.size w w') : Strs w' ao n ss := by
  refine ⟨h.1, h.2.1, fun i s hi => ?_⟩
  obtain ⟨b, o, e, hc⟩ := h.2.2 i s hi
  exact ⟨b, o, e, (hb.cell (p := ⟨b, o + i, none⟩) (World.block_lt_of_cell? w _ hc)).trans hc⟩
theorem Strs.drewN {w : World} {ao : Option Addr} {n : Nat} {ss : List ByteArray} (h : Strs w ao n ss) (k : Nat) : Strs (w.drewN k) ao n ss := h
theorem Strs.at_ {w : World} {ao : Option Addr} {n k : Nat} {ss : List ByteArray} (h : Strs w ao n ss) (hk : k < n) :
    ∃ b o s, ao = some ⟨b, o, none⟩ ∧ w.cell? ⟨b, o + k, none⟩ = some (.string s) ∧ Hid (ss[k]? = some s) := by
  have hl : k < ss.length := by rw [h.1]; exact hk
  obtain ⟨b, o, e, hc⟩ := h.2.2 k _ (List.getElem?_eq_getElem hl)
  exact ⟨b, o, _, e, hc, List.getElem?_eq_getElem hl⟩
def OStrs (w : World) (lo : Nat) (v : Value) (n : Nat) (ss : List ByteArray) : Prop := n ≤ 1099511627776 ∧ w.ownsRow lo 9 1 v n (ss.map Value.string)
section
variable {w w' : World} {lo n : Nat} {v : Value} {ss : List ByteArray}
theorem OStrs.len (h : OStrs w lo v n ss) : ss.length = n := by simpa using h.2.1
theorem OStrs.keep (h : OStrs w lo v n ss) (hb : Below w.heap.size w w') : OStrs w' lo v n ss := ⟨h.1, own_keep h.2 hb⟩
theorem OStrs.grown {row : Option Nat} (h : OStrs w lo v n ss) (hg : w.grownBy w' row) (hne : v.ownBlock = none ∨ v.ownBlock ≠ row) : OStrs w' lo v n ss := ⟨h.1, h.2.kept hg hne⟩
theorem OStrs.alloc (h : OStrs w lo v n ss) (o : Obj) : OStrs (w.alloc o) lo v n ss := ⟨h.1, h.2.alloc o⟩
theorem OStrs.drewN (h : OStrs w lo v n ss) (k : Nat) : OStrs (w.drewN k) lo v n ss := h
theorem OStrs.ownlt (h : OStrs w lo v n ss) : ∀ k, v.ownBlock = some k → lo ≤ k ∧ k < w.heap.size := h.2.lt
theorem OStrs.mono {lo' : Nat} (h : OStrs w lo v n ss) (hl : lo' ≤ lo) : OStrs w lo' v n ss := by
  refine ⟨h.1, h.2.1, ?_⟩
  rcases h.2.2 with h2 | ⟨g, cap, cur, hv, hg, r⟩
  · exact .inl h2
  · exact .inr ⟨g, cap, cur, hv, Nat.le_trans hl hg, r⟩
theorem OStrs.form (h : OStrs w lo v n ss) : ∃ ao cap, v = .slice ao n cap ∧ Strs w ao n ss := by
  have hl := h.len
  rcases h.2.2 with ⟨rfl, rfl⟩ | ⟨g, cap, cur, rfl, hg, hh, hnc, _, _, ht⟩
  · exact ⟨none, 0, rfl, hl, h.1, fun i s hi => by rw [List.eq_nil_of_length_eq_zero hl] at hi; simp at hi⟩
  · refine ⟨some ⟨g, 0, none⟩, cap, rfl, hl, h.1, fun i s hi => ⟨g, 0, rfl, ?_⟩⟩
    have hc := h.2.cells (g := g) rfl i (.string s) (by simp [hi])
    rw [Addr.add_lit] at hc
    simpa using hc
theorem OStrs.capLe {m cap : Nat} {ao : Option Addr} (h : OStrs w lo v n ss) (e : v = .slice ao m cap) : n ≤ cap := by
  rcases h.2.2 with ⟨rfl, rfl⟩ | ⟨g, c, cur, rfl, _, _, hnc, _⟩
  · exact Nat.zero_le _
  · injection e with _ _ e3
    omega
theorem OStrs.head (h : OStrs w lo v n ss) (hn : 0 < n) : ∃ g cap, v = .slice (some ⟨g, 0, none⟩) n cap := by
  rcases h.2.2 with ⟨_, h0⟩ | ⟨g, cap, cur, e, _⟩
  · omega
  · exact ⟨g, cap, e⟩
theorem OStrs.none_ (w : World) (lo : Nat) : OStrs w lo (.slice none 0 0) 0 [] := ⟨by omega, by simp, .inl ⟨rfl, rfl⟩⟩
theorem OStrs.empty (w : World) (lo : Nat) (hlo : lo ≤ w.heap.size) : OStrs (w.alloc (.cells #[] 9)) lo (.slice (some ⟨w.heap.size, 0, none⟩) 0 0) 0 [] :=
  ⟨by omega, World.ownsRow_made (base := lo) (e := 9) (size := 1) w #[] 0 hlo (by unfold maxLen; omega) rfl⟩
end
section
variable {w w' : World} {lo g n cap : Nat} {ss : List ByteArray}
theorem OStrs.read {ao : Option Addr} (h : OStrs w lo (.slice ao n cap) n ss) : Strs w ao n ss := by
  obtain ⟨ao', cap', e, hi⟩ := h.form
  injection e with e1
  subst e1
  exact hi
theorem OStrs.two {ao : Option Addr} (h : OStrs w lo (.slice ao n cap) n ss) : (ao = none ∧ n = 0) ∨ ∃ g, ao = some ⟨g, 0, none⟩ := by
  rcases h.2.2 with ⟨e, hn⟩ | ⟨g, c, cur, e, _⟩
  · injection e with e1
    exact .inl ⟨e1, hn⟩
  · injection e with e1
    exact .inr ⟨g, e1⟩
theorem OStrs.lt (h : OStrs w lo (.slice (some ⟨g, 0, none⟩) n cap) n ss) : lo ≤ g ∧ g < w.heap.size := h.2.lt g rfl
theorem OStrs.frozen (h : OStrs w lo (.slice (some ⟨g, 0, none⟩) n cap) n ss) (k : Nat) : w.frozen? ⟨g, k, none⟩ = false := h.2.frozenAt k
theorem OStrs.cell (h : OStrs w lo (.slice (some ⟨g, 0, none⟩) n cap) n ss) {k : Nat} {s : ByteArray} (hk : ss[k]? = some s) : w.cell? ⟨g, k, none⟩ = some (.string s) := by
  obtain ⟨b, o, e, hc⟩ := h.read.2.2 k s hk
  injection e with e
  injection e with e1 e2
  subst e1
  subst e2
  simpa using hc
theorem OStrs.set (h : OStrs w lo (.slice (some ⟨g, 0, none⟩) n cap) n ss) (k : Nat) (s : ByteArray) : OStrs (w.setCell ⟨g, k, none⟩ (.string s)) lo (.slice (some ⟨g, 0, none⟩) n cap) n (ss.set k s) := by
  refine ⟨h.1, ?_⟩
  rw [List.map_set]
  exact (h.2.stored k _).1
end
theorem wp_push_str {o : Oper} {a : Act} {K0 : Act → World → Prop} {Q : Exit → Act → World → Prop} (W : World) (y : ByteArray) (s x : Operand)
    (ho : o.op = .call { callee := .builtin .append, args := #[s, x], argTypes := #[22, 22] })
    (lo : Nat) (v : Value) (n : Nat) (xs : List ByteArray) (hs : a.eval s = v) (h : OStrs W lo v n xs) (hn : n + 1 ≤ 1099511627776) (hlo : lo ≤ W.heap.size)
    (tb : Nat) (htb : tb = W.heap.size) (hx : a.eval x = .slice (some ⟨tb, 0, none⟩) 1 1)
    (K : ∀ v' w', OStrs w' lo v' (n + 1) (xs ++ [y]) → Below lo W w' → K0 (a.put o.dst v') w') : o.wp Try.prog a (W.alloc (.cells #[.string y] 9)) K0 Q := by
  subst htb
  obtain ⟨i0, hi, hz0, hz1, hz2⟩ := info_parts info_str
  refine wp_append_own _ s x 22 ho lo 9 i0 (.string ⟨#[]⟩) 1 16 Try.underlying22 hi hz0 hz1 hz2 rfl (by decide) v n _ hs (h.alloc _).2 ⟨W.heap.size, 0, none⟩ 1 1 [.string y] hx rfl ?_ ?_ ?_ ?_ (by simp; omega) ?_
  · intro j u' hj
    match j, hj with
    | 0, hj =>
      simp at hj
      subst hj
      exact World.cell?_alloc_new _ _ _ _
  · intro u' hu'
    simp at hu'
    subst hu'
    rfl
  · unfold maxLen; omega
  · omega
  · intro v' w' hown hgrow _
    refine K v' w' ⟨hn, ?_⟩ (((Below.refl lo W).alloc hlo _).grown hgrow (by simp; omega) (fun k hk => (h.ownlt k hk).1))
    rw [List.map_append]
    exact hown
theorem wpList_push_str {ops : Array Oper} {rest : List Oper} {o : Oper} {a : Act} {Q : Exit → Act → World → Prop} (W : World) (y : ByteArray) (hgd : o.guard = none) (s x : Operand)
    (ho : o.op = .call { callee := .builtin .append, args := #[s, x], argTypes := #[22, 22] })
    (lo : Nat) (v : Value) (n : Nat) (xs : List ByteArray) (hs : a.eval s = v) (h : OStrs W lo v n xs) (hn : n + 1 ≤ 1099511627776) (hlo : lo ≤ W.heap.size)
    (tb : Nat) (htb : tb = W.heap.size) (hx : a.eval x = .slice (some ⟨tb, 0, none⟩) 1 1)
    (K : ∀ v' w', OStrs w' lo v' (n + 1) (xs ++ [y]) → Below lo W w' → wpList Try.prog ops Q rest (a.put o.dst v') w') : wpList Try.prog ops Q (o :: rest) a (W.alloc (.cells #[.string y] 9)) := by
  refine wpList_plain hgd fun K' hK => ?_
  exact wp_push_str W y s x ho lo v n xs hs h hn hlo tb htb hx fun v' w' h1 h2 => hK _ _ (K v' w' h1 h2)
theorem OStrs.lit (w : World) (lo : Nat) (ss : List ByteArray) (hlo : lo ≤ w.heap.size) (hn : ss.length ≤ 1048576) : OStrs (w.alloc (.cells (ss.map Value.string).toArray 9)) lo (.slice (some ⟨w.heap.size, 0, none⟩) ss.length ss.length) ss.length ss := by
  refine ⟨by omega, ?_⟩
  have h := World.ownsRow_lit (base := lo) (e := 9) (size := 1) w (ss.map Value.string).toArray ss.length hlo (by unfold maxLen; omega) (by simp)
  simpa using h
theorem OStrs.far {w w' : World} {lo n : Nat} {u v : Value} {ss : List ByteArray} (h : OStrs w lo u n ss) (hg : w.grownBy w' v.ownBlock) (ha : Apart u v) : OStrs w' lo u n ss := h.grown hg ha.ne
theorem wpList_push_strAt {ops : Array Oper} {rest : List Oper} {o : Oper} {a : Act} {Q : Exit → Act → World → Prop} (W : World) (y : ByteArray) (hgd : o.guard = none) (s x : Operand)
    (ho : o.op = .call { callee := .builtin .append, args := #[s, x], argTypes := #[22, 22] })
    (lo : Nat) (v : Value) (n : Nat) (xs : List ByteArray) (hs : a.eval s = v) (h : OStrs W lo v n xs) (hn : n + 1 ≤ 1099511627776) (hlo : lo ≤ W.heap.size)
    (tb : Nat) (htb : tb = W.heap.size) (hx : a.eval x = .slice (some ⟨tb, 0, none⟩) 1 1)
    (K : ∀ v' w', OStrs w' lo v' (n + 1) (xs ++ [y]) → W.grownBy w' v.ownBlock → NewOr W.heap.size v v' → wpList Try.prog ops Q rest (a.put o.dst v') w') : wpList Try.prog ops Q (o :: rest) a (W.alloc (.cells #[.string y] 9)) := by
  refine wpList_plain hgd fun K' hK => ?_
  subst htb
  obtain ⟨i0, hi, hz0, hz1, hz2⟩ := info_parts info_str
  obtain ⟨v', w', hr, h2, h3, _, h5⟩ := run_append_own_at (P := Try.prog) (W.alloc (.cells #[.string y] 9)) lo 22 o.type 9 i0 (.string ⟨#[]⟩) 1 16 Try.underlying22 hi hz0 hz1 hz2 rfl (by decide) v n _ (h.alloc _).2 ⟨W.heap.size, 0, none⟩ 1 1 [.string y] rfl
    (by
      intro j u' hj
      match j, hj with
      | 0, hj =>
        simp at hj
        subst hj
        exact World.cell?_alloc_new _ _ _ _) (by intro u hu; simp at hu; subst hu; rfl) (by unfold maxLen; omega) (by omega) (by simp; omega)
  unfold Oper.wp execOp
  simp only [ho, resolve, invoke, builtin, Sem.run_bind, Sem.run_pure, Result.andThen_ok, List.map_toArray, List.map_cons, List.map_nil, hs, hx, hr]
  refine hK _ _ (K v' w' ⟨hn, ?_⟩ ((grown_alloc W _ _).trans h3) ?_)
  · rw [List.map_append]; exact h2
  · rcases h5 with h5 | h5
    · exact .inl h5
    · exact .inr ⟨_, h5, by simp⟩
end Go.Proofs.Ytgcemkpinmjaeaa

namespace Go.Proofs.Ytgcemkpinmjaeaa
open Go.RowKit
set_option linter.all false
def u8C (B : List UInt8) : List Value := B.map fun b => Value.int .u8 (b.toNat : Int)
def OB (w : World) (lo : Nat) (v : Value) (B : List UInt8) : Prop := B.length ≤ 1099511627776 ∧ w.ownsRow lo 5 1 v B.length (u8C B)
theorem info_u8 : (Try.prog.info? 5).map (fun i => (i.zero, i.size, i.bytes)) = some (some (.int .u8 0), 1, 1) := by kernel_rfl
section
variable {w w' : World} {lo : Nat} {v : Value} {B : List UInt8}
theorem OB.keep (h : OB w lo v B) (hb : Below w.heap.size w w') : OB w' lo v B := ⟨h.1, own_keep h.2 hb⟩
theorem OB.alloc (h : OB w lo v B) (o : Obj) : OB (w.alloc o) lo v B := ⟨h.1, h.2.alloc o⟩
theorem OB.ownlt (h : OB w lo v B) : ∀ k, v.ownBlock = some k → lo ≤ k ∧ k < w.heap.size := h.2.lt
theorem OB.form (h : OB w lo v B) : ∃ ao cap, v = .slice ao B.length cap := by
  rcases h.2.2 with ⟨rfl, h0⟩ | ⟨g, cap, cur, rfl, _⟩
  · exact ⟨none, 0, by rw [h0]⟩
  · exact ⟨some ⟨g, 0, none⟩, cap, rfl⟩
theorem OB.empty (w : World) (lo : Nat) (hlo : lo ≤ w.heap.size) : OB (w.alloc (.cells #[] 5)) lo (.slice (some ⟨w.heap.size, 0, none⟩) 0 0) [] :=
  ⟨Nat.zero_le _, World.ownsRow_made (base := lo) (e := 5) (size := 1) w #[] 0 hlo (by unfold maxLen; omega) rfl⟩
end
theorem u8C_app (A B : List UInt8) : u8C (A ++ B) = u8C A ++ u8C B := by simp [u8C]
theorem u8C_str (s : ByteArray) : u8C s.data.toList = Lib.strCells s := rfl
theorem fold_u8 : ∀ (B : List UInt8) (s : ByteArray), (B.map fun b => (b.toNat : Int)).foldl (fun r n => r.push (UInt8.ofNat n.toNat)) s = ⟨s.data ++ B.toArray⟩
  | [], s => by simp
  | b :: r, s => by
    rw [List.map_cons, List.foldl_cons, fold_u8 r]
    simp [ByteArray.push]
theorem conv_u8 (w : World) (lo : Nat) (v : Value) (B : List UInt8) (h : OB w lo v B) : (convert 34 9 v).run Try.prog w = .ok (.string ⟨B.toArray⟩) w := by
  rcases h.2.2 with ⟨rfl, h0⟩ | ⟨g, cap, cur, rfl, _⟩
  · have e : B = [] := List.eq_nil_of_length_eq_zero h0
    subst e
    rw [run_convert_bytes_string w 34 9 5 _ _ _ Try.underlying34 Try.underlying5 Try.underlying9]
    simp [Conv.bytesToString]
    rfl
  · rw [run_convert_bytes_string w 34 9 5 _ _ _ Try.underlying34 Try.underlying5 Try.underlying9]
    have e : u8C B = (B.map fun b => (b.toNat : Int)).map (Value.int .u8) := by simp [u8C]
    have hc := run_loadCells_list (P := Try.prog) w ⟨g, 0, none⟩ ((B.map fun b => (b.toNat : Int)).map (Value.int .u8)) (fun j u hu => h.2.cells (g := g) rfl j u (by rw [e]; exact hu))
    rw [List.length_map, List.length_map] at hc
    rw [run_bytesToString w ⟨g, 0, none⟩ B.length cap (B.map fun b => (b.toNat : Int)) hc, fold_u8]
    simp [ByteArray.empty, ByteArray.emptyWithCapacity]
    rfl
/-- Pieces joined. -/
def joinB (ss : List ByteArray) (sep : ByteArray) : ByteArray := ⟨(Lib.join (ss.map (·.data.toList)) sep.data.toList).toArray⟩
def toCome (sep : ByteArray) (k : Nat) (ss : List ByteArray) : List UInt8 :=
  if k = 0 then Lib.join (ss.map (·.data.toList)) sep.data.toList else Lib.joinTail sep.data.toList (ss.map (·.data.toList))
theorem toCome_first {sep s : ByteArray} {ss : List ByteArray} {R : List UInt8} (hs : ss[0]? = some s) (h : [] ++ toCome sep 0 (ss.drop 0) = R) : ([] ++ s.data.toList) ++ toCome sep 1 (ss.drop 1) = R := by
  rw [← h, drop_of_get hs]
  simp [toCome, Lib.join_cons]
theorem toCome_next {sep s : ByteArray} {k : Nat} {ss : List ByteArray} {B R : List UInt8} (hk : 0 < k) (hs : ss[k]? = some s) (h : B ++ toCome sep k (ss.drop k) = R) : ((B ++ sep.data.toList) ++ s.data.toList) ++ toCome sep (k + 1) (ss.drop (k + 1)) = R := by
  rw [← h, drop_of_get hs]
  have h0 : k ≠ 0 := by omega
  simp [toCome, h0, Lib.joinTail]
theorem toCome_end {sep : ByteArray} {k : Nat} {ss : List ByteArray} {B R : List UInt8} (hk : ss.length ≤ k) (h : B ++ toCome sep k (ss.drop k) = R) : B = R := by
  rw [drop_all ss k hk] at h
  rw [← h]
  unfold toCome
  split <;> simp [Lib.join, Lib.joinTail]
theorem toCome_len {sep : ByteArray} {k : Nat} {ss : List ByteArray} {B R : List UInt8} (h : B ++ toCome sep k ss = R) : B.length ≤ R.length := by rw [← h]; simp
set_option maxRecDepth 20000 in
theorem wpList_app_str {ops : Array Oper} {rest : List Oper} {o : Oper} {a : Act} {Q : Exit → Act → World → Prop} (W : World) (hgd : o.guard = none) (s x : Operand)
    (ho : o.op = .call { callee := .builtin .append, args := #[s, x], argTypes := #[34, 9] })
    (lo : Nat) (v : Value) (B : List UInt8) (hs : a.eval s = v) (h : OB W lo v B) (y : ByteArray) (hx : a.eval x = .string y) (hn : B.length + y.size ≤ 1099511627776) (hlo : lo ≤ W.heap.size)
    (K : ∀ v' w', OB w' lo v' (B ++ y.data.toList) → Below lo W w' → wpList Try.prog ops Q rest (a.put o.dst v') w') : wpList Try.prog ops Q (o :: rest) a W := by
  obtain ⟨i0, hi, hz0, hz1, hz2⟩ := info_parts info_u8
  have hyl : y.data.toList.length = y.size := Array.length_toList
  refine Lib.wpList_append_own_string W hgd s x 34 9 ho lo 5 i0 Try.underlying34 Try.underlying9 hi hz0 hz1 hz2 v B.length (u8C B) hs h.2 y hx (by unfold maxLen; omega) (by omega) hlo ?_
  intro v' w' hown hgrow _
  have e : (B ++ y.data.toList).length = B.length + y.size := by rw [List.length_append, hyl]
  refine K v' w' ⟨by rw [e]; exact hn, ?_⟩ ((Below.refl lo W).grown hgrow hlo (fun k hk => (h.ownlt k hk).1))
  rw [e, u8C_app]
  exact hown
section
variable {w w' : World} {lo g cap : Nat} {B : List UInt8}
theorem OB.num {n : Nat} (h : OB w lo (.slice (some ⟨g, 0, none⟩) n cap) B) : n = B.length := by
  rcases h.2.2 with ⟨e, _⟩ | ⟨g', c, cur, e, _⟩
  · cases e
  · injection e with _ e2 _
theorem OB.frozen {n : Nat} (h : OB w lo (.slice (some ⟨g, 0, none⟩) n cap) B) (k : Nat) : w.frozen? ⟨g, k, none⟩ = false := by
  obtain rfl := h.num
  exact h.2.frozenAt k
theorem OB.lt {n : Nat} (h : OB w lo (.slice (some ⟨g, 0, none⟩) n cap) B) : lo ≤ g ∧ g < w.heap.size := h.2.lt g rfl
theorem OB.cell {n : Nat} (h : OB w lo (.slice (some ⟨g, 0, none⟩) n cap) B) {k : Nat} {b : UInt8} (hk : B[k]? = some b) : w.cell? ⟨g, k, none⟩ = some (.int .u8 (b.toNat : Int)) := by
  have hc := h.2.cells (g := g) rfl k (.int .u8 (b.toNat : Int)) (by simp [u8C, hk])
  rw [Addr.add_lit] at hc
  simpa using hc
theorem OB.set {n : Nat} (h : OB w lo (.slice (some ⟨g, 0, none⟩) n cap) B) (k : Nat) (b : UInt8) : OB (w.setCell ⟨g, k, none⟩ (.int .u8 (b.toNat : Int))) lo (.slice (some ⟨g, 0, none⟩) n cap) (B.set k b) := by
  obtain rfl := h.num
  refine ⟨by simpa using h.1, ?_⟩
  have e : u8C (B.set k b) = (u8C B).set k (.int .u8 (b.toNat : Int)) := by unfold u8C; rw [List.map_set]
  rw [e, List.length_set]
  exact (h.2.stored k _).1
end
theorem make_bytes (n : Nat) (hn : n ≤ 1099511627776) (w : World) :
    (Instr.makeSlice 34 (.int .i64 (n : Int)) (.int .i64 (n : Int))).run Try.prog w = .ok (.slice (some ⟨w.heap.size, 0, none⟩) n n) (w.alloc (.cells (madeCells #[.int .u8 0] n) 5)) :=
  run_make_row' (P := Try.prog) 34 5 (.int .u8 0) 1 Try.underlying34 info_u8 rfl .i64 .i64 n (by omega) (by omega) w
theorem OB.made (w : World) (n : Nat) (hn : n ≤ 1099511627776) : OB (w.alloc (.cells (madeCells #[.int .u8 0] n) 5)) w.heap.size (.slice (some ⟨w.heap.size, 0, none⟩) n n) (List.replicate n 0) := by
  refine ⟨by simpa using hn, ?_⟩
  have h := World.ownsRow_lit (base := w.heap.size) (e := 5) (size := 1) w (madeCells #[.int .u8 0] n) n (Nat.le_refl _) (by unfold maxLen; omega) (by simp [madeCells])
  rw [toList_madeCells_one] at h
  rw [List.length_replicate]
  simpa [u8C] using h
end Go.Proofs.Ytgcemkpinmjaeaa

namespace Go.Proofs.Ytgcemkpinmjaeaa
open Go.RowKit
set_option linter.all false
def zt (x : Nat) : ByteArray := (⟨#[90, 47]⟩ : ByteArray) ++ decB x
def grpF : List Int → List ByteArray → ByteArray
  | [], ws => if ws.length = 0 then ⟨#[48]⟩ else joinB ws ⟨#[43]⟩
  | x :: r, ws => if x < 0 then ⟨#[]⟩ else if x = 0 then grpF r (ws ++ [⟨#[90]⟩]) else if 1 < x then grpF r (ws ++ [zt x.toNat]) else grpF r ws
def groupTxt (xs : List Int) : ByteArray := grpF xs []
theorem zt_size {x : Nat} (h : x < 18446744073709551616) : (zt x).size ≤ 22 := by
  have h1 := decB_size h
  have h2 : (zt x).size = 2 + (decB x).size := by unfold zt; rw [ByteArray.size_append]; rfl
  omega
theorem grp_step {xs : List Int} {k : Nat} {x : Int} {ws : List ByteArray} {R : ByteArray} (hx : xs[k]? = some x) (h : grpF (xs.drop k) ws = R) :
    (x < 0 → R = ⟨#[]⟩) ∧ (x = 0 → grpF (xs.drop (k + 1)) (ws ++ [⟨#[90]⟩]) = R) ∧ (1 < x → grpF (xs.drop (k + 1)) (ws ++ [zt x.toNat]) = R) ∧ (x = 1 → grpF (xs.drop (k + 1)) ws = R) := by
  rw [drop_of_get hx, grpF] at h
  refine ⟨fun e => ?_, fun e => ?_, fun e => ?_, fun e => ?_⟩
  · rw [if_pos e] at h; exact h.symm
  · rw [if_neg (by omega), if_pos e] at h; exact h
  · rw [if_neg (by omega), if_neg (by omega), if_pos e] at h; exact h
  · rw [if_neg (by omega), if_neg (by omega), if_neg (by omega)] at h; exact h
theorem grp_end {xs : List Int} {k : Nat} {ws : List ByteArray} {R : ByteArray} (hk : xs.length ≤ k) (h : grpF (xs.drop k) ws = R) : (ws.length = 0 → R = ⟨#[48]⟩) ∧ (0 < ws.length → R = joinB ws ⟨#[43]⟩) := by
  rw [drop_all xs k hk, grpF] at h
  constructor
  · intro e; rw [if_pos e] at h; exact h.symm
  · intro e; rw [if_neg (by omega)] at h; exact h.symm
theorem lens_le : ∀ (ws : List ByteArray) (m : Nat), (∀ s ∈ ws, s.size ≤ m) → Lib.lens (ws.map (·.data.toList)) ≤ m * ws.length
  | [], m, _ => by simp [Lib.lens]
  | s :: r, m, h => by
    have h1 := lens_le r m (fun x hx => h x (List.mem_cons_of_mem _ hx))
    have h2 := h s (List.mem_cons_self ..)
    have h3 : s.data.toList.length = s.size := Array.length_toList
    simp only [Lib.lens, List.map_cons, List.sum_cons, List.length_cons] at h1 ⊢
    rw [Nat.mul_succ]
    omega
theorem joinB_len (ws : List ByteArray) (sep : ByteArray) : (Lib.join (ws.map (·.data.toList)) sep.data.toList).length = (joinB ws sep).size := by simp [joinB, ByteArray.size]
theorem joinB_size {ws : List ByteArray} {sep : ByteArray} {m : Nat} (h : ∀ s ∈ ws, s.size ≤ m) : (joinB ws sep).size ≤ (m + sep.size) * ws.length := by
  have hs : sep.data.toList.length = sep.size := Array.length_toList
  have e : (joinB ws sep).size = (Lib.join (ws.map (·.data.toList)) sep.data.toList).length := by simp [joinB, ByteArray.size]
  rw [e]
  cases ws with
  | nil => simp [Lib.join]
  | cons s r =>
    rw [List.map_cons, Lib.join_length, hs, List.length_map]
    have h1 := lens_le (s :: r) m h
    rw [List.map_cons] at h1
    have h2 : (m + sep.size) * (s :: r).length = m * (s :: r).length + sep.size * (s :: r).length := Nat.add_mul ..
    have h3 : sep.size * r.length ≤ sep.size * (s :: r).length := Nat.mul_le_mul_left _ (by simp)
    omega
theorem all_push {ws : List ByteArray} {s : ByteArray} {m : Nat} (h : ∀ x ∈ ws, x.size ≤ m) (hs : s.size ≤ m) : ∀ x ∈ ws ++ [s], x.size ≤ m := by
  intro x hx
  rcases List.mem_append.1 hx with hx | hx
  · exact h x hx
  · simp at hx; subst hx; exact hs
end Go.Proofs.Ytgcemkpinmjaeaa

namespace Go.Proofs.Ytgcemkpinmjaeaa
open Go.RowKit
set_option linter.all false
theorem rows_set {T : List (List Int)} {n i : Nat} {r : List Int} (h : RowsLen T n) (hr : r.length = n) : RowsLen (T.set i r) n := by
  intro k q hk
  rw [List.getElem?_set] at hk
  split at hk
  · split at hk
    · injection hk with hk
      subst hk
      exact hr
    · cases hk
  · exact h k q hk
theorem rows_rep (n c : Nat) : RowsLen (List.replicate n (List.replicate c (0 : Int))) c := by
  intro k q hk
  have := List.mem_of_getElem? hk
  rw [List.mem_replicate] at this
  rw [this.2]; simp
theorem grown_new {w w' : World} {row : Option Nat} (h : w.grownBy w' row) {p : Addr} (hp : w.heap.size ≤ p.block) (u : Value) : w.grownBy (w'.setCell p u) row :=
  ⟨h.os, h.tape, h.output, by simpa [World.setCell] using h.size, fun k hk hne => (Below.heap_setCell w' p u k (by rintro rfl; omega)).trans (h.block k hk hne)⟩
theorem cell_grown {w w' : World} {row : Option Nat} {p : Addr} {v : Value} (hg : w.grownBy w' row) (hc : w.cell? p = some v) (hne : some p.block ≠ row) : w'.cell? p = some v := by
  have hl := World.block_lt_of_cell? w _ hc
  have := hg.block p.block hl hne
  unfold World.cell? at hc ⊢
  rw [this]
  exact hc
theorem gr_alloc {w w' : World} {b : Nat} (h : w.grownBy w' (some b)) (o : Obj) : w.grownBy (w'.alloc o) (some b) :=
  h.trans (grown_of_below ((Below.refl _ _).alloc (Nat.le_refl _) o))
set_option maxRecDepth 20000 in
set_option maxHeartbeats 3200000 in
theorem l1Pick_any (b lo g n cap : Nat) (ss : List ByteArray) (w : World) (h : Cur w b lo) (hl : ss.length = n) (hc : ∀ i s, ss[i]? = some s → w.cell? ⟨g, i, none⟩ = some (.string s)) (hb : b ≠ g) (hn : 1 ≤ n) (hm : n ≤ 256) :
    Calls Try.prog 158 #[.pointer (some ⟨b, 0, none⟩), .slice (some ⟨g, 0, none⟩) n cap] w fun e w' => ∃ s ∈ ss, e = .returned (.string s) ∧ Cur w' b lo ∧ w.grownBy w' (some b) := by
  have H := Lib.hid h
  have HC := Lib.hid hc
  have HL := Lib.hid hl
  clear h hc hl
  go_enter Try.func158, Try.ntmps158
  go_wp2_with (first
    | (go_at_call 92; refine (l1Below_any b lo n _ H.out hn hm).mono ?_; rintro e w1 ⟨x, hx, rfl, hc1, hg1⟩; obtain ⟨s, hs⟩ : ∃ s, ss[x]? = some s := ⟨_, List.getElem?_eq_getElem (by rw [HL.out]; exact hx)⟩; have q := cell_grown hg1 (HC.out x s hs) (by simp; exact Ne.symm hb); have Hc1 := Lib.hid hc1; have Hg1 := Lib.hid hg1; have HS := Lib.hid (List.mem_of_getElem? hs); clear hc1 hg1 hs))
  go_ret
  exact ⟨s, HS.out, rfl, Hc1.out, Hg1.out⟩
theorem Since.rowD {lo hi : Nat} {a b c : World} {v : Value} (h : Since lo hi a b) (k : b.grownBy c v.ownBlock) (hv : ∀ g, v.ownBlock = some g → g < lo ∨ hi ≤ g) (hs : hi ≤ b.heap.size) : Since lo hi a c :=
  ⟨Nat.le_trans h.size k.size, fun i h1 h2 => (k.block i (by omega) (fun e => by have := hv i e.symm; omega)).trans (h.block i h1 h2)⟩
theorem Since.apartD {lo hi g : Nat} {a b c : World} (h : Since lo hi a b) (k : b.grownBy c (some g)) (hg : g < lo) (hs : hi ≤ b.heap.size) : Since lo hi a c :=
  ⟨Nat.le_trans h.size k.size, fun i h1 h2 => (k.block i (by omega) (fun e => by injection e; omega)).trans (h.block i h1 h2)⟩
theorem hi_setD {lo hi g k : Nat} {a b : World} (h : Since lo hi a b) (hg : hi ≤ g) (u : Value) : Since lo hi a (b.setCell ⟨g, k, none⟩ u) :=
  ⟨by simpa [World.setCell] using h.size, fun i h1 h2 => (Below.heap_setCell b ⟨g, k, none⟩ u i (by show i ≠ g; omega)).trans (h.block i h1 h2)⟩
theorem grown_farV {w W w' : World} {b : Nat} {v : Value} (h : w.grownBy W (some b)) (k : W.grownBy w' v.ownBlock) (hg : ∀ g, v.ownBlock = some g → w.heap.size ≤ g) : w.grownBy w' (some b) := by
  refine ⟨k.os.trans h.os, ?_, k.output.trans h.output, Nat.le_trans h.size k.size, fun i hi hne => (k.block i (Nat.lt_of_lt_of_le hi h.size) (by intro e; have := hg i e.symm; omega)).trans (h.block i hi hne)⟩
  first | exact k.tape.trans h.tape | exact Nat.le_trans h.tape k.tape | exact h.tape.trans k.tape
theorem OInts.self {w : World} {lo n : Nat} {v : Value} {xs : List Int} (h : OInts w lo v n xs) : OInts w lo v xs.length xs := by
  rw [h.len]; exact h
theorem OIntss.self {w : World} {lo n : Nat} {v : Value} {xss : List (List Int)} (h : OIntss w lo v n xss) : OIntss w lo v xss.length xss := by
  rw [h.len]; exact h
end Go.Proofs.Ytgcemkpinmjaeaa

namespace Go.Proofs.Ytgcemkpinmjaeaa
open Go.RowKit
set_option linter.all false
def bl (s : ByteArray) (i : Nat) : Nat := if h : i < s.size then s[i].toNat else 0
theorem bl_get {s : ByteArray} {i : Nat} (h : i < s.size) : bl s i = s[i].toNat := by simp [bl, h]
theorem bl_lt (s : ByteArray) (i : Nat) : bl s i < 256 := by
  unfold bl
  split
  · exact UInt8.toNat_lt _
  · omega
def okW (k : Int) (s : ByteArray) : Nat → Nat → Bool
  | _, 0 => true
  | i, m + 1 => (decide (97 ≤ bl s i) && decide ((bl s i : Int) - 97 < k)) && okW k s (i + 1) m
def isWd (k : Int) (s : ByteArray) : Bool := inR k 1 3 && (decide (s.size ≤ 16) && okW k s 0 s.size)
theorem okW_step {k : Int} {s : ByteArray} {i m : Nat} {b : Bool} (h : okW k s i (m + 1) = b) :
    (¬ 97 ≤ bl s i → b = false) ∧ (¬ (bl s i : Int) - 97 < k → b = false) ∧ (97 ≤ bl s i → (bl s i : Int) - 97 < k → okW k s (i + 1) m = b) := by
  refine ⟨fun e => ?_, fun e => ?_, fun e1 e2 => ?_⟩
  · simpa [okW, e] using h.symm
  · simpa [okW, e] using h.symm
  · simpa [okW, e1, e2] using h
theorem okW_get {k : Int} {s : ByteArray} : ∀ {m i j : Nat}, okW k s i m = true → i ≤ j → j < i + m → 97 ≤ bl s j ∧ (bl s j : Int) - 97 < k
  | 0, i, j, _, h1, h2 => by omega
  | m + 1, i, j, h, h1, h2 => by
    simp only [okW, Bool.and_eq_true, decide_eq_true_eq] at h
    by_cases e : i = j
    · subst e; exact h.1
    · exact okW_get h.2 (by omega) (by omega)
theorem isWd_get {k : Int} {s : ByteArray} (h : isWd k s = true) : s.size ≤ 16 ∧ ∀ j, j < s.size → 97 ≤ bl s j ∧ (bl s j : Int) - 97 < k := by
  simp only [isWd, Bool.and_eq_true, decide_eq_true_eq] at h
  exact ⟨h.2.1, fun j hj => okW_get h.2.2 (Nat.zero_le _) (by omega)⟩
end Go.Proofs.Ytgcemkpinmjaeaa

namespace Go.Proofs.Ytgcemkpinmjaeaa
open Go.RowKit
set_option linter.all false
def spB (s : ByteArray) (b : Nat) : Nat → Nat → Nat → List ByteArray
  | 0, _, _ => []
  | f + 1, fr, i => if i = s.size ∨ bl s i = b then s.extract fr i :: spB s b f (i + 1) (i + 1) else spB s b f fr (i + 1)
def pieces (s : ByteArray) (b : Nat) : List ByteArray := spB s b (s.size + 1) 0 0
theorem spB_step {s : ByteArray} {b fr i : Nat} {acc R : List ByteArray} (hi : i ≤ s.size) (h : acc ++ spB s b (s.size + 1 - i) fr i = R) :
    ((i = s.size ∨ bl s i = b) → (acc ++ [s.extract fr i]) ++ spB s b (s.size + 1 - (i + 1)) (i + 1) (i + 1) = R) ∧ (i ≠ s.size → bl s i ≠ b → acc ++ spB s b (s.size + 1 - (i + 1)) fr (i + 1) = R) := by
  rw [show s.size + 1 - i = (s.size + 1 - (i + 1)) + 1 by omega, spB] at h
  refine ⟨fun e => ?_, fun e1 e2 => ?_⟩
  · rw [if_pos e] at h; rw [← h]; simp
  · rw [if_neg (by omega)] at h; exact h
set_option maxRecDepth 20000 in
set_option maxHeartbeats 3200000 in
theorem sSplitByte_any (s : ByteArray) (b : Nat) (w : World) (hs : s.size ≤ 1000000) (hb : b < 256) :
    Calls Try.prog 218 #[.string s, .int .u8 b] w fun e w' => ∃ v, e = .returned v ∧ OStrs w' w.heap.size v (pieces s b).length (pieces s b) ∧ Below w.heap.size w w' := by
  have HE := Lib.hid (OStrs.empty w w.heap.size (Nat.le_refl _))
  have HBE := Lib.hid (belowA w (.cells #[] 9))
  go_enter Try.func218, Try.ntmps218
  go_wp2_with fail
  go_loopw [5, 6, 7] (fun v y x wr => ∃ (fr i : Nat) (acc : List ByteArray), i ≤ s.size + 1 ∧ fr ≤ i ∧ acc.length ≤ i ∧ y = .int .i64 fr ∧ x = .int .i64 i ∧ OStrs wr w.heap.size v acc.length acc ∧ Hid (acc ++ spB s b (s.size + 1 - i) fr i = pieces s b) ∧ Below w.heap.size w wr) (fun _ _ x _ => s.size + 1 - (intOf x).toNat)
  case atStart => exact ⟨0, 0, [], Nat.zero_le _, Nat.le_refl _, Nat.le_refl _, rfl, rfl, HE.out, rfl, HBE.out⟩
  case round =>
    obtain ⟨fr, i, acc, hi, hf, hal, rfl, rfl, hown, hr, hbl⟩ := hrel
    obtain ⟨a7, c7, rfl, _⟩ := hown.form
    have HO := Lib.hid hown
    have HB := Lib.hid hbl
    clear hown hbl HE HBE
    by_cases hle : i ≤ s.size
    · have HST := Lib.hid (spB_step hle hr.out)
      clear hr
      have dle : decide ((i : Int) ≤ (s.size : Int)) = true := decide_eq_true (by omega)
      by_cases hlt : i < s.size
      · have dne : ((i : Int) == (s.size : Int)) = false := beq_eq_false_iff_ne.2 (by omega)
        obtain ⟨c, hc⟩ : ∃ c : Nat, s[i].toNat = c := ⟨_, rfl⟩
        have hbc : bl s i = c := (bl_get hlt).trans hc
        by_cases e : c = b
        · have d : ((c : Int) == (b : Int)) = true := beq_iff_eq.2 (by omega)
          have HN := Lib.hid (HST.out.1 (.inr (hbc.trans e)))
          clear HST hbc e
          go_wp2_with (at_builtin; refine wpList_push_str wr _ rfl (.tmp 26) (.tmp 31) rfl w.heap.size _ _ _ rfl HO.out (by omega) HB.out.size _ rfl rfl ?_; intro v3 w3 ho3 hb3; have HO3 := Lib.hid ho3; have HB3 := Lib.hid (HB.out.trans hb3); clear ho3 hb3)
          go_roundw
          case rel => exact ⟨i + 1, i + 1, _, by omega, Nat.le_refl _, by simp; omega, by go_num, by go_num, by simpa using HO3.out, HN.out, HB3.out⟩
          case measure => (simp [intOf] <;> omega)
        · have d : ((c : Int) == (b : Int)) = false := beq_eq_false_iff_ne.2 (by omega)
          have HN := Lib.hid (HST.out.2 (by omega) (by omega))
          clear HST hbc e
          go_wp2_with fail
          go_roundw
          case rel => exact ⟨fr, i + 1, acc, by omega, by omega, by omega, rfl, by go_num, HO.out, HN.out, HB.out⟩
          case measure => (simp [intOf] <;> omega)
      · have ei : i = s.size := by omega
        have hn := HST.out.1 (.inl ei)
        rw [show s.extract fr i = s.extract fr s.size by rw [ei]] at hn
        have HN := Lib.hid hn
        clear hn
        have deq : ((i : Int) == (s.size : Int)) = true := beq_iff_eq.2 (by omega)
        clear HST
        go_wp2_with (at_builtin; refine wpList_push_str wr _ rfl (.tmp 26) (.tmp 31) rfl w.heap.size _ _ _ rfl HO.out (by omega) HB.out.size _ rfl rfl ?_; intro v3 w3 ho3 hb3; have HO3 := Lib.hid ho3; have HB3 := Lib.hid (HB.out.trans hb3); clear ho3 hb3)
        go_roundw
        case rel => exact ⟨i + 1, i + 1, _, by omega, Nat.le_refl _, by simp; omega, by go_num, by go_num, by simpa using HO3.out, HN.out, HB3.out⟩
        case measure => (simp [intOf] <;> omega)
    · have dle : decide ((i : Int) ≤ (s.size : Int)) = false := decide_eq_false (by omega)
      have hR : acc = pieces s b := by
        have h := hr.out
        rw [show s.size + 1 - i = 0 by omega] at h
        simpa [spB] using h
      have HR := Lib.hid hR
      clear hr hR
      go_wp2_with fail
      go_ret
      rw [← HR.out]
      exact ⟨_, rfl, HO.out, HB.out⟩
end Go.Proofs.Ytgcemkpinmjaeaa

namespace Go.Proofs.Ytgcemkpinmjaeaa
open Go.RowKit
set_option linter.all false
set_option maxRecDepth 20000 in
set_option maxHeartbeats 3200000 in
theorem sFormat_any (u : Nat) (w : World) (hu : u ≤ 9223372036854775807) :
    Calls Try.prog 233 #[.int .i64 u] w fun e w' => e = .returned (.string (decB u)) ∧ Below w.heap.size w w' := by
  rcases Nat.eq_zero_or_pos u with h0 | h0
  · subst h0
    have hg : Hid (decB 0 = ⟨#[48]⟩) := by show _ = _; decide +kernel
    go_enter Try.func233, Try.ntmps233
    go_wp2_with fail
    go_ret
    rw [hg.out]
    exact ⟨rfl, Below.refl _ _⟩
  · have hne : ((u : Int) == 0) = false := by simp; omega
    have hlt : decide ((u : Int) < 0) = false := decide_eq_false (by omega)
    obtain ⟨U, hU⟩ : ∃ U : Nat, U = u := ⟨_, rfl⟩
    have HU := Lib.hid hU
    go_enter Try.func233, Try.ntmps233
    go_wp2_with fail
    clear hne hlt hU
    go_loopw [0, 4] (fun x o wr => ∃ (y : Nat) (s : ByteArray), y ≤ 9223372036854775807 ∧ x = .int .i64 y ∧ o = .string s ∧ Hid (dg y ++ s.data.toList = dg U) ∧ Below w.heap.size w wr) (fun x _ _ => (intOf x).toNat)
    case atStart => exact ⟨u, ⟨#[]⟩, hu, rfl, rfl, by show _ = _; rw [HU.out]; simp, Below.refl _ _⟩
    case round =>
      obtain ⟨y, s, hy, rfl, rfl, hr, hbl⟩ := hrel
      have hsz := dig_size (by have := HU.out; omega) hr.out
      have Hbl := Lib.hid hbl
      clear hbl
      by_cases hp : 0 < y
      · have hne : ((y : Int) != 0) = true := by simp; omega
        have HN := Lib.hid (dig_next hp hr.out)
        have HCS := catB_size (48 + UInt8.ofNat (y % 10)) s
        have hm10 : y % 10 < 10 := Nat.mod_lt _ (by omega)
        have hcv := fun z => conv_one wr z 5
        clear hr
        go_wp2_with fail
        go_roundw
        case rel => exact ⟨y / 10, catB (48 + UInt8.ofNat (y % 10)) s, by omega, by go_num, rfl, HN.out, step2 Hbl.out (belowA _ _)⟩
        case measure => (simp [intOf] <;> omega)
      · have hz : y = 0 := by omega
        subst hz
        have HE := Lib.hid (dig_done (u := U) (by have := HU.out; omega) hr.out)
        clear hr
        rw [show ((0 : Nat) : Int) = 0 from rfl]
        go_wp2_with fail
        go_ret
        exact ⟨ret_text (by rw [HE.out, HU.out]), Hbl.out⟩
theorem sFormat_succ (k : Nat) (w : World) (hk : k ≤ 1000000) :
    Calls Try.prog 233 #[.int .i64 ((k : Int) + 1)] w fun e w' => e = .returned (.string (decB (k + 1))) ∧ Below w.heap.size w w' := by
  have h := sFormat_any (k + 1) w (by omega)
  rw [show ((k + 1 : Nat) : Int) = (k : Int) + 1 from by omega] at h
  exact h
end Go.Proofs.Ytgcemkpinmjaeaa

namespace Go.Proofs.Ytgcemkpinmjaeaa
open Go.RowKit
set_option linter.all false
set_option maxRecDepth 20000 in
set_option maxHeartbeats 3200000 in
theorem l1Read_one (t : ByteArray) (d : Nat) (w : World) (hd : d ≤ 9) (hs : t.size = 1) (hb : bl t 0 = 48 + d) (hD : decB d = t) :
    Calls Try.prog 228 #[.string t, .int .i64 12] w fun e w' => e = .returned (.tuple #[.int .i64 d, .bool true]) ∧ Below w.heap.size w w' := by
  have HS := Lib.hid hs
  have HD := Lib.hid hD
  have h0 : 0 < t.size := by omega
  obtain ⟨x, hx⟩ : ∃ x : Nat, t[0].toNat = x := ⟨_, rfl⟩
  have hbx : x = 48 + d := by rw [← hb, bl_get h0]; exact hx.symm
  have e1 : decide ((0 : Int) < (t.size : Int)) = true := decide_eq_true (by omega)
  have e2 : ((x : Int) == 45) = false := beq_eq_false_iff_ne.2 (by omega)
  have e3 : decide ((t.size : Int) < 1) = false := decide_eq_false (by omega)
  have e4 : decide ((12 : Int) < (t.size : Int)) = false := decide_eq_false (by omega)
  have e5 : decide ((x : Int) < 48) = false := decide_eq_false (by omega)
  have e6 : decide ((57 : Int) < (x : Int)) = false := decide_eq_false (by omega)
  have HX := Lib.hid hbx
  clear hs hD hb hbx
  go_enter Try.func228, Try.ntmps228
  go_wp2_with fail
  go_loop [8, 9] (fun n i => (n = .int .i64 0 ∧ i = .int .i64 0) ∨ (n = .int .i64 d ∧ i = .int .i64 1)) (fun _ i => 1 - (intOf i).toNat)
  case atStart => exact .inl ⟨rfl, rfl⟩
  case round =>
    rcases hrel with ⟨rfl, rfl⟩ | ⟨rfl, rfl⟩
    · go_wp2_with fail
      go_round
      case rel => exact .inr ⟨by have := HX.out; subst this; go_num, rfl⟩
      case measure => simp [intOf]
    · have f1 : decide ((1 : Int) < (t.size : Int)) = false := decide_eq_false (by have := HS.out; omega)
      clear e1
      go_wp2_with (go_at_call 233; refine (sFormat_any d _ (by omega)).mono ?_; rw [HD.out]; rintro e w1 ⟨rfl, hb1⟩; have HB1 := Lib.hid hb1; clear hb1)
      go_ret2
      exact ⟨rfl, HB1.out⟩
set_option maxHeartbeats 800000 in
theorem sParseInt_one (t : ByteArray) (d : Nat) (w : World) (hd : d ≤ 9) (hs : t.size = 1) (hb : bl t 0 = 48 + d) (hD : decB d = t) :
    Calls Try.prog 219 #[.string t] w fun e w' => e = .returned (.tuple #[.int .i64 d, .bool true]) ∧ Below w.heap.size w w' := by
  have HC := fun W => l1Read_one t d W hd hs hb hD
  clear hs hb hD
  have HC := Lib.hid HC
  go_enter Try.func219, Try.ntmps219
  go_wp2_with (go_at_call 228; refine (HC.out _).mono ?_; rintro e w1 ⟨rfl, hb1⟩; have HB1 := Lib.hid hb1; clear hb1)
  go_ret2
  exact ⟨rfl, HB1.out⟩
end Go.Proofs.Ytgcemkpinmjaeaa

namespace Go.Proofs.Ytgcemkpinmjaeaa
open Go.RowKit
set_option linter.all false
theorem wpList_push_rowC {ops : Array Oper} {rest : List Oper} {o : Oper} {a : Act} {Q : Exit → Act → World → Prop} (W : World) (u : Value) (wr : World) (hgd : o.guard = none) (s x : Operand)
    (ho : o.op = .call { callee := .builtin .append, args := #[s, x], argTypes := #[58, 58] })
    (lo : Nat) (v : Value) (n : Nat) (xss : List (List Int)) (hs : a.eval s = v) (h : OIntss wr lo v n xss) (hn : n + 1 ≤ 1099511627776) (hlo : lo ≤ wr.heap.size) (hW : Below wr.heap.size wr W)
    (m : Nat) (r : List Int) (hu : OInts W wr.heap.size u m r) (tb : Nat) (htb : tb = W.heap.size) (hx : a.eval x = .slice (some ⟨tb, 0, none⟩) 1 1)
    (K : ∀ v' w', OIntss w' lo v' (n + 1) (xss ++ [r]) → W.grownBy w' v.ownBlock → NewOr W.heap.size v v' → wpList Try.prog ops Q rest (a.put o.dst v') w') : wpList Try.prog ops Q (o :: rest) a (W.alloc (.cells #[u] 54)) := by
  subst htb
  have hml := hu.len
  subst hml
  have hW2 : Below wr.heap.size wr (W.alloc (.cells #[u] 54)) := hW.alloc hW.size _
  obtain ⟨i0, hi, hz0, hz1, hz2⟩ := info_parts info_ints
  have hk := h.keep hW2
  have hu2 := (hu.alloc (.cells #[u] 54)).mono hlo
  have hfar := far_new h hW2 fun b hb => (hu.ownlt b hb).1
  obtain ⟨h1, h2, vs, hv, hr, hd⟩ := hk
  have hone : u.oneCell' = true := by
    rcases hu.2.2 with ⟨rfl, _⟩ | ⟨_, _, _, rfl, _⟩ <;> rfl
  refine wpList_plain hgd fun K' hK => ?_
  obtain ⟨v', w', hrun, q2, q3, _, q5⟩ := run_append_own_at (P := Try.prog) (W.alloc (.cells #[u] 54)) lo 58 o.type 54 i0 (.slice none 0 0) 1 24 Try.underlying58 hi hz0 hz1 hz2 rfl (by decide) v n vs hv ⟨W.heap.size, 0, none⟩ 1 1 [u] rfl
    (by
      intro j u' hj
      match j, hj with
      | 0, hj =>
        simp at hj
        subst hj
        exact World.cell?_alloc_new _ _ _ _)
    (by
      intro u' hu'
      simp at hu'
      subst hu'
      exact hone) (by unfold maxLen; omega) (by omega) (by simp; have := hW.size; omega)
  unfold Oper.wp execOp
  simp only [ho, resolve, invoke, builtin, Sem.run_bind, Sem.run_pure, Result.andThen_ok, List.map_toArray, List.map_cons, List.map_nil, hs, hx, hrun]
  refine hK _ _ (K v' w' ?_ ((grown_alloc W _ _).trans q3) ?_)
  · exact OIntss.pushed ⟨h1, h2, vs, hv, hr, hd⟩ hn hu2 hfar q3 fun vs' hv' => by rw [own_unique hv' hv]; exact q2
  · rcases q5 with h5 | h5
    · exact .inl h5
    · exact .inr ⟨_, h5, by simp⟩
end Go.Proofs.Ytgcemkpinmjaeaa

namespace Go.Proofs.Ytgcemkpinmjaeaa
open Go.RowKit
set_option linter.all false
set_option maxHeartbeats 800000 in
theorem sIsMatrix_any (ao : Option Addr) (n cap : Nat) (xss : List (List Int)) (w : World) (h : Intss w ao n xss) :
    Calls Try.prog 125 #[.slice ao n cap] w fun e w' => e = .returned (.bool (isMat xss)) ∧ w = w' := by
  have hm := h.2.1
  have HL := Lib.hid h.1
  have hg : Hid (isMat xss = (tabIn n 0 1000000 xss && inR n 1 9)) := by show isMat xss = _; unfold isMat; rw [h.1]
  have H := Lib.hid h
  clear h
  go_enter Try.func125, Try.ntmps125
  go_wp2
  go_loop [3] (fun i => ∃ k : Nat, k ≤ n ∧ i = .int .i64 k ∧ Hid (tabIn n 0 1000000 (xss.drop k) = tabIn n 0 1000000 xss)) (fun i => n - (intOf i).toNat)
  case atStart => exact ⟨0, Nat.zero_le _, rfl, rfl⟩
  case round =>
    obtain ⟨k, hk, rfl, hr⟩ := hrel
    by_cases hlt : k < n
    · obtain ⟨b, o, ai, ci, r, rfl, hcell, hrow, hget⟩ := H.out.at_ hlt
      clear H
      have Hst := Lib.hid (tabIn_step hget.out hr.out)
      have Hrow := Lib.hid hrow
      clear hrow hr
      by_cases hrl : r.length = n
      · have hne : ((r.length : Int) != (n : Int)) = false := by simp [hrl]
        have HRL := Lib.hid hrl
        clear hrl
        go_wp2
        go_loop [4] (fun i => ∃ j : Nat, j ≤ n ∧ i = .int .i64 j ∧ Hid (allIn 0 1000000 (r.drop j) = allIn 0 1000000 r)) (fun i => n - (intOf i).toNat)
        case atStart => exact ⟨0, Nat.zero_le _, rfl, rfl⟩
        case round =>
          obtain ⟨j, hj, rfl, hrj⟩ := hrel
          by_cases hjn : j < n
          · obtain ⟨b', o', x, rfl, hcell', hget'⟩ := Hrow.out.at_ (k := j) (by have := HRL.out; omega)
            clear Hrow
            have hjr : j < r.length := by have := HRL.out; omega
            have Hsj := Lib.hid (allIn_step hget'.out hrj.out)
            clear hrj
            cases hi : inR x 0 1000000
            · have hr1 : Hid _ := Hst.out.2.1 (Hsj.out.2 hi)
              clear Hst Hsj
              go_wp2_with (first | (go_at_call 76; refine (l1In_any _ _ _ _).mono ?_; rintro e w' ⟨rfl, rfl⟩))
              go_ret
              exact ⟨ret_bool (by rw [hg.out, hr1.out]; rfl), rfl⟩
            · have hr1 : Hid _ := Hsj.out.1 hi
              clear Hst Hsj
              go_wp2_with (first | (go_at_call 76; refine (l1In_any _ _ _ _).mono ?_; rintro e w' ⟨rfl, rfl⟩))
              go_round
              case rel => exact ⟨j + 1, hjn, by go_num, hr1⟩
              case measure => simp [intOf]; omega
          · have hr1 : Hid _ := Hst.out.2.2 HRL.out (by have := hrj.out; rw [drop_all r j (by have := HRL.out; omega)] at this; exact this.symm)
            clear Hst hrj Hrow
            go_wp2
            go_round
            case rel => exact ⟨k + 1, hlt, by go_num, hr1⟩
            case measure => simp [intOf]; omega
      · have hne : ((r.length : Int) != (n : Int)) = true := by simp; omega
        have hr1 : Hid _ := Hst.out.1 hrl
        clear Hst hrl
        go_wp2
        go_ret
        exact ⟨ret_bool (by rw [hg.out, hr1.out]; rfl), rfl⟩
    · rw [drop_all xss k (by have := HL.out; omega)] at hr
      have hr1 : Hid _ := hr.out.symm
      clear hr H
      go_wp2_with (first | (go_at_call 76; refine (l1In_any _ _ _ _).mono ?_; rintro e w' ⟨rfl, rfl⟩))
      go_ret
      exact ⟨ret_bool (by rw [hg.out, hr1.out]; rfl), rfl⟩
end Go.Proofs.Ytgcemkpinmjaeaa

namespace Go.Proofs.Ytgcemkpinmjaeaa
open Go.RowKit
set_option linter.all false
def digB (d : Nat) : ByteArray := ⟨#[UInt8.ofNat (48 + d)]⟩
theorem digB_dec {d : Nat} (h : d ≤ 9) : decB d = digB d := by
  unfold decB digB
  rw [Lib.decDigits, dif_pos (by omega), ofNat48]
theorem digB_bl {d : Nat} (h : d ≤ 9) : bl (digB d) 0 = 48 + d := by
  have : ∀ k : Fin 10, bl (digB k.val) 0 = 48 + k.val := by decide
  exact this ⟨d, by omega⟩
theorem parseDig_any (d : Nat) (w : World) (hd : d ≤ 9) : Calls Try.prog 219 #[.string (digB d)] w fun e w' => e = .returned (.tuple #[.int .i64 d, .bool true]) ∧ Below w.heap.size w w' :=
  sParseInt_one (digB d) d w hd rfl (digB_bl hd) (digB_dec hd)
def toI (d : Nat) : Int := d
def intM (M : List (List Nat)) : List (List Int) := M.map (fun q => q.map toI)
def readsAs (s : ByteArray) (M : List (List Nat)) : Prop := (pieces s 47).map (fun r => pieces r 44) = M.map (fun q => q.map digB) ∧ (∀ q ∈ M, q.length ≤ 9 ∧ ∀ d ∈ q, d ≤ 9) ∧ isMat (intM M) = true ∧ s.size ≤ 1000
theorem apart_fresh {w w' : World} {lo n : Nat} {u v : Value} {ss : List ByteArray} (hv : ∀ b, v.ownBlock = some b → b < w.heap.size) (hu : OStrs w' w.heap.size u n ss) : Apart u v := by
  intro b h1 h2
  have e1 := (hu.ownlt b h1).1
  have e2 := hv b h2
  omega
theorem pieces_size {s : ByteArray} {b : Nat} : ∀ {f fr i : Nat} {t : ByteArray}, i ≤ s.size → t ∈ spB s b f fr i → i + f ≤ s.size + 1 → t.size ≤ s.size
  | 0, _, _, _, _, h, _ => by simp [spB] at h
  | f + 1, fr, i, t, hi, h, hf => by
    unfold spB at h
    split at h
    · rcases List.mem_cons.1 h with rfl | h
      · rw [ByteArray.size_extract]; omega
      · by_cases e : i + 1 ≤ s.size
        · exact pieces_size e h (by omega)
        · have : f = 0 := by omega
          subst this
          simp [spB] at h
    · by_cases e : i + 1 ≤ s.size
      · exact pieces_size e h (by omega)
      · have : f = 0 := by omega
        subst this
        simp [spB] at h
theorem intM_get {M : List (List Nat)} {k : Nat} {q : List Nat} (h : M[k]? = some q) : (intM M)[k]? = some (q.map toI) := by simp [intM, h]
set_option maxRecDepth 20000 in
set_option maxHeartbeats 3200000 in
theorem sParse_any (s : ByteArray) (M : List (List Nat)) (w : World) (h : readsAs s M) :
    Calls Try.prog 199 #[.string s] w fun e w' => ∃ v, e = .returned (.tuple #[v, .bool true]) ∧ OIntss w' w.heap.size v (intM M).length (intM M) ∧ Below w.heap.size w w' := by
  obtain ⟨h1, h2, h3, h4⟩ := h
  have HE := Lib.hid (OIntss.empty w w.heap.size (Nat.le_refl _))
  have HBE := Lib.hid ((Below.refl w.heap.size w).alloc (Nat.le_refl _) (.cells #[] 54))
  have H3 := Lib.hid h3
  have hl9 := isMat_len h3
  have hMl : (intM M).length = M.length := by simp [intM]
  have hLl : (pieces s 47).length = M.length := by have := congrArg List.length h1; simpa using this
  have HK : Hid (∀ (k : Nat) (t : ByteArray), (pieces s 47)[k]? = some t → t.size ≤ 1000000 ∧ ∃ q, M[k]? = some q ∧ pieces t 44 = q.map digB ∧ q.length ≤ 9 ∧ ∀ d ∈ q, d ≤ 9) := by
    show ∀ (k : Nat) (t : ByteArray), _
    intro k t ht
    have e := congrArg (fun l => l[k]?) h1
    simp only [List.getElem?_map, ht, Option.map_some] at e
    cases hq : M[k]? with
    | none => rw [hq] at e; simp at e
    | some q =>
      rw [hq] at e
      simp at e
      have := pieces_size (Nat.zero_le _) (List.mem_of_getElem? ht) (by omega)
      exact ⟨by omega, q, rfl, e, h2 q (List.mem_of_getElem? hq)⟩
  clear h1 h2 h3
  generalize hL : pieces s 47 = L at HK hLl
  have HC := fun W => sSplitByte_any s 47 W (by omega) (by omega)
  rw [hL] at HC
  have HC := Lib.hid HC
  clear hL
  have hL9 : L.length ≤ 9 := by omega
  go_enter Try.func199, Try.ntmps199
  go_wp2_with (go_at_call 218; refine (HC.out _).mono ?_; rintro e w1 ⟨v1, rfl, ho1, hb1⟩; obtain ⟨a1, c1, rfl, hi1⟩ := ho1.form; have HA := Lib.hid (apart_fresh (lo := 0) (fun b hb => (HE.out.ownlt b hb).2) ho1); have HO1 := Lib.hid (ho1.mono HBE.out.size); have HB1 := Lib.hid (step2 HBE.out hb1); have HE1 := Lib.hid (HE.out.keep hb1); clear ho1 hi1 hb1)
  clear HC
  go_loopw [4, 6] (fun v x wr => ∃ k : Nat, k ≤ L.length ∧ x = .int .i64 k ∧ OIntss wr w.heap.size v k ((intM M).take k) ∧ OStrs wr w.heap.size (.slice a1 L.length c1) L.length L ∧ Apart (.slice a1 L.length c1) v ∧ Below w.heap.size w wr) (fun _ x _ => L.length - (intOf x).toNat)
  case atStart => exact ⟨0, Nat.zero_le _, rfl, HE1.out, HO1.out, HA.out, HB1.out⟩
  case round =>
    obtain ⟨k, hk, rfl, hown, hst, hap, hbl⟩ := hrel
    obtain ⟨wo, rfl⟩ : ∃ wo : World, wo = wr := ⟨_, rfl⟩
    obtain ⟨a7, c7, rfl, _⟩ := hown.form
    clear HE HBE HA HO1 HB1 HE1
    have HO := Lib.hid hown
    have HB := Lib.hid hbl
    have HST := Lib.hid hst
    have HAP := Lib.hid hap
    clear hown hbl hst hap
    by_cases hlt : k < L.length
    · obtain ⟨b, o, t, rfl, hc, hs⟩ := HST.out.read.at_ hlt
      obtain ⟨ht, q, hq, hpc, hq9, hd9⟩ := HK.out k t hs.out
      have HQ := Lib.hid hq
      have HD9 := Lib.hid hd9
      have HRE := Lib.hid (OInts.empty wo wo.heap.size (Nat.le_refl _))
      have HRB := Lib.hid ((Below.refl wo.heap.size wo).alloc (Nat.le_refl _) (.cells #[] 3))
      have hc2 := (HRB.out.cell (World.block_lt_of_cell? wo _ hc)).trans hc
      have HC := fun W => sSplitByte_any t 44 W ht (by omega)
      rw [hpc] at HC
      simp only [List.length_map] at HC
      have HC := Lib.hid HC
      clear hs hq hpc hd9 hc
      go_wp2_with (go_at_call 218; refine (HC.out _).mono ?_; rintro e w2 ⟨v2, rfl, ho2, hb2⟩; obtain ⟨a2, c2, rfl, hi2⟩ := ho2.form; have HA2 := Lib.hid (apart_fresh (lo := 0) (fun b hb => (HRE.out.ownlt b hb).2) ho2); have HO2 := Lib.hid (ho2.mono HRB.out.size); have HB2 := Lib.hid (step2 HRB.out hb2); have HR2 := Lib.hid (HRE.out.keep hb2); clear ho2 hi2 hb2)
      clear HC hc2
      go_loopw [7, 9] (fun v x wx => ∃ j : Nat, j ≤ q.length ∧ x = .int .i64 j ∧ OInts wx wo.heap.size v j ((q.map toI).take j) ∧ OStrs wx wo.heap.size (.slice a2 q.length c2) q.length (q.map digB) ∧ Apart (.slice a2 q.length c2) v ∧ Below wo.heap.size wo wx) (fun _ x _ => q.length - (intOf x).toNat)
      case atStart => exact ⟨0, Nat.zero_le _, rfl, HR2.out, HO2.out, HA2.out, HB2.out⟩
      case round =>
        obtain ⟨j, hj, rfl, hline, hpt, hap2, hbx⟩ := hrel
        obtain ⟨a9, c9, rfl, _⟩ := hline.form
        clear HRE HRB HA2 HO2 HB2 HR2
        have HLI := Lib.hid hline
        have HPT := Lib.hid hpt
        have HAX := Lib.hid hap2
        have HBX := Lib.hid hbx
        clear hline hpt hap2 hbx
        by_cases hjn : j < q.length
        · obtain ⟨b2, o2, y, rfl, hcy, hsy⟩ := HPT.out.read.at_ hjn
          have hqj : q[j]? = some q[j] := List.getElem?_eq_getElem hjn
          have hy : y = digB q[j] := by
            have := hsy.out
            rw [List.getElem?_map, hqj] at this
            injection this with this
            exact this.symm
          have hd := HD9.out q[j] (List.getElem_mem _)
          have HN : Hid ((q.map toI)[j]? = some ((q[j] : Nat) : Int)) := by show _ = _; simp [hqj, toI]
          generalize q[j] = d at hy hd HN
          subst hy
          clear hsy hqj
          go_wp2_with (first
            | (at_builtin; refine wpList_push_at w3 _ rfl (.tmp 44) (.tmp 46) rfl wo.heap.size _ _ _ rfl HL3.out (by omega) (by exact HB3.out.size) _ rfl rfl ?_; intro v5 w5 ho5 hg5 hn5; have HO5 := Lib.hid ho5; have HB5 := Lib.hid (HB3.out.grown hg5 HB3.out.size (fun b hb => (HL3.out.ownlt b hb).1)); have HP5 := Lib.hid (HP3.out.far hg5 HAX.out); have HA5 := Lib.hid (hn5.apart HAX.out (fun b hb => (HP3.out.ownlt b hb).2)); clear ho5 hg5 hn5)
            | (go_at_call 219; refine (parseDig_any d _ hd).mono ?_; rintro e w3 ⟨rfl, hb3⟩; have HB3 := Lib.hid (step2 HBX.out hb3); have HL3 := Lib.hid (HLI.out.keep hb3); have HP3 := Lib.hid (HPT.out.keep hb3); clear hb3))
          go_roundw
          case rel =>
            have h5 := HO5.out
            rw [push_take HN.out] at h5
            exact ⟨j + 1, hjn, by go_num, h5, HP5.out, HA5.out, HB5.out⟩
          case measure => (simp [intOf] <;> omega)
        · have HFU : Hid (OInts wr wo.heap.size (.slice a9 j c9) q.length (q.map toI)) := by
            have h := HLI.out
            rw [List.take_of_length_le (by simp; omega)] at h
            rw [show q.length = j by omega]
            exact h
          go_wp2_with (first | (at_builtin; refine wpList_push_rowC _ _ wo rfl (.tmp 48) (.tmp 50) rfl w.heap.size _ k _ rfl HO.out (by omega) HB.out.size HBX.out _ _ HFU.out _ (by rfl) rfl ?_; intro v6 w6 ho6 hg6 hn6; have HO6 := Lib.hid ho6; have HB6 := Lib.hid (((HB.out.trans (HBX.out.mono HB.out.size))).grown hg6 (Nat.le_trans HB.out.size HBX.out.size) (fun b hb => (HO.out.ownlt b hb).1)); have HST6 := Lib.hid ((HST.out.keep HBX.out).far hg6 HAP.out); have HAP6 := Lib.hid (hn6.apart HAP.out (fun b hb => Nat.lt_of_lt_of_le (HST.out.ownlt b hb).2 HBX.out.size)); clear ho6 hg6 hn6))
          go_roundw
          case rel =>
            have h6 := HO6.out
            rw [push_take (intM_get HQ.out)] at h6
            exact ⟨k + 1, hlt, by go_num, h6, HST6.out, HAP6.out, HB6.out⟩
          case measure => (simp [intOf] <;> omega)
    · have hke : k = (intM M).length := by omega
      have HF : Hid (OIntss wo w.heap.size (.slice a7 k c7) k (intM M)) := by
        have h := HO.out
        rw [List.take_of_length_le (by omega)] at h
        exact h
      have HFI : Hid (Intss wo a7 k (intM M)) := by
        obtain ⟨ax, cx, e, hx⟩ := HF.out.form
        cases e
        exact hx
      have HKE := Lib.hid hke
      clear hke hMl
      go_wp2_with (go_at_call 125; refine (sIsMatrix_any _ _ _ (intM M) _ HFI.out).mono ?_; rw [H3.out]; rintro e w' ⟨rfl, rfl⟩)
      go_ret2
      rw [← HKE.out]
      exact ⟨_, rfl, HF.out, HB.out⟩
end Go.Proofs.Ytgcemkpinmjaeaa

namespace Go.Proofs.Ytgcemkpinmjaeaa
open Go.RowKit
set_option linter.all false
set_option maxHeartbeats 1600000 in
theorem sL4Zero_any (n c : Nat) (w : World) (hn : n ≤ 1048576) (hc : c ≤ 1048576) :
    Calls Try.prog 138 #[.int .i64 n, .int .i64 c] w fun e w' => ∃ v, e = .returned v ∧ OIntss w' w.heap.size v n (List.replicate n (List.replicate c 0)) ∧ Below w.heap.size w w' := by
  have hmk := make_ints c (by omega)
  go_enter Try.func138, Try.ntmps138
  go_wp2
  go_loopw [5, 6] (fun v i wr => ∃ k : Nat, k ≤ n ∧ i = .int .i64 k ∧ OIntss wr w.heap.size v k (List.replicate k (List.replicate c 0)) ∧ Below w.heap.size w wr) (fun _ i _ => n - (intOf i).toNat)
  case atStart => exact ⟨0, Nat.zero_le _, rfl, OIntss.empty w _ (Nat.le_refl _), (Below.refl _ _).alloc (Nat.le_refl _) _⟩
  case round =>
    obtain ⟨k, hk, rfl, hown, hb⟩ := hrel
    by_cases hlt : k < n
    · have Hown := Lib.hid hown
      have Hb := Lib.hid hb
      clear hown hb
      go_wp2_with (first | (at_builtin; refine wpList_push_fresh _ _ wr rfl _ _ rfl w.heap.size _ k _ rfl Hown.out (by omega) Hb.out.size ((Below.refl _ _).alloc (Nat.le_refl _) _) c _ (OInts.made wr c (by omega)) _ ?ctb rfl ?_))
      case ctb => simp
      intro v' w' hown' hbel _
      rw [rep_push] at hown'
      have hb' := Hb.out.trans hbel
      go_wp2_with fail
      go_roundw
      case rel => exact ⟨k + 1, hlt, by go_num, hown', hb'⟩
      case measure => simp [intOf]; omega
    · go_wp2
      go_ret
      have : k = n := by omega
      subst this
      exact ⟨_, rfl, hown, hb⟩
end Go.Proofs.Ytgcemkpinmjaeaa

namespace Go.Proofs.Ytgcemkpinmjaeaa
open Go.RowKit
set_option linter.all false
def all9 (xs : List Int) : Bool := xs.all (fun x => inR x 0 9)
theorem all9_step {xs : List Int} {k : Nat} {b : Bool} (hk : k < xs.length) (h : all9 (xs.drop k) = b) :
    (inR xs[k] 0 9 = true → all9 (xs.drop (k + 1)) = b) ∧ (inR xs[k] 0 9 = false → b = false) := by
  rw [List.drop_eq_getElem_cons hk] at h
  generalize List.drop (k + 1) xs = r at *
  generalize xs[k] = x at *
  constructor
  · intro e; simpa [all9, e] using h
  · intro e; simpa [all9, e] using h.symm

set_option maxHeartbeats 400000 in
theorem l26Fits_any (ao : Option Addr) (n cap : Nat) (xs : List Int) (m : Int) (w : World) (h : Ints w ao n xs) :
    Calls Try.prog 122 #[.slice ao n cap, .int .i64 m] w fun e w' => e = .returned (.bool (all9 xs && ((n : Int) == m))) ∧ w = w' := by
  obtain ⟨hn, hm, hc⟩ := h
  subst hn
  go_enter Try.func122, Try.ntmps122
  go_wp2
  go_loop [5] (fun i => ∃ (k : Nat), k ≤ xs.length ∧ i = .int .i64 k ∧ Hid (all9 (xs.drop k) = all9 xs)) (fun i => xs.length - (intOf i).toNat)
  case atStart => exact ⟨0, Nat.zero_le _, rfl, rfl⟩
  case round =>
    obtain ⟨k, hk, rfl, hr⟩ := hrel
    by_cases hlt : k < xs.length
    · obtain ⟨b, of, rfl, hcell⟩ := hc k hlt
      clear hc
      have Hst := Lib.hid (all9_step hlt hr.out)
      clear hr
      cases hi : inR xs[k] 0 9
      · have hr1 : Hid _ := Hst.out.2 hi
        clear Hst
        go_wp2_with (first | (go_at_call 76; refine (l1In_any _ _ _ _).mono ?_; rintro e w' ⟨rfl, rfl⟩))
        go_ret
        exact ⟨ret_bool (by rw [hr1.out]; rfl), rfl⟩
      · have hr1 : Hid _ := Hst.out.1 hi
        clear Hst
        go_wp2_with (first | (go_at_call 76; refine (l1In_any _ _ _ _).mono ?_; rintro e w' ⟨rfl, rfl⟩))
        go_round
        case rel => exact ⟨k + 1, hlt, by go_num, hr1⟩
        case measure => simp [intOf]; omega
    · go_wp2
      go_ret
      rw [drop_all xs k (by omega)] at hr
      exact ⟨ret_bool (by rw [← hr.out]; simp [all9]), rfl⟩
end Go.Proofs.Ytgcemkpinmjaeaa

namespace Go.Proofs.Ytgcemkpinmjaeaa
open Go.RowKit
set_option linter.all false
def vsum (xs : List Int) : Int := if 9 < xs.length then -1 else if all9 xs then isum 0 xs else -1

set_option maxHeartbeats 400000 in
theorem sVectorSum_any (ao : Option Addr) (n cap : Nat) (xs : List Int) (w : World) (h : Ints w ao n xs) :
    Calls Try.prog 52 #[.slice ao n cap] w fun e w' => e = .returned (.int .i64 (vsum xs)) ∧ w = w' := by
  have h0 := h
  obtain ⟨hn, hm, hc⟩ := h
  subst hn
  by_cases h9 : 9 < xs.length
  · have hg : Hid (vsum xs = -1) := by show vsum xs = -1; simp [vsum, h9]
    have hd : decide (9 < xs.length) = true := by simpa using h9
    clear h0 hc
    go_enter Try.func52, Try.ntmps52
    go_wp2
    go_ret
    exact ⟨ret_int hg.out.symm, rfl⟩
  · have hd : decide (9 < xs.length) = false := by simpa using h9
    have H0 := Lib.hid h0
    clear h0
    cases ha : all9 xs
    · have hg : Hid (vsum xs = -1) := by show vsum xs = -1; simp [vsum, h9, ha]
      go_enter Try.func52, Try.ntmps52
      go_wp2_with (first | (go_at_call 122; refine (l26Fits_any _ _ _ xs _ _ H0.out).mono ?_; rintro e w' ⟨rfl, rfl⟩))
      go_ret
      exact ⟨ret_int hg.out.symm, rfl⟩
    · have hg : Hid (vsum xs = isum 0 xs) := by show vsum xs = _; simp [vsum, h9, ha]
      go_enter Try.func52, Try.ntmps52
      go_wp2_with (first | (go_at_call 122; refine (l26Fits_any _ _ _ xs _ _ H0.out).mono ?_; rintro e w' ⟨rfl, rfl⟩))
      go_loop [3, 4] (fun s i => ∃ (k : Nat) (o : Int), k ≤ xs.length ∧ i = .int .i64 k ∧ s = .int .i64 o ∧ Hid (isum o (xs.drop k) = isum 0 xs)) (fun _ i => xs.length - (intOf i).toNat)
      case atStart => exact ⟨0, 0, Nat.zero_le _, rfl, rfl, rfl⟩
      case round =>
        obtain ⟨k, o, hk, rfl, rfl, hr⟩ := hrel
        by_cases hlt : k < xs.length
        · obtain ⟨b, of, rfl, hcell⟩ := hc k hlt
          clear hc H0
          go_wp2
          go_round
          case rel => exact ⟨k + 1, _, hlt, by go_num, rfl, by rw [List.drop_eq_getElem_cons hlt] at hr; exact hr⟩
          case measure => simp [intOf]; omega
        · go_wp2
          go_ret
          rw [drop_all xs k (by omega)] at hr
          exact ⟨ret_int (hr.out.trans hg.out.symm), rfl⟩
end Go.Proofs.Ytgcemkpinmjaeaa

namespace Go.Proofs.Ytgcemkpinmjaeaa
open Go.RowKit
set_option linter.all false
def vrows (a : Int) (v : List Int) : List (List Int) → List Int → Bool
  | r :: rs, y :: ys => !decide (wdot 0 r v < wrap64 (a * y)) && vrows a v rs ys
  | _, _ => true
def isVec (m : List (List Int)) (a : Int) (v : List Int) : Bool := isGraph m && (inR a 1 9 && (decide (v.length = m.length) && (all9 v && (!(vsum v == 0) && vrows a v m v))))
theorem vrows_step {a : Int} {v : List Int} {m : List (List Int)} {k : Nat} {r : List Int} {y : Int} {b : Bool} (hr : m[k]? = some r) (hy : v[k]? = some y) (h : vrows a v (m.drop k) (v.drop k) = b) :
    (wdot 0 r v < wrap64 (a * y) → b = false) ∧ (¬ wdot 0 r v < wrap64 (a * y) → vrows a v (m.drop (k + 1)) (v.drop (k + 1)) = b) := by
  rw [drop_of_get hr, drop_of_get hy] at h
  constructor
  · intro e; simpa [vrows, e] using h.symm
  · intro e
    have e' : decide (wdot 0 r v < wrap64 (a * y)) = false := by simpa using e
    simp only [vrows, e', Bool.not_false, Bool.true_and] at h
    exact h
theorem vrows_end {a : Int} {v : List Int} {m : List (List Int)} {k : Nat} {b : Bool} (hk : m.length ≤ k) (h : vrows a v (m.drop k) (v.drop k) = b) : b = true := by
  rw [drop_all m k hk] at h
  rw [← h]
  simp [vrows]
theorem vsum_small {v : List Int} (hl : v.length ≤ 9) : (vsum v < 1) ↔ (all9 v = false ∨ vsum v = 0) := by
  unfold vsum
  rw [if_neg (by omega)]
  cases h : all9 v
  · simp
  · have h1 : allIn 0 9 v = true := h
    have h2 := isum_row (by decide) (by decide) h1 (by omega)
    simp only [if_true, Bool.true_eq_false, false_or]
    omega
end Go.Proofs.Ytgcemkpinmjaeaa

namespace Go.Proofs.Ytgcemkpinmjaeaa
open Go.RowKit
set_option linter.all false
def mn (x y : Int) : Int := if x < y then x else y
end Go.Proofs.Ytgcemkpinmjaeaa

namespace Go.Proofs.Ytgcemkpinmjaeaa
open Go.RowKit
set_option linter.all false
def gstep (m : List (List Int)) (a : Int) (v : List Int) : List Int := List.zipWith (fun r y => mn y ((wdot 0 r v).tdiv a)) m v
def gv (m : List (List Int)) (a : Int) : Nat → List Int → List Int
  | 0, v => v
  | f + 1, v => if gstep m a v = v then v else gv m a f (gstep m a v)
/-- Of the same length, numbers from 0 to 9. -/
def Nine (n : Nat) (v : List Int) : Prop := v.length = n ∧ ∀ x ∈ v, 0 ≤ x ∧ x ≤ 9
theorem gstep_len {m : List (List Int)} {a : Int} {v : List Int} (h : v.length = m.length) : (gstep m a v).length = m.length := by
  simp [gstep, h]
theorem gstep_get {m : List (List Int)} {a y : Int} {v r : List Int} {i : Nat} (hr : m[i]? = some r) (hy : v[i]? = some y) : (gstep m a v)[i]? = some (mn y ((wdot 0 r v).tdiv a)) := by
  simp [gstep, List.getElem?_zipWith, hr, hy]
theorem wdot_bound : ∀ (r v : List Int) (a : Int), (∀ x ∈ r, 0 ≤ x ∧ x ≤ 1000000) → (∀ y ∈ v, 0 ≤ y ∧ y ≤ 9) → 0 ≤ a → a + 9000000 * (r.length : Int) ≤ 1099511627776 → 0 ≤ wdot a r v ∧ wdot a r v ≤ a + 9000000 * (r.length : Int)
  | [], v, a, _, _, h0, _ => by simp [wdot]; exact h0
  | x :: r, [], a, _, _, h0, h1 => by simp only [wdot, List.length_cons] at *; omega
  | x :: r, y :: v, a, hx, hy, h0, h1 => by
    have hx1 := hx x (by simp)
    have hy1 := hy y (by simp)
    have h2 : 0 ≤ x * y := Int.mul_nonneg hx1.1 hy1.1
    have h3 : x * y ≤ 9000000 := by
      have := Int.mul_le_mul hx1.2 hy1.2 hy1.1 (by omega)
      omega
    simp only [List.length_cons] at h1 ⊢
    have e1 : wrap64 (x * y) = x * y := wrap_id (by omega)
    have e2 : wrap64 (a + x * y) = a + x * y := wrap_id (by omega)
    unfold wdot
    rw [e1, e2]
    have := wdot_bound r v (a + x * y) (fun z hz => hx z (by simp [hz])) (fun z hz => hy z (by simp [hz])) (by omega) (by omega)
    omega
/-- One step keeps the numbers from 0 to 9; where it changes any, their sum is less. -/
theorem zip_less : ∀ (rs : List (List Int)) (v : List Int) (f : List Int → Int), rs.length = v.length → (∀ r ∈ rs, 0 ≤ f r) → (∀ x ∈ v, 0 ≤ x ∧ x ≤ 9) →
    (∀ x ∈ List.zipWith (fun r y => mn y (f r)) rs v, 0 ≤ x ∧ x ≤ 9) ∧ (List.zipWith (fun r y => mn y (f r)) rs v).sum ≤ v.sum ∧ (List.zipWith (fun r y => mn y (f r)) rs v ≠ v → (List.zipWith (fun r y => mn y (f r)) rs v).sum < v.sum)
  | [], [], _, _, _, _ => by simp
  | [], _ :: _, _, h, _, _ => by simp at h
  | _ :: _, [], _, h, _, _ => by simp at h
  | r :: rs, y :: v, f, hl, hf, hv => by
    have ih := zip_less rs v f (by simpa using hl) (fun r hr => hf r (by simp [hr])) (fun x hx => hv x (by simp [hx]))
    have h1 := hf r (by simp)
    have h2 := hv y (by simp)
    simp only [List.zipWith_cons_cons, List.sum_cons]
    have hm : 0 ≤ mn y (f r) ∧ mn y (f r) ≤ y := by unfold mn; split <;> omega
    refine ⟨?_, by omega, ?_⟩
    · intro x hx
      rcases List.mem_cons.1 hx with rfl | hx
      · omega
      · exact ih.1 x hx
    · intro hne
      by_cases e : mn y (f r) = y
      · have : List.zipWith (fun r y => mn y (f r)) rs v ≠ v := fun e2 => hne (by rw [e, e2])
        have := ih.2.2 this
        omega
      · omega
theorem gstep_nine {m : List (List Int)} {a : Int} {v : List Int} (hm : isMat m = true) (ha : 1 ≤ a) (hv : Nine m.length v) : Nine m.length (gstep m a v) ∧ (gstep m a v ≠ v → (gstep m a v).sum < v.sum) := by
  have hf : ∀ r ∈ m, 0 ≤ (wdot 0 r v).tdiv a := by
    intro r hr
    obtain ⟨k, hk⟩ := List.getElem?_of_mem hr
    have h1 := isMat_row hm hk
    have h2 := isMat_len hm
    have := wdot_bound r v 0 (fun x hx => by obtain ⟨j, hj⟩ := List.getElem?_of_mem hx; exact allIn_get h1.2 hj) hv.2 (by omega) (by omega)
    exact Int.tdiv_nonneg this.1 (by omega)
  have h := zip_less m v (fun r => (wdot 0 r v).tdiv a) hv.1.symm hf hv.2
  exact ⟨⟨gstep_len hv.1, h.1⟩, h.2.2⟩
theorem nine_sum : ∀ (v : List Int), (∀ x ∈ v, 0 ≤ x ∧ x ≤ 9) → 0 ≤ v.sum ∧ v.sum ≤ 9 * v.length
  | [], _ => by simp
  | x :: v, h => by
    have := nine_sum v (fun y hy => h y (by simp [hy]))
    have := h x (by simp)
    simp only [List.sum_cons, List.length_cons]
    omega
/-- What is still to come: enough steps are left for all that the sum can lose. -/
def gleft (v : List Int) : Nat := v.sum.toNat + 1
def gvN (m : List (List Int)) (a : Int) (v : List Int) : List Int := gv m a (gleft v) v
theorem gv_more {m : List (List Int)} {a : Int} (hm : isMat m = true) (ha : 1 ≤ a) : ∀ (f g : Nat) (v : List Int), Nine m.length v → v.sum.toNat < f → v.sum.toNat < g → gv m a f v = gv m a g v
  | 0, _, _, _, h, _ => by omega
  | _, 0, _, _, _, h => by omega
  | f + 1, g + 1, v, hv, h1, h2 => by
    unfold gv
    split
    · rfl
    · rename_i hne
      have h := gstep_nine hm ha hv
      have h3 := h.2 hne
      have h4 := nine_sum _ h.1.2
      exact gv_more hm ha f g _ h.1 (by omega) (by omega)
theorem gvN_same {m : List (List Int)} {a : Int} {v : List Int} (h : gstep m a v = v) : gvN m a v = v := by
  unfold gvN gleft gv
  rw [if_pos h]
theorem gvN_step {m : List (List Int)} {a : Int} {v : List Int} (hm : isMat m = true) (ha : 1 ≤ a) (hv : Nine m.length v) (h : gstep m a v ≠ v) : gvN m a (gstep m a v) = gvN m a v ∧ Nine m.length (gstep m a v) ∧ (gstep m a v).sum.toNat < v.sum.toNat := by
  have h1 := gstep_nine hm ha hv
  have h2 := h1.2 h
  have h3 := nine_sum _ h1.1.2
  refine ⟨?_, h1.1, by omega⟩
  have e : gvN m a v = gv m a v.sum.toNat (gstep m a v) := by
    unfold gvN gleft
    show (if gstep m a v = v then v else gv m a v.sum.toNat (gstep m a v)) = _
    rw [if_neg h]
  rw [e]
  exact gv_more hm ha _ _ _ h1.1 (by unfold gleft; omega) (by omega)
end Go.Proofs.Ytgcemkpinmjaeaa

namespace Go.Proofs.Ytgcemkpinmjaeaa
open Go.RowKit
set_option linter.all false
def greatOk (m : List (List Int)) (a b : Int) : Bool := isGraph m && (inR a 1 9 && inR b 1 9)
def greatL (m : List (List Int)) (a b : Int) : List Int := gvN m a (List.replicate m.length b)
def great (m : List (List Int)) (a b : Int) : Bool := greatOk m a b && !((greatL m a b).sum == 0)
def greatV (m : List (List Int)) (a b : Int) : List Int := if great m a b then greatL m a b else []
theorem nine_rep {n : Nat} {b : Int} (h : inR b 1 9 = true) : Nine n (List.replicate n b) := by
  have := inR_true h
  refine ⟨by simp, fun x hx => ?_⟩
  rw [List.mem_replicate] at hx
  omega
theorem nine_all9 {n : Nat} {v : List Int} (h : Nine n v) : all9 v = true := by
  simp only [all9, List.all_eq_true]
  intro x hx
  exact inR_mk (h.2 x hx)
theorem nine_isum {n : Nat} {v : List Int} (h : Nine n v) (hn : n ≤ 1048576) : isum 0 v = v.sum := by
  have h1 : allIn 0 9 v = true := nine_all9 h
  exact (isum_row (by decide) (by decide) h1 (by rw [h.1]; exact hn)).1
theorem nine_vsum {n : Nat} {v : List Int} (h : Nine n v) (hn : n ≤ 9) : vsum v = v.sum := by
  unfold vsum
  rw [if_neg (by rw [h.1]; omega), nine_all9 h]
  simp only [if_true]
  exact nine_isum h (by omega)
end Go.Proofs.Ytgcemkpinmjaeaa

namespace Go.Proofs.Ytgcemkpinmjaeaa
open Go.RowKit
set_option linter.all false
def leastFrom (m : List (List Int)) (a : Int) : Nat → Nat → Option (List Int)
  | 0, _ => none
  | f + 1, b => if great m a (b : Int) then some (greatV m a (b : Int)) else leastFrom m a f (b + 1)
def leastO (m : List (List Int)) (a : Int) : Option (List Int) := leastFrom m a 9 1
def least (m : List (List Int)) (a : Int) : Bool := (leastO m a).isSome
def leastV (m : List (List Int)) (a : Int) : List Int := (leastO m a).getD []
theorem least_at {m : List (List Int)} {a : Int} {k : Nat} (hk : k ≤ 9) (h : Hid (leastFrom m a (10 - k) k = leastO m a)) (hg : great m a (k : Int) = true) : least m a = true ∧ leastV m a = greatV m a (k : Int) := by
  have e : 10 - k = (9 - k) + 1 := by omega
  have h := h.out
  rw [e] at h
  simp only [leastFrom, hg, if_true] at h
  simp [least, leastV, ← h]
theorem least_next {m : List (List Int)} {a : Int} {k : Nat} (hk : k ≤ 9) (h : Hid (leastFrom m a (10 - k) k = leastO m a)) (hg : great m a (k : Int) = false) : Hid (leastFrom m a (10 - (k + 1)) (k + 1) = leastO m a) := by
  have e : 10 - k = (10 - (k + 1)) + 1 := by omega
  have h := h.out
  rw [e] at h
  simp only [leastFrom, hg] at h
  exact h
theorem least_end {m : List (List Int)} {a : Int} {k : Nat} (hk : k = 10) (h : Hid (leastFrom m a (10 - k) k = leastO m a)) : least m a = false ∧ leastV m a = [] := by
  subst hk
  have h := h.out
  simp [leastFrom] at h
  simp [least, leastV, ← h]
end Go.Proofs.Ytgcemkpinmjaeaa

namespace Go.Proofs.Ytgcemkpinmjaeaa
open Go.RowKit
set_option linter.all false
set_option maxHeartbeats 800000 in
theorem sSumOf_any (ao : Option Addr) (n cap : Nat) (xss : List (List Int)) (w : World) (h : Intss w ao n xss) :
    Calls Try.prog 168 #[.slice ao n cap] w fun e w' => e = .returned (.int .i64 (sumOf xss)) ∧ w = w' := by
  have hm := h.2.1
  have HL := Lib.hid h.1
  have H := Lib.hid h
  clear h
  cases hmat : isMat xss
  · have hg : Hid (sumOf xss = -1) := by show sumOf xss = _; simp [sumOf, hmat]
    go_enter Try.func168, Try.ntmps168
    go_wp2_with (first | (go_at_call 125; refine (sIsMatrix_any _ _ _ xss _ H.out).mono ?_; rintro e w' ⟨rfl, rfl⟩))
    go_ret
    exact ⟨ret_int hg.out.symm, rfl⟩
  · have hg : Hid (sumOf xss = msum xss) := by show sumOf xss = _; simp [sumOf, hmat]
    have HM := Lib.hid hmat
    have hms := isMat_msum hmat
    go_enter Try.func168, Try.ntmps168
    go_wp2_with (first | (go_at_call 125; refine (sIsMatrix_any _ _ _ xss _ H.out).mono ?_; rintro e w' ⟨rfl, rfl⟩))
    go_loop [3, 4] (fun s i => ∃ (k : Nat) (t : Int), k ≤ n ∧ i = .int .i64 k ∧ s = .int .i64 t ∧ 0 ≤ t ∧ Hid (t + msum (xss.drop k) = msum xss)) (fun _ i => n - (intOf i).toNat)
    case atStart => exact ⟨0, 0, Nat.zero_le _, rfl, rfl, by omega, Int.zero_add _⟩
    case round =>
      obtain ⟨k, t, hk, rfl, rfl, ht, hr⟩ := hrel
      by_cases hlt : k < n
      · obtain ⟨b, o, ai, ci, r, rfl, hcell, hrow, hget⟩ := H.out.at_ hlt
        have Hrow := Lib.hid hrow
        clear hrow H
        have HR := Lib.hid (isMat_row HM.out hget.out)
        have hrl : r.length ≤ n := by have := HR.out.1; have := HL.out; omega
        have hrl' : n ≤ r.length := by have := HR.out.1; have := HL.out; omega
        have h2 := rest_nonneg HM.out (k + 1)
        have hd := hr.out
        rw [drop_of_get hget.out, msum_cons] at hd
        have hr0 : Hid (t + r.sum + msum (xss.drop (k + 1)) = msum xss) := by show t + r.sum + msum (xss.drop (k + 1)) = msum xss; omega
        have hq : t + r.sum ≤ 81000000 := by omega
        clear hr hd h2
        go_wp2
        go_loop [3, 5] (fun s i => ∃ (j : Nat) (u : Int), j ≤ n ∧ i = .int .i64 j ∧ s = .int .i64 u ∧ 0 ≤ u ∧ Hid (u + (r.drop j).sum = t + r.sum)) (fun _ i => n - (intOf i).toNat)
        case atStart => exact ⟨0, t, Nat.zero_le _, rfl, rfl, ht, rfl⟩
        case round =>
          obtain ⟨j, u, hj, rfl, rfl, hu, hrj⟩ := hrel
          by_cases hjn : j < n
          · obtain ⟨b', o', x, rfl, hcell', hget'⟩ := Hrow.out.at_ (k := j) (by omega)
            have hjr : j < r.length := by omega
            have hx := allIn_get HR.out.2 hget'.out
            have h4 := rest_row (by decide) HR.out.2 (j + 1)
            have hd := hrj.out
            rw [drop_of_get hget'.out, List.sum_cons] at hd
            have h5 : u + x ≤ 81000000 := by omega
            have hr1 : Hid (u + x + (r.drop (j + 1)).sum = t + r.sum) := by show u + x + (r.drop (j + 1)).sum = t + r.sum; omega
            clear hrj hd h4 Hrow
            go_wp2
            go_round
            case rel => exact ⟨j + 1, _, hjn, by go_num, rfl, by omega, hr1⟩
            case measure => simp [intOf]; omega
          · have hr1 : Hid (u + msum (xss.drop (k + 1)) = msum xss) := by
              have h6 := hrj.out
              rw [drop_all r j (by omega), List.sum_nil, Int.add_zero] at h6
              have h7 := hr0.out
              show u + msum (xss.drop (k + 1)) = msum xss
              omega
            clear hrj Hrow
            go_wp2
            go_round
            case rel => exact ⟨k + 1, _, hlt, by go_num, rfl, hu, hr1⟩
            case measure => simp [intOf]; omega
      · go_wp2
        go_ret
        rw [drop_all xss k (by have := HL.out; omega)] at hr
        exact ⟨ret_int (by rw [hg.out, ← hr.out]; simp [msum]), rfl⟩
end Go.Proofs.Ytgcemkpinmjaeaa

namespace Go.Proofs.Ytgcemkpinmjaeaa
open Go.RowKit
set_option linter.all false
set_option maxHeartbeats 800000 in
theorem sIsGraph_any (ao : Option Addr) (n cap : Nat) (xss : List (List Int)) (w : World) (h : Intss w ao n xss) :
    Calls Try.prog 117 #[.slice ao n cap] w fun e w' => e = .returned (.bool (isGraph xss)) ∧ w = w' := by
  have H := Lib.hid h
  clear h
  cases hmat : isMat xss
  · have hg : Hid (isGraph xss = false) := by show isGraph xss = _; simp [isGraph, hmat]
    go_enter Try.func117, Try.ntmps117
    go_wp2_with (first | (go_at_call 125; refine (sIsMatrix_any _ _ _ xss _ H.out).mono ?_; rintro e w' ⟨rfl, rfl⟩))
    go_ret
    exact ⟨ret_bool hg.out.symm, rfl⟩
  · have hg : Hid (isGraph xss = decide (sumOf xss ≤ 60)) := by show isGraph xss = _; simp [isGraph, hmat]
    go_enter Try.func117, Try.ntmps117
    go_wp2_with (first | (go_at_call 125; refine (sIsMatrix_any _ _ _ xss _ H.out).mono ?_; rintro e w' ⟨rfl, rfl⟩) | (go_at_call 168; refine (sSumOf_any _ _ _ xss _ H.out).mono ?_; rintro e w' ⟨rfl, rfl⟩))
    go_ret
    exact ⟨ret_bool hg.out.symm, rfl⟩
end Go.Proofs.Ytgcemkpinmjaeaa

namespace Go.Proofs.Ytgcemkpinmjaeaa
open Go.RowKit
set_option linter.all false
set_option maxHeartbeats 800000 in
theorem l26Row_any (p : Option Addr) (n c : Nat) (xss : List (List Int)) (p' : Option Addr) (n' c' : Nat) (v : List Int) (i : Int) (k : Nat) (r : List Int) (w : World) (h : Intss w p n xss) (h' : Ints w p' n' v)
    (hi : i = k) (hr : xss[k]? = some r) (hl : r.length = n) (hl' : n ≤ n') :
    Calls Try.prog 119 #[.slice p n c, .slice p' n' c', .int .i64 i] w fun e w' => e = .returned (.int .i64 (wdot 0 r v)) ∧ Drew w w' := by
  subst hi
  have hm := h.2.1
  have hm' := h'.2.1
  have hkn : k < n := by rw [← h.1]; exact (List.getElem?_eq_some_iff.1 hr).1
  obtain ⟨b, o, ai, ci, r', rfl, hcell, hrow, hget⟩ := h.at_ hkn
  have e : r' = r := by have := hget.out; rw [hr] at this; injection this with this; exact this.symm
  subst e
  have hrl : r'.length ≤ n := by omega
  have hrl' : n ≤ r'.length := by omega
  have H := Lib.hid hrow
  have H' := Lib.hid h'
  clear h h' hrow hget hr hl
  go_enter Try.func119, Try.ntmps119
  go_wp2
  go_loopw [7, 8] (fun s i wr => ∃ (j : Nat) (t : Int), j ≤ n ∧ i = .int .i64 j ∧ s = .int .i64 t ∧ Drew w wr ∧ Hid (wdot t (r'.drop j) (v.drop j) = wdot 0 r' v)) (fun _ i _ => n - (intOf i).toNat)
  case atStart => exact ⟨0, 0, Nat.zero_le _, rfl, rfl, Drew.refl w, rfl⟩
  case round =>
    obtain ⟨j, t, hj, rfl, rfl, ⟨m, rfl⟩, hr⟩ := hrel
    by_cases hlt : j < n
    · obtain ⟨b', o', x, rfl, hcell2, hget⟩ := H.out.at_ (k := j) (by omega)
      obtain ⟨b3, o3, y, rfl, hcell3, hget'⟩ := H'.out.at_ (k := j) (by omega)
      have hlt' : j < n' := by omega
      have hlt2 : j < r'.length := by omega
      have hr1 : Hid _ := wdot_step hget.out hget'.out hr.out
      clear H H' hr
      go_wp2_with fail
      go_quiet (fail)
      go_wp2
      go_roundw
      case rel => exact ⟨j + 1, _, hlt, by go_num, rfl, (by first | exact Drew.refl _ | exact Drew.mk _ _ | exact (Drew.mk _ _).drewN _), hr1⟩
      case measure => simp [intOf]; omega
    · go_wp2
      go_ret
      exact ⟨ret_int (wdot_end (by omega) hr.out), (by first | exact Drew.refl _ | exact Drew.mk _ _ | exact (Drew.mk _ _).drewN _)⟩
end Go.Proofs.Ytgcemkpinmjaeaa

namespace Go.Proofs.Ytgcemkpinmjaeaa
open Go.RowKit
set_option linter.all false
theorem l1Min_any (x y : Int) (w : World) :
    Calls Try.prog 118 #[.int .i64 x, .int .i64 y] w fun e w' => e = .returned (.int .i64 (mn x y)) ∧ w = w' := by
  by_cases h : x < y
  · have e : mn x y = x := by unfold mn; rw [if_pos h]
    rw [e]
    go_enter Try.func118, Try.ntmps118
    go_wp2_with fail
    go_ret
    exact ⟨rfl, rfl⟩
  · have e : mn x y = y := by unfold mn; rw [if_neg h]
    rw [e]
    go_enter Try.func118, Try.ntmps118
    go_wp2_with fail
    go_ret
    exact ⟨rfl, rfl⟩
end Go.Proofs.Ytgcemkpinmjaeaa

namespace Go.Proofs.Ytgcemkpinmjaeaa
open Go.RowKit
set_option linter.all false
abbrev Ar := Int × Int × Int
def arV (x : Ar) : Value := .agg #[.int .i64 x.1, .int .i64 x.2.1, .int .i64 x.2.2]
def arCells : List Ar → List Value
  | [] => []
  | x :: r => .int .i64 x.1 :: .int .i64 x.2.1 :: .int .i64 x.2.2 :: arCells r
theorem arCells_len : ∀ xs : List Ar, (arCells xs).length = xs.length * 3
  | [] => rfl
  | x :: r => by simp only [arCells, List.length_cons, arCells_len r]; omega
theorem arCells_app : ∀ (xs ys : List Ar), arCells (xs ++ ys) = arCells xs ++ arCells ys
  | [], _ => rfl
  | x :: r, ys => by simp only [List.cons_append, arCells, arCells_app r ys]
theorem arCells_get : ∀ (xs : List Ar) (i : Nat) (x : Ar), xs[i]? = some x → (arCells xs)[i * 3]? = some (.int .i64 x.1) ∧ (arCells xs)[i * 3 + 1]? = some (.int .i64 x.2.1) ∧ (arCells xs)[i * 3 + 2]? = some (.int .i64 x.2.2)
  | [], _, _, h => by simp at h
  | y :: r, 0, x, h => by simp at h; subst h; exact ⟨rfl, rfl, rfl⟩
  | y :: r, i + 1, x, h => by
    have := arCells_get r i x (by simpa using h)
    rw [show (i + 1) * 3 = i * 3 + 3 by omega, show i * 3 + 3 + 1 = i * 3 + 1 + 3 by omega, show i * 3 + 3 + 2 = i * 3 + 2 + 3 by omega]
    exact this
theorem arCells_set1 : ∀ (xs : List Ar) (i : Nat) (x : Ar) (u : Int), xs[i]? = some x → (arCells xs).set (i * 3) (.int .i64 u) = arCells (xs.set i (u, x.2.1, x.2.2))
  | [], _, _, _, h => by simp at h
  | y :: r, 0, x, u, h => by simp at h; subst h; rfl
  | y :: r, i + 1, x, u, h => by
    have := arCells_set1 r i x u (by simpa using h)
    rw [show (i + 1) * 3 = i * 3 + 1 + 1 + 1 by omega]
    simp only [arCells, List.set_cons_succ, this]
theorem arCells_set2 : ∀ (xs : List Ar) (i : Nat) (x : Ar) (u : Int), xs[i]? = some x → (arCells xs).set (i * 3 + 1) (.int .i64 u) = arCells (xs.set i (x.1, u, x.2.2))
  | [], _, _, _, h => by simp at h
  | y :: r, 0, x, u, h => by simp at h; subst h; rfl
  | y :: r, i + 1, x, u, h => by
    have := arCells_set2 r i x u (by simpa using h)
    rw [show (i + 1) * 3 + 1 = i * 3 + 1 + 1 + 1 + 1 by omega]
    simp only [arCells, List.set_cons_succ, this]
theorem arCells_set3 : ∀ (xs : List Ar) (i : Nat) (x : Ar) (u : Int), xs[i]? = some x → (arCells xs).set (i * 3 + 2) (.int .i64 u) = arCells (xs.set i (x.1, x.2.1, u))
  | [], _, _, _, h => by simp at h
  | y :: r, 0, x, u, h => by simp at h; subst h; rfl
  | y :: r, i + 1, x, u, h => by
    have := arCells_set3 r i x u (by simpa using h)
    rw [show (i + 1) * 3 + 2 = i * 3 + 2 + 1 + 1 + 1 by omega]
    simp only [arCells, List.set_cons_succ, this]

/-- The slice value '.slice ao n cap' reads in w as the list xs of arcs. -/
def Arcs (w : World) (ao : Option Addr) (n : Nat) (xs : List Ar) : Prop :=
  xs.length = n ∧ n ≤ 1099511627776 ∧ ∀ i x, xs[i]? = some x → ∃ b o, ao = some ⟨b, o, none⟩ ∧ w.cell? ⟨b, o + i * 3, none⟩ = some (.int .i64 x.1) ∧ w.cell? ⟨b, o + i * 3 + 1, none⟩ = some (.int .i64 x.2.1) ∧ w.cell? ⟨b, o + i * 3 + 2, none⟩ = some (.int .i64 x.2.2)
theorem Arcs.keep {w w' : World} {ao : Option Addr} {n : Nat} {xs : List Ar} (h : Arcs w ao n xs) (hb : Below w.heap.size w w') : Arcs w' ao n xs := by
  refine ⟨h.1, h.2.1, fun i x hi => ?_⟩
  obtain ⟨b, o, e, h1, h2, h3⟩ := h.2.2 i x hi
  exact ⟨b, o, e, (hb.cell (p := ⟨b, _, none⟩) (World.block_lt_of_cell? w _ h1)).trans h1, (hb.cell (p := ⟨b, _, none⟩) (World.block_lt_of_cell? w _ h2)).trans h2, (hb.cell (p := ⟨b, _, none⟩) (World.block_lt_of_cell? w _ h3)).trans h3⟩
theorem Arcs.drewN {w : World} {ao : Option Addr} {n : Nat} {xs : List Ar} (h : Arcs w ao n xs) (k : Nat) : Arcs (w.drewN k) ao n xs := h
theorem Arcs.at_ {w : World} {ao : Option Addr} {n k : Nat} {xs : List Ar} (h : Arcs w ao n xs) (hk : k < n) :
    ∃ b o x y z, ao = some ⟨b, o, none⟩ ∧ w.cell? ⟨b, o + k * 3, none⟩ = some (.int .i64 x) ∧ w.cell? ⟨b, o + k * 3 + 1, none⟩ = some (.int .i64 y) ∧ w.cell? ⟨b, o + k * 3 + 2, none⟩ = some (.int .i64 z) ∧ Hid (xs[k]? = some (x, y, z)) := by
  have hl : k < xs.length := by rw [h.1]; exact hk
  obtain ⟨b, o, e, h1, h2, h3⟩ := h.2.2 k _ (List.getElem?_eq_getElem hl)
  exact ⟨b, o, _, _, _, e, h1, h2, h3, List.getElem?_eq_getElem hl⟩

/-- The slice value v is the call's own, and holds just the list xs of arcs. -/
def OArcs (w : World) (lo : Nat) (v : Value) (n : Nat) (xs : List Ar) : Prop :=
  n ≤ 1099511627776 ∧ w.ownsRow lo 107 3 v n (arCells xs)
section
variable {w w' : World} {lo n : Nat} {v : Value} {xs : List Ar}
theorem OArcs.len (h : OArcs w lo v n xs) : xs.length = n := by have := h.2.1; rw [arCells_len] at this; omega
theorem OArcs.keep (h : OArcs w lo v n xs) (hb : Below w.heap.size w w') : OArcs w' lo v n xs := ⟨h.1, own_keep h.2 hb⟩
theorem OArcs.grown {row : Option Nat} (h : OArcs w lo v n xs) (hg : w.grownBy w' row) (hne : v.ownBlock = none ∨ v.ownBlock ≠ row) : OArcs w' lo v n xs := ⟨h.1, h.2.kept hg hne⟩
theorem OArcs.alloc (h : OArcs w lo v n xs) (o : Obj) : OArcs (w.alloc o) lo v n xs := ⟨h.1, h.2.alloc o⟩
theorem OArcs.drewN (h : OArcs w lo v n xs) (k : Nat) : OArcs (w.drewN k) lo v n xs := h
theorem OArcs.mono {lo' : Nat} (h : OArcs w lo v n xs) (hl : lo' ≤ lo) : OArcs w lo' v n xs := by
  refine ⟨h.1, h.2.1, ?_⟩
  rcases h.2.2 with h2 | ⟨g, cap, cur, hv, hg, r⟩
  · exact .inl h2
  · exact .inr ⟨g, cap, cur, hv, Nat.le_trans hl hg, r⟩
theorem OArcs.ownlt (h : OArcs w lo v n xs) : ∀ k, v.ownBlock = some k → lo ≤ k ∧ k < w.heap.size := h.2.lt
/-- nil, or a slice at the head of a block. -/
theorem OArcs.form (h : OArcs w lo v n xs) : ∃ ao cap, v = .slice ao n cap ∧ Arcs w ao n xs := by
  have hl := h.len
  rcases h.2.2 with ⟨rfl, rfl⟩ | ⟨g, cap, cur, rfl, hg, hh, hnc, _, _, ht⟩
  · exact ⟨none, 0, rfl, hl, h.1, fun i x hi => by rw [List.eq_nil_of_length_eq_zero hl] at hi; simp at hi⟩
  · refine ⟨some ⟨g, 0, none⟩, cap, rfl, hl, h.1, fun i x hi => ⟨g, 0, rfl, ?_⟩⟩
    obtain ⟨c1, c2, c3⟩ := arCells_get xs i x hi
    have d1 := h.2.cells (g := g) rfl _ _ c1
    have d2 := h.2.cells (g := g) rfl _ _ c2
    have d3 := h.2.cells (g := g) rfl _ _ c3
    rw [Addr.add_lit, Nat.zero_add] at d1 d2 d3
    rw [Nat.zero_add]
    exact ⟨d1, d2, d3⟩
theorem OArcs.two {cap : Nat} {ao : Option Addr} (h : OArcs w lo (.slice ao n cap) n xs) : (ao = none ∧ n = 0) ∨ ∃ g, ao = some ⟨g, 0, none⟩ := by
  rcases h.2.2 with ⟨e, hn⟩ | ⟨g, c, cur, e, _⟩
  · injection e with e1
    exact .inl ⟨e1, hn⟩
  · injection e with e1
    exact .inr ⟨g, e1⟩
theorem OArcs.read {cap : Nat} {ao : Option Addr} (h : OArcs w lo (.slice ao n cap) n xs) : Arcs w ao n xs := by
  obtain ⟨ao', cap', e, hi⟩ := h.form
  injection e with e1
  subst e1
  exact hi
theorem OArcs.capLe {m cap : Nat} {ao : Option Addr} (h : OArcs w lo v n xs) (e : v = .slice ao m cap) : n ≤ cap := by
  rcases h.2.2 with ⟨rfl, rfl⟩ | ⟨g, c, cur, rfl, _, _, hnc, _⟩
  · exact Nat.zero_le _
  · injection e with _ _ e3
    omega
theorem OArcs.within {hi lo2 : Nat} (h : OArcs w lo v n xs) (hw : Within lo2 hi w w') (hl : hi ≤ lo) : OArcs w' lo v n xs := ⟨h.1, own_within h.2 hw hl⟩
theorem OArcs.since (h : OArcs w lo v n xs) (hw : Since lo w.heap.size w w') : OArcs w' lo v n xs := ⟨h.1, own_since h.2 hw⟩
theorem OArcs.none_ (w : World) (lo : Nat) : OArcs w lo (.slice none 0 0) 0 [] := ⟨by omega, by simp [arCells], .inl ⟨rfl, rfl⟩⟩
theorem OArcs.empty (w : World) (lo : Nat) (hlo : lo ≤ w.heap.size) : OArcs (w.alloc (.cells #[] 107)) lo (.slice (some ⟨w.heap.size, 0, none⟩) 0 0) 0 [] := by
  refine ⟨by omega, ?_⟩
  exact World.ownsRow_made (base := lo) (e := 107) (size := 3) w #[] 0 hlo (by unfold maxLen; omega) rfl
end
section
variable {w w' : World} {lo g n cap : Nat} {xs : List Ar}
theorem OArcs.lt (h : OArcs w lo (.slice (some ⟨g, 0, none⟩) n cap) n xs) : lo ≤ g ∧ g < w.heap.size := h.2.lt g rfl
theorem OArcs.frozen (h : OArcs w lo (.slice (some ⟨g, 0, none⟩) n cap) n xs) (k : Nat) : w.frozen? ⟨g, k, none⟩ = false := h.2.frozenAt k
theorem OArcs.cells (h : OArcs w lo (.slice (some ⟨g, 0, none⟩) n cap) n xs) {k : Nat} {x : Ar} (hk : xs[k]? = some x) : w.cell? ⟨g, k * 3, none⟩ = some (.int .i64 x.1) ∧ w.cell? ⟨g, k * 3 + 1, none⟩ = some (.int .i64 x.2.1) ∧ w.cell? ⟨g, k * 3 + 2, none⟩ = some (.int .i64 x.2.2) := by
  obtain ⟨b, o, e, h1, h2, h3⟩ := h.read.2.2 k x hk
  injection e with e
  injection e with e1 e2
  subst e1
  subst e2
  rw [Nat.zero_add] at h1 h2 h3
  exact ⟨h1, h2, h3⟩
theorem OArcs.set1 (h : OArcs w lo (.slice (some ⟨g, 0, none⟩) n cap) n xs) {k : Nat} {x : Ar} (hk : xs[k]? = some x) (u : Int) : OArcs (w.setCell ⟨g, k * 3, none⟩ (.int .i64 u)) lo (.slice (some ⟨g, 0, none⟩) n cap) n (xs.set k (u, x.2.1, x.2.2)) :=
  ⟨h.1, by rw [← arCells_set1 _ _ _ _ hk]; exact (h.2.stored _ _).1⟩
theorem OArcs.set2 (h : OArcs w lo (.slice (some ⟨g, 0, none⟩) n cap) n xs) {k : Nat} {x : Ar} (hk : xs[k]? = some x) (u : Int) : OArcs (w.setCell ⟨g, k * 3 + 1, none⟩ (.int .i64 u)) lo (.slice (some ⟨g, 0, none⟩) n cap) n (xs.set k (x.1, u, x.2.2)) :=
  ⟨h.1, by rw [← arCells_set2 _ _ _ _ hk]; exact (h.2.stored _ _).1⟩
theorem OArcs.set3 (h : OArcs w lo (.slice (some ⟨g, 0, none⟩) n cap) n xs) {k : Nat} {x : Ar} (hk : xs[k]? = some x) (u : Int) : OArcs (w.setCell ⟨g, k * 3 + 2, none⟩ (.int .i64 u)) lo (.slice (some ⟨g, 0, none⟩) n cap) n (xs.set k (x.1, x.2.1, u)) :=
  ⟨h.1, by rw [← arCells_set3 _ _ _ _ hk]; exact (h.2.stored _ _).1⟩
end
theorem info_arc : (Try.prog.info? 107).map (fun i => (i.zero, i.size, i.bytes)) = some (some (.agg #[.int .i64 0, .int .i64 0, .int .i64 0]), 3, 24) := by kernel_rfl

theorem arCells_zeros : ∀ n : Nat, arCells (List.replicate n (0, 0, 0)) = List.replicate (n * 3) (.int .i64 0)
  | 0 => rfl
  | n + 1 => by
    rw [show (n + 1) * 3 = n * 3 + 1 + 1 + 1 by omega]
    simp only [List.replicate_succ, arCells, arCells_zeros n]
theorem toList_made3 (n : Nat) : (madeCells #[.int .i64 0, .int .i64 0, .int .i64 0] (n * 3)).toList = arCells (List.replicate n (0, 0, 0)) := by
  rw [arCells_zeros]
  apply List.ext_getElem?
  intro j
  by_cases hj : j < n * 3
  · have h3 : j % 3 = 0 ∨ j % 3 = 1 ∨ j % 3 = 2 := by omega
    rcases h3 with h | h | h <;> simp [madeCells, hj, h]
  · simp [madeCells, hj]
theorem make_arcs (n : Nat) (hn : n ≤ 1099511627776) (w : World) :
    (Instr.makeSlice 36 (.int .i64 (n : Int)) (.int .i64 (n : Int))).run Try.prog w = .ok (.slice (some ⟨w.heap.size, 0, none⟩) n n) (w.alloc (.cells (madeCells #[.int .i64 0, .int .i64 0, .int .i64 0] (n * 3)) 107)) := by
  obtain ⟨i, hi, hzz⟩ := Option.map_eq_some_iff.1 info_arc
  simp only [Prod.mk.injEq] at hzz
  obtain ⟨hz, hs, hb⟩ := hzz
  have hr := run_make (P := Try.prog) w 36 107 i _ Try.underlying36 hi hz .i64 .i64 n n (by omega) (Int.le_refl _) (by rw [hb]; omega) (by omega)
  simp only [Int.toNat_natCast, hs] at hr
  exact hr
theorem OArcs.made (w : World) (n : Nat) (hn : n ≤ 1099511627776) : OArcs (w.alloc (.cells (madeCells #[.int .i64 0, .int .i64 0, .int .i64 0] (n * 3)) 107)) w.heap.size (.slice (some ⟨w.heap.size, 0, none⟩) n n) n (List.replicate n (0, 0, 0)) := by
  refine ⟨hn, ?_⟩
  have h := World.ownsRow_lit (base := w.heap.size) (e := 107) (size := 3) w (madeCells #[.int .i64 0, .int .i64 0, .int .i64 0] (n * 3)) n (Nat.le_refl _) (by unfold maxLen; omega) (by simp [madeCells])
  rw [toList_made3] at h
  exact h
theorem get_set {α : Type} {xs : List α} {k : Nat} {x y : α} (h : xs[k]? = some x) : (xs.set k y)[k]? = some y := by
  obtain ⟨hk, _⟩ := List.getElem?_eq_some_iff.1 h
  simp [hk]
theorem OArcs.put {w : World} {lo g n cap : Nat} {xs : List Ar} (h : OArcs w lo (.slice (some ⟨g, 0, none⟩) n cap) n xs) {k : Nat} {a : Ar} (hk : xs[k]? = some a) (x y z : Int) :
    OArcs (((w.setCell ⟨g, k * 3, none⟩ (.int .i64 x)).setCell ⟨g, k * 3 + 1, none⟩ (.int .i64 y)).setCell ⟨g, k * 3 + 2, none⟩ (.int .i64 z)) lo (.slice (some ⟨g, 0, none⟩) n cap) n (xs.set k (x, y, z)) := by
  have h1 := h.set1 hk x
  have h2 := h1.set2 (get_set hk) y
  rw [List.set_set] at h2
  have h3 := h2.set3 (get_set hk) z
  rw [List.set_set] at h3
  exact h3
theorem Below.put3 {B : Nat} {a w : World} (h : Below B a w) {g : Nat} (hg : B ≤ g) (k : Nat) (u1 u2 u3 : Value) : Below B a (((w.setCell ⟨g, k * 3, none⟩ u1).setCell ⟨g, k * 3 + 1, none⟩ u2).setCell ⟨g, k * 3 + 2, none⟩ u3) :=
  ((h.setCell (p := ⟨g, _, none⟩) hg u1).setCell (p := ⟨g, _, none⟩) hg u2).setCell (p := ⟨g, _, none⟩) hg u3
theorem grown_put3 {a w : World} {g : Nat} (h : a.grownBy w (some g)) (k : Nat) (u1 u2 u3 : Value) : a.grownBy (((w.setCell ⟨g, k * 3, none⟩ u1).setCell ⟨g, k * 3 + 1, none⟩ u2).setCell ⟨g, k * 3 + 2, none⟩ u3) (some g) :=
  only_setCell (only_setCell (only_setCell h (p := ⟨g, _, none⟩) rfl u1) (p := ⟨g, _, none⟩) rfl u2) (p := ⟨g, _, none⟩) rfl u3
/-- The marks: k, k + 1, .. -/
def marksA (k : Int) (n : Nat) : List Ar := (List.range n).map fun i => (k + 3 * (i : Nat), k + 3 * (i : Nat) + 1, k + 3 * (i : Nat) + 1 + 1)
theorem marksA_len (k : Int) (n : Nat) : (marksA k n).length = n := by simp [marksA]
theorem marksA_get {k : Int} {n i : Nat} (h : i < n) : (marksA k n)[i]? = some (k + 3 * (i : Nat), k + 3 * (i : Nat) + 1, k + 3 * (i : Nat) + 1 + 1) := by simp [marksA, h]
theorem OArcs.setFar {w : World} {lo n : Nat} {v : Value} {xs : List Ar} (h : OArcs w lo v n xs) {p : Addr} (hne : v.ownBlock ≠ some p.block) (u : Value) : OArcs (w.setCell p u) lo v n xs :=
  h.grown (only_setCell (World.grownBy.refl w (some p.block)) rfl u) (.inr hne)
theorem own_ne {g n c b : Nat} (h : g ≠ b) : (Value.slice (some ⟨g, 0, none⟩) n c).ownBlock ≠ some b := by
  intro e
  exact h (by injection e)
end Go.Proofs.Ytgcemkpinmjaeaa

namespace Go.Proofs.Ytgcemkpinmjaeaa
open Go.RowKit
set_option linter.all false
def Blk (w : World) (b : Nat) (t : TypeId) (us : Array Value) : Prop := w.heap[b]? = some (.cells us t (0, 0))
section
variable {w w' : World} {b : Nat} {t : TypeId} {us : Array Value}
theorem Blk.lt (h : Blk w b t us) : b < w.heap.size := (Array.getElem?_eq_some_iff.1 h).1
theorem Blk.cell (h : Blk w b t us) (i : Nat) : w.cell? ⟨b, i, none⟩ = us[i]? := cell_of_row w b i us t (0, 0) h
theorem Blk.frozen (h : Blk w b t us) (i : Nat) : w.frozen? ⟨b, i, none⟩ = false := frozen_of_row w b i us t h
theorem Blk.keep (h : Blk w b t us) (hb : Below w.heap.size w w') : Blk w' b t us := (hb.block b h.lt).trans h
theorem Blk.drewN (h : Blk w b t us) (n : Nat) : Blk (w.drewN n) b t us := h
theorem Blk.alloc (h : Blk w b t us) (o : Obj) : Blk (w.alloc o) b t us := h.keep ((Below.refl _ _).alloc (Nat.le_refl _) o)
theorem Blk.new (w : World) (t : TypeId) (us : Array Value) : Blk (w.alloc (.cells us t)) w.heap.size t us := heap_alloc_new w _
theorem Blk.within {lo hi : Nat} (h : Blk w b t us) (hw : Within lo hi w w') (hb : b < lo ∨ hi ≤ b) : Blk w' b t us := (hw.block b h.lt hb).trans h
theorem Blk.grown {row : Option Nat} (h : Blk w b t us) (hg : w.grownBy w' row) (hb : some b ≠ row) : Blk w' b t us := (hg.block b h.lt hb).trans h
theorem Blk.other (h : Blk w b t us) {p : Addr} (hp : b ≠ p.block) (u : Value) : Blk (w.setCell p u) b t us := (heap_setCell_other w p b u hp).trans h
theorem Blk.set (h : Blk w b t us) (i : Nat) (u : Value) : Blk (w.setCell ⟨b, i, none⟩ u) b t (us.setIfInBounds i u) := heap_setCell_same w b i us t u h
end
section
variable {w : World} {b : Nat} {t : TypeId} {u0 u1 u2 : Value}
theorem Blk.c0 (h : Blk w b t #[u0, u1, u2]) : w.cell? ⟨b, 0, none⟩ = some u0 := h.cell 0
theorem Blk.c1 (h : Blk w b t #[u0, u1, u2]) : w.cell? ⟨b, 1, none⟩ = some u1 := h.cell 1
theorem Blk.c2 (h : Blk w b t #[u0, u1, u2]) : w.cell? ⟨b, 2, none⟩ = some u2 := h.cell 2
end
theorem below_lab {B : Nat} {a w : World} (h : Below B a w) {g : Nat} (hg : B ≤ g) (u0 u1 u2 : Value) : Below B a (((w.setCell ⟨g, 0, none⟩ u0).setCell ⟨g, 1, none⟩ u1).setCell ⟨g, 2, none⟩ u2) :=
  ((h.setCell (p := ⟨g, _, none⟩) hg u0).setCell (p := ⟨g, _, none⟩) hg u1).setCell (p := ⟨g, _, none⟩) hg u2
theorem below1 (w : World) (o : Obj) : Below w.heap.size w (w.alloc o) := (Below.refl _ _).alloc (Nat.le_refl _) o
theorem below2 (w : World) (o p : Obj) : Below w.heap.size w ((w.alloc o).alloc p) := (below1 w o).alloc (by simp) p
theorem below3 (w : World) (o p q : Obj) : Below w.heap.size w (((w.alloc o).alloc p).alloc q) := (below2 w o p).alloc (by simp; omega) q
end Go.Proofs.Ytgcemkpinmjaeaa

namespace Go.Proofs.Ytgcemkpinmjaeaa
open Go.RowKit
set_option linter.all false
theorem info_arc_parts : ∃ i, Try.prog.info? 107 = some i ∧ i.zero = some (.agg #[.int .i64 0, .int .i64 0, .int .i64 0]) ∧ i.size = 3 ∧ i.bytes = 24 := info_parts info_arc
theorem arcs_oneCell : ∀ (xs : List Ar), ∀ u ∈ arCells xs, u.oneCell' = true
  | [], u, h => by simp [arCells] at h
  | x :: r, u, h => by
    simp only [arCells, List.mem_cons] at h
    rcases h with rfl | rfl | rfl | h
    · rfl
    · rfl
    · rfl
    · exact arcs_oneCell r u h

theorem wp_push_arc {o : Oper} {a : Act} {K0 : Act → World → Prop} {Q : Exit → Act → World → Prop} (W : World) (y : Ar) (s x : Operand)
    (ho : o.op = .call { callee := .builtin .append, args := #[s, x], argTypes := #[36, 36] })
    (lo : Nat) (v : Value) (n : Nat) (xs : List Ar) (hs : a.eval s = v) (h : OArcs W lo v n xs) (hn : n + 1 ≤ 1099511627776) (hlo : lo ≤ W.heap.size)
    (tb : Nat) (htb : tb = W.heap.size) (hx : a.eval x = .slice (some ⟨tb, 0, none⟩) 1 1)
    (K : ∀ v' w', OArcs w' lo v' (n + 1) (xs ++ [y]) → W.grownBy w' v.ownBlock → NewOr W.heap.size v v' → K0 (a.put o.dst v') w') : o.wp Try.prog a (W.alloc (.cells #[.int .i64 y.1, .int .i64 y.2.1, .int .i64 y.2.2] 107)) K0 Q := by
  subst htb
  obtain ⟨i0, hi, hz0, hz1, hz2⟩ := info_arc_parts
  have hc : ∀ j u, ([.int .i64 y.1, .int .i64 y.2.1, .int .i64 y.2.2] : List Value)[j]? = some u → (W.alloc (.cells #[.int .i64 y.1, .int .i64 y.2.1, .int .i64 y.2.2] 107)).cell? ((⟨W.heap.size, 0, none⟩ : Addr).add j) = some u := by
    intro j u hj
    rw [Addr.add_lit, Nat.zero_add, (Blk.new W _ _).cell j]
    match j, hj with
    | 0, hj => exact hj
    | 1, hj => exact hj
    | 2, hj => exact hj
    | j + 3, hj => simp at hj
  obtain ⟨v', w', hr, h2, h3, _, h5⟩ := run_append_own_at (P := Try.prog) (W.alloc (.cells #[.int .i64 y.1, .int .i64 y.2.1, .int .i64 y.2.2] 107)) lo 36 o.type 107 i0 (.agg #[.int .i64 0, .int .i64 0, .int .i64 0]) 3 24 Try.underlying36 hi hz0 hz1 hz2 rfl (by decide) v n _ (h.alloc _).2 ⟨W.heap.size, 0, none⟩ 1 1 [.int .i64 y.1, .int .i64 y.2.1, .int .i64 y.2.2] rfl
    hc (arcs_oneCell [y]) (by unfold maxLen; omega) (by omega) (by simp; omega)
  unfold Oper.wp execOp
  simp only [ho, resolve, invoke, builtin, Sem.run_bind, Sem.run_pure, Result.andThen_ok, List.map_toArray, List.map_cons, List.map_nil, hs, hx, hr]
  refine K v' w' ⟨hn, ?_⟩ ((grown_alloc W _ _).trans h3) ?_
  · rw [arCells_app]; exact h2
  · rcases h5 with h5 | h5
    · exact .inl h5
    · exact .inr ⟨_, h5, by simp⟩

theorem wpList_push_arc {ops : Array Oper} {rest : List Oper} {o : Oper} {a : Act} {Q : Exit → Act → World → Prop} (W : World) (y : Ar) (hgd : o.guard = none) (s x : Operand)
    (ho : o.op = .call { callee := .builtin .append, args := #[s, x], argTypes := #[36, 36] })
    (lo : Nat) (v : Value) (n : Nat) (xs : List Ar) (hs : a.eval s = v) (h : OArcs W lo v n xs) (hn : n + 1 ≤ 1099511627776) (hlo : lo ≤ W.heap.size)
    (tb : Nat) (htb : tb = W.heap.size) (hx : a.eval x = .slice (some ⟨tb, 0, none⟩) 1 1)
    (K : ∀ v' w', OArcs w' lo v' (n + 1) (xs ++ [y]) → W.grownBy w' v.ownBlock → NewOr W.heap.size v v' → wpList Try.prog ops Q rest (a.put o.dst v') w') : wpList Try.prog ops Q (o :: rest) a (W.alloc (.cells #[.int .i64 y.1, .int .i64 y.2.1, .int .i64 y.2.2] 107)) := by
  refine wpList_plain hgd fun K' hK => ?_
  exact wp_push_arc W y s x ho lo v n xs hs h hn hlo tb htb hx fun v' w' h1 h2 h3 => hK _ _ (K v' w' h1 h2 h3)


set_option maxRecDepth 8000 in
theorem wp_app_arcs {o : Oper} {a : Act} {K0 : Act → World → Prop} {Q : Exit → Act → World → Prop} (w : World) (s x : Operand)
    (ho : o.op = .call { callee := .builtin .append, args := #[s, x], argTypes := #[36, 36] })
    (lo : Nat) (v : Value) (n : Nat) (xs : List Ar) (hs : a.eval s = v) (h : OArcs w lo v n xs)
    (ao : Option Addr) (m c : Nat) (ys : List Ar) (hx : a.eval x = .slice ao m c) (hy : Arcs w ao m ys) (hn : n + m ≤ 1099511627776)
    (hlo : lo ≤ w.heap.size)
    (K : ∀ v' w', OArcs w' lo v' (n + m) (xs ++ ys) → w.grownBy w' v.ownBlock → NewOr w.heap.size v v' → K0 (a.put o.dst v') w') : o.wp Try.prog a w K0 Q := by
  obtain ⟨i0, hi, hz0, hz1, hz2⟩ := info_arc_parts
  rcases ao with _ | ad
  · have hm : m = 0 := by
      rcases Nat.eq_zero_or_pos m with h0 | h0
      · exact h0
      · obtain ⟨y, hy'⟩ : ∃ y, ys[0]? = some y := ⟨_, List.getElem?_eq_getElem (by rw [hy.1]; exact h0)⟩
        obtain ⟨b, o', e, _⟩ := hy.2.2 0 y hy'
        cases e
    subst hm
    have hyn : ys = [] := List.eq_nil_of_length_eq_zero hy.1
    subst hyn
    have hrun := run_append_nil_src (ty := o.type) (lo := lo) Try.underlying36 hi h.2 c
    unfold Oper.wp execOp
    simp only [ho, resolve, invoke, builtin, Sem.run_bind, Sem.run_pure, Result.andThen_ok, List.map_toArray, List.map_cons, List.map_nil, hs, hx, hrun]
    exact (K v w (by simpa using h) (World.grownBy.refl w _) (.inl rfl))
  · have hcells : ∀ j u, (arCells ys)[j]? = some u → w.cell? (ad.add j) = some u := by
      intro j u hu
      have hj : j < ys.length * 3 := by rw [← arCells_len]; exact (List.getElem?_eq_some_iff.1 hu).1
      obtain ⟨q, hq⟩ : ∃ q, q = j / 3 := ⟨_, rfl⟩
      obtain ⟨y, hy'⟩ : ∃ y, ys[q]? = some y := ⟨_, List.getElem?_eq_getElem (by omega)⟩
      obtain ⟨b, o', e, c1, c2, c3⟩ := hy.2.2 _ y hy'
      obtain ⟨d1, d2, d3⟩ := arCells_get ys _ y hy'
      injection e with e
      subst e
      rw [Addr.add_lit]
      have hj3 : j = q * 3 ∨ j = q * 3 + 1 ∨ j = q * 3 + 2 := by omega
      clear hq
      rcases hj3 with rfl | rfl | rfl
      · rw [← hu, d1]; exact c1
      · rw [← hu, d2]; exact c2
      · rw [← hu, d3]; exact c3
    obtain ⟨v', w', hr, h2, h3, _, h5⟩ := run_append_own_at (P := Try.prog) w lo 36 o.type 107 i0 (.agg #[.int .i64 0, .int .i64 0, .int .i64 0]) 3 24 Try.underlying36 hi hz0 hz1 hz2 rfl (by decide) v n _ h.2 ad m c (arCells ys) (by rw [arCells_len, hy.1])
      hcells (arcs_oneCell ys) (by unfold maxLen; omega) (by omega) hlo
    unfold Oper.wp execOp
    simp only [ho, resolve, invoke, builtin, Sem.run_bind, Sem.run_pure, Result.andThen_ok, List.map_toArray, List.map_cons, List.map_nil, hs, hx, hr]
    refine K v' w' ⟨hn, ?_⟩ h3 ?_
    · rw [arCells_app]; exact h2
    · rcases h5 with h5 | h5
      · exact .inl h5
      · exact .inr ⟨_, h5, Nat.le_refl _⟩
theorem wpList_app_arcs {ops : Array Oper} {rest : List Oper} {o : Oper} {a : Act} {Q : Exit → Act → World → Prop} (w : World) (hgd : o.guard = none) (s x : Operand)
    (ho : o.op = .call { callee := .builtin .append, args := #[s, x], argTypes := #[36, 36] })
    (lo : Nat) (v : Value) (n : Nat) (xs : List Ar) (hs : a.eval s = v) (h : OArcs w lo v n xs)
    (ao : Option Addr) (m c : Nat) (ys : List Ar) (hx : a.eval x = .slice ao m c) (hy : Arcs w ao m ys) (hn : n + m ≤ 1099511627776)
    (hlo : lo ≤ w.heap.size)
    (K : ∀ v' w', OArcs w' lo v' (n + m) (xs ++ ys) → w.grownBy w' v.ownBlock → NewOr w.heap.size v v' → wpList Try.prog ops Q rest (a.put o.dst v') w') : wpList Try.prog ops Q (o :: rest) a w := by
  refine wpList_plain hgd fun K' hK => ?_
  exact wp_app_arcs w s x ho lo v n xs hs h ao m c ys hx hy hn hlo fun v' w' h1 h2 h3 => hK _ _ (K v' w' h1 h2 h3)

/-- A labelled graph that grows: its block b, the result's block r. -/
structure Bld (w : World) (lo r b : Nat) (L S : Int) (v : Value) (xs : List Ar) : Prop where
  kb : Blk w b 38 #[.int .i64 L, .int .i64 S, v]
  kr : Blk w r 38 #[.int .i64 0, .int .i64 0, .slice none 0 0]
  o : OArcs w lo v xs.length xs
  nb : v.ownBlock ≠ some b
  nr : v.ownBlock ≠ some r
  ne : r ≠ b
  lb : lo ≤ b
  lr : lo ≤ r
section
variable {w w1 : World} {lo r b k : Nat} {L S : Int} {v v1 : Value} {xs ys : List Ar}
theorem Bld.keep (h : Bld w lo r b L S v xs) (hb : Below w.heap.size w w1) : Bld w1 lo r b L S v xs := ⟨h.kb.keep hb, h.kr.keep hb, h.o.keep hb, h.nb, h.nr, h.ne, h.lb, h.lr⟩
theorem Bld.grownB (h : Bld w lo r b L S v xs) (hg : w.grownBy w1 v.ownBlock) : Blk w1 b 38 #[.int .i64 L, .int .i64 S, v] := h.kb.grown hg (Ne.symm h.nb)
theorem NewOr.away {s : Nat} (hn : NewOr s v v1) {c : Nat} (h : v.ownBlock ≠ some c) (hc : c < s) : v1.ownBlock ≠ some c := by
  intro e
  rcases hn with h1 | ⟨d, h1, h2⟩
  · exact h (h1 ▸ e)
  · rw [h1] at e
    injection e with e
    omega
theorem Bld.pushed (h : Bld w lo r b L S v xs) (ho : OArcs w1 lo v1 (xs.length + k) (xs ++ ys)) (hk : ys.length = k) (hg : w.grownBy w1 v.ownBlock) (hn : NewOr w.heap.size v v1) : Bld (w1.setCell ⟨b, 2, none⟩ v1) lo r b L S v1 (xs ++ ys) := by
  have nb := hn.away h.nb h.kb.lt
  have nr := hn.away h.nr h.kr.lt
  refine ⟨?_, ?_, ?_, nb, nr, h.ne, h.lb, h.lr⟩
  · exact (h.grownB hg).set 2 v1
  · exact (h.kr.grown hg (Ne.symm h.nr)).other h.ne v1
  · have e : (xs ++ ys).length = xs.length + k := by rw [List.length_append, hk]
    rw [e]
    exact ho.setFar nb v1
theorem Bld.belowP {a : World} (h : Bld w lo r b L S v xs) (hb : Below lo a w) (hg : w.grownBy w1 v.ownBlock) (hl : lo ≤ w.heap.size) (u : Value) : Below lo a (w1.setCell ⟨b, 2, none⟩ u) :=
  (hb.grown hg hl fun c hc => (h.o.ownlt c hc).1).setCell (p := ⟨b, 2, none⟩) h.lb u
end
end Go.Proofs.Ytgcemkpinmjaeaa

namespace Go.Proofs.Ytgcemkpinmjaeaa
open Go.RowKit
set_option linter.all false
def fitsR (d k : Int) : Bool := decide (0 ≤ d) && (decide (d ≤ k) && decide (k ≤ 7))
theorem fitsR_nat {d k : Int} (h : fitsR d k = true) : ∃ a b : Nat, d = a ∧ k = b ∧ a ≤ b ∧ b ≤ 7 := by
  simp [fitsR] at h
  exact ⟨d.toNat, k.toNat, by omega, by omega, by omega, by omega⟩
theorem l25Fits_any (d k : Int) (w : World) : Calls Try.prog 200 #[.int .i64 d, .int .i64 k] w fun e w' => e = .returned (.bool (fitsR d k)) ∧ w = w' := by
  by_cases h1 : 0 ≤ d
  · have d1 : decide (0 ≤ d) = true := decide_eq_true h1
    by_cases h2 : d ≤ k
    · have d2 : decide (d ≤ k) = true := decide_eq_true h2
      have HE : Hid (fitsR d k = decide (k ≤ 7)) := by show _ = _; simp [fitsR, h1, h2]
      clear h1 h2
      go_enter Try.func200, Try.ntmps200
      go_wp2_with fail
      go_ret
      exact ⟨ret_bool HE.out.symm, rfl⟩
    · have d2 : decide (d ≤ k) = false := decide_eq_false h2
      have HE : Hid (fitsR d k = false) := by show _ = _; simp [fitsR, h2]
      clear h1 h2
      go_enter Try.func200, Try.ntmps200
      go_wp2_with fail
      go_ret
      exact ⟨ret_bool HE.out.symm, rfl⟩
  · have d1 : decide (0 ≤ d) = false := decide_eq_false h1
    have HE : Hid (fitsR d k = false) := by show _ = _; simp [fitsR, h1]
    clear h1
    go_enter Try.func200, Try.ntmps200
    go_wp2_with fail
    go_ret
    exact ⟨ret_bool HE.out.symm, rfl⟩
end Go.Proofs.Ytgcemkpinmjaeaa

namespace Go.Proofs.Ytgcemkpinmjaeaa
open Go.RowKit
set_option linter.all false
def runA (d k : Nat) : Nat → List Ar
  | 0 => []
  | n + 1 => runA d k n ++ ((if n < k then [((n : Int), (n : Int) + 1, 0)] else []) ++ (if d ≤ n then [((n : Int), 0, 1)] else []))
def runX (d k : Int) : List Ar := if fitsR d k then runA d.toNat k.toNat (k.toNat + 1) else []
def runS (d k : Int) : Int := if fitsR d k then k + 1 else 0
def runL (d k : Int) : Int := if fitsR d k then 2 else 0
theorem runA_len (d k : Nat) : ∀ n, (runA d k n).length ≤ 2 * n
  | 0 => Nat.le_refl _
  | n + 1 => by
    have := runA_len d k n
    simp only [runA, List.length_append]
    by_cases h1 : n < k <;> by_cases h2 : d ≤ n <;> simp [h1, h2] <;> omega
theorem runA_two {d k n : Nat} (h1 : n < k) (h2 : d ≤ n) : runA d k (n + 1) = (runA d k n ++ [((n : Int), (n : Int) + 1, 0)]) ++ [((n : Int), 0, 1)] := by simp [runA, h1, h2]
theorem runA_one {d k n : Nat} (h1 : n < k) (h2 : ¬ d ≤ n) : runA d k (n + 1) = runA d k n ++ [((n : Int), (n : Int) + 1, 0)] := by simp [runA, h1, h2]
theorem runA_last {d k n : Nat} (h1 : ¬ n < k) (h2 : d ≤ n) : runA d k (n + 1) = runA d k n ++ [((n : Int), 0, 1)] := by simp [runA, h1, h2]
end Go.Proofs.Ytgcemkpinmjaeaa

namespace Go.Proofs.Ytgcemkpinmjaeaa
open Go.RowKit
set_option linter.all false
def arcB (s l : Int) (x : Ar) : Bool := inR x.1 0 s && (inR x.2.1 0 s && inR x.2.2 0 l)
def ltA (x y : Ar) : Bool := if x.1 ≠ y.1 then decide (x.1 < y.1) else if x.2.2 ≠ y.2.2 then decide (x.2.2 < y.2.2) else decide (x.2.1 < y.2.1)
def behind (x : Ar) : Option Ar → Bool
  | none => true
  | some q => ltA q x
def okFrom (s l : Int) : Option Ar → List Ar → Bool
  | _, [] => true
  | p, x :: r => (arcB s l x && behind x p) && okFrom s l (some x) r
def isLab (L S : Int) (xs : List Ar) : Bool := inR L 1 3 && (inR S 1 12 && okFrom (S - 1) (L - 1) none xs)
def prevOf (xs : List Ar) (k : Nat) : Option Ar := if k = 0 then none else xs[k - 1]?
theorem prevOf_succ {xs : List Ar} {k : Nat} {x : Ar} (h : xs[k]? = some x) : prevOf xs (k + 1) = some x := by
  simp [prevOf, h]
theorem prevOf_pos {xs : List Ar} {k : Nat} (h : 0 < k) : prevOf xs k = xs[k - 1]? := by
  rw [prevOf, if_neg (by omega)]
theorem okFrom_step {s l : Int} {xs : List Ar} {k : Nat} {x : Ar} {b : Bool} (hx : xs[k]? = some x) (h : okFrom s l (prevOf xs k) (xs.drop k) = b) :
    (arcB s l x = false → b = false) ∧ (behind x (prevOf xs k) = false → b = false) ∧ (arcB s l x = true → behind x (prevOf xs k) = true → okFrom s l (prevOf xs (k + 1)) (xs.drop (k + 1)) = b) := by
  rw [drop_of_get hx] at h
  rw [prevOf_succ hx]
  generalize List.drop (k + 1) xs = r at *
  refine ⟨fun e => ?_, fun e => ?_, fun e1 e2 => ?_⟩
  · simpa [okFrom, e] using h.symm
  · simpa [okFrom, e] using h.symm
  · simpa [okFrom, e1, e2] using h
theorem okFrom_end {s l : Int} {xs : List Ar} {k : Nat} {b : Bool} (hk : xs.length ≤ k) (h : okFrom s l (prevOf xs k) (xs.drop k) = b) : b = true := by
  rw [drop_all xs k hk] at h
  exact h.symm
theorem isLab_eq {L S : Int} {xs : List Ar} : (okFrom (wrap64 (S - 1)) (wrap64 (L - 1)) none xs && (inR L 1 3 && inR S 1 12)) = isLab L S xs := by
  cases h1 : inR L 1 3
  · simp [isLab, h1]
  cases h2 : inR S 1 12
  · simp [isLab, h2]
  have a := inR_true h1
  have b := inR_true h2
  rw [wrap_id (by omega), wrap_id (by omega)]
  simp [isLab, h1, h2]
theorem arcB_1 {s l x y z : Int} (h : inR x 0 s = false) : arcB s l (x, y, z) = false := by simp [arcB, h]
theorem arcB_2 {s l x y z : Int} (h : inR y 0 s = false) : arcB s l (x, y, z) = false := by simp [arcB, h]
theorem arcB_3 {s l x y z : Int} (h : inR z 0 l = false) : arcB s l (x, y, z) = false := by simp [arcB, h]
theorem arcB_t {s l x y z : Int} (h1 : inR x 0 s = true) (h2 : inR y 0 s = true) (h3 : inR z 0 l = true) : arcB s l (x, y, z) = true := by simp [arcB, h1, h2, h3]
theorem arcB_get {s l x y z : Int} (h : arcB s l (x, y, z) = true) : (0 ≤ x ∧ x ≤ s) ∧ (0 ≤ y ∧ y ≤ s) ∧ (0 ≤ z ∧ z ≤ l) := by
  simp only [arcB, Bool.and_eq_true] at h
  exact ⟨inR_true h.1, inR_true h.2.1, inR_true h.2.2⟩
theorem okFrom_all {s l : Int} : ∀ {xs : List Ar} {p : Option Ar}, okFrom s l p xs = true → ∀ x ∈ xs, arcB s l x = true
  | [], _, _, _, h => by simp at h
  | y :: r, p, h, x, hx => by
    simp only [okFrom, Bool.and_eq_true] at h
    rcases List.mem_cons.1 hx with rfl | hx
    · exact h.1.1
    · exact okFrom_all h.2 x hx
theorem isLab_get {L S : Int} {xs : List Ar} (h : isLab L S xs = true) : (1 ≤ L ∧ L ≤ 3) ∧ (1 ≤ S ∧ S ≤ 12) ∧ okFrom (S - 1) (L - 1) none xs = true := by
  simp only [isLab, Bool.and_eq_true] at h
  exact ⟨inR_true h.1, inR_true h.2.1, h.2.2⟩
theorem ltA_1 {x y : Ar} (h : x.1 ≠ y.1) : ltA x y = decide (x.1 < y.1) := by rw [ltA, if_pos h]
theorem ltA_2 {x y : Ar} (h : x.1 = y.1) (h2 : x.2.2 ≠ y.2.2) : ltA x y = decide (x.2.2 < y.2.2) := by rw [ltA, if_neg (by simp [h]), if_pos h2]
theorem ltA_3 {x y : Ar} (h : x.1 = y.1) (h2 : x.2.2 = y.2.2) : ltA x y = decide (x.2.1 < y.2.1) := by rw [ltA, if_neg (by simp [h]), if_neg (by simp [h2])]
theorem wrapI (n : Int) : IntKind.i64.wrap n = wrap64 n := by rw [IntKind.wrap_i64]; unfold wrap64; rfl
theorem behind_0 (xs : List Ar) (x : Ar) : behind x (prevOf xs 0) = true := rfl
theorem behind_S {xs : List Ar} {j : Nat} {q x : Ar} (h : xs[j]? = some q) : behind x (prevOf xs (j + 1)) = ltA q x := by rw [prevOf_succ h]; rfl
end Go.Proofs.Ytgcemkpinmjaeaa

namespace Go.Proofs.Ytgcemkpinmjaeaa
open Go.RowKit
set_option linter.all false
def Rows (T : List (List Int)) (m : Nat) : Prop := T.length = m ∧ ∀ r ∈ T, r.length = m
def bump (T : List (List Int)) (a b : Nat) : List (List Int) := T.set a ((T.getD a []).set b (wrap64 ((T.getD a []).getD b 0 + 1)))
def matT : List (List Int) → List Ar → List (List Int)
  | T, [] => T
  | T, x :: r => matT (bump T x.1.toNat x.2.1.toNat) r
theorem rows_get {T : List (List Int)} {m a : Nat} (h : Rows T m) (ha : a < m) : T[a]? = some (T.getD a []) ∧ (T.getD a []).length = m := by
  have hl : a < T.length := by rw [h.1]; exact ha
  have h1 : T[a]? = some T[a] := List.getElem?_eq_getElem hl
  have h2 : T.getD a [] = T[a] := by simp [List.getD, h1]
  exact ⟨by rw [h2]; exact h1, by rw [h2]; exact h.2 _ (List.getElem_mem _)⟩
theorem rows_bump {T : List (List Int)} {m a b : Nat} (h : Rows T m) (ha : a < m) : Rows (bump T a b) m := by
  refine ⟨by simp [bump, h.1], fun r hr => ?_⟩
  rcases List.mem_or_eq_of_mem_set hr with h1 | h1
  · exact h.2 r h1
  · rw [h1, List.length_set]; exact (rows_get h ha).2
theorem rows_zero (m : Nat) : Rows (List.replicate m (List.replicate m 0)) m := ⟨by simp, fun r hr => by rw [(List.mem_replicate.1 hr).2]; simp⟩
theorem mat_step {T R : List (List Int)} {xs : List Ar} {k a b : Nat} {z : Int} (hx : xs[k]? = some ((a : Int), (b : Int), z)) (h : matT T (xs.drop k) = R) : matT (bump T a b) (xs.drop (k + 1)) = R := by
  rw [drop_of_get hx] at h
  exact h
theorem mat_end {T R : List (List Int)} {xs : List Ar} {k : Nat} (hk : xs.length ≤ k) (h : matT T (xs.drop k) = R) : T = R := by
  rw [drop_all xs k hk] at h
  exact h
def matOk (L S : Int) (xs : List Ar) : Bool := isLab L S xs && decide (S ≤ 9)
def matV (L S : Int) (xs : List Ar) : List (List Int) := if matOk L S xs then matT (List.replicate S.toNat (List.replicate S.toNat 0)) xs else []
theorem matT_rows {m : Nat} {s l : Int} (hs : s < m) : ∀ {xs : List Ar} {T : List (List Int)}, (∀ x ∈ xs, arcB s l x = true) → Rows T m → Rows (matT T xs) m
  | [], _, _, h => h
  | (x, y, z) :: r, T, hx, h => by
    have h1 := arcB_get (hx _ (List.mem_cons_self ..))
    show Rows (matT (bump T x.toNat y.toNat) r) m
    refine matT_rows hs (fun q hq => hx q (List.mem_cons_of_mem _ hq)) (rows_bump h (by omega))
theorem matV_rows {L S : Int} {xs : List Ar} (h : matOk L S xs = true) : Rows (matV L S xs) S.toNat ∧ S.toNat ≤ 9 := by
  rw [matV, if_pos h]
  simp only [matOk, Bool.and_eq_true, decide_eq_true_eq] at h
  obtain ⟨_, hS, hok⟩ := isLab_get h.1
  exact ⟨matT_rows (s := S - 1) (l := L - 1) (by omega) (okFrom_all hok) (rows_zero _), by omega⟩
end Go.Proofs.Ytgcemkpinmjaeaa

namespace Go.Proofs.Ytgcemkpinmjaeaa
open Go.RowKit
set_option linter.all false
def runMV (d k : Int) : List (List Int) := matV (runL d k) (runS d k) (runX d k)
def runMO (d k : Int) : Bool := matOk (runL d k) (runS d k) (runX d k)
end Go.Proofs.Ytgcemkpinmjaeaa

namespace Go.Proofs.Ytgcemkpinmjaeaa
open Go.RowKit
set_option linter.all false
set_option maxHeartbeats 1600000 in
theorem sBefore_any (x y z a b c : Int) (w : World) : Calls Try.prog 108 #[.agg #[.int .i64 x, .int .i64 y, .int .i64 z], .agg #[.int .i64 a, .int .i64 b, .int .i64 c]] w fun e w' => e = .returned (.bool (ltA (x, y, z) (a, b, c))) ∧ Below w.heap.size w w' := by
  by_cases h1 : x = a
  · have e1 : (x != a) = false := by simp [h1]
    by_cases h2 : z = c
    · have e2 : (z != c) = false := by simp [h2]
      have HE := Lib.hid (ltA_3 (x := (x, y, z)) (y := (a, b, c)) h1 h2)
      clear h1 h2
      go_enter Try.func108, Try.ntmps108
      go_wp2_with fail
      go_ret
      exact ⟨ret_bool HE.out.symm, below2 _ _ _⟩
    · have e2 : (z != c) = true := by simp [h2]
      have HE := Lib.hid (ltA_2 (x := (x, y, z)) (y := (a, b, c)) h1 h2)
      clear h1 h2
      go_enter Try.func108, Try.ntmps108
      go_wp2_with fail
      go_ret
      exact ⟨ret_bool HE.out.symm, below2 _ _ _⟩
  · have e1 : (x != a) = true := by simp [h1]
    have HE := Lib.hid (ltA_1 (x := (x, y, z)) (y := (a, b, c)) h1)
    clear h1
    go_enter Try.func108, Try.ntmps108
    go_wp2_with fail
    go_ret
    exact ⟨ret_bool HE.out.symm, below2 _ _ _⟩
end Go.Proofs.Ytgcemkpinmjaeaa

namespace Go.Proofs.Ytgcemkpinmjaeaa
open Go.RowKit
set_option linter.all false
def mulM (a b : List (List Int)) : Option (List (List Int)) := if isMat a && (isMat b && (decide (a.length = b.length) && isMat (mulT a b b.length))) then some (mulT a b b.length) else none
theorem mulM_none1 {a b : List (List Int)} (h : isMat a = false) : mulM a b = none := by simp [mulM, h]
theorem mulM_none2 {a b : List (List Int)} (h : isMat b = false) : mulM a b = none := by simp [mulM, h]
theorem mulM_none3 {a b : List (List Int)} (h : a.length ≠ b.length) : mulM a b = none := by simp [mulM, h]
theorem mulM_none4 {a b : List (List Int)} (h : isMat (mulT a b b.length) = false) : mulM a b = none := by simp [mulM, h]
theorem mulM_some {a b : List (List Int)} (h1 : isMat a = true) (h2 : isMat b = true) (h3 : a.length = b.length) (h4 : isMat (mulT a b b.length) = true) : mulM a b = some (mulT a b b.length) := by
  unfold mulM; rw [h1, h2, h4]; simp [h3]
theorem mulM_mat {a b c : List (List Int)} (h : mulM a b = some c) : isMat c = true ∧ c.length = b.length := by
  unfold mulM at h
  split at h
  · rename_i h1
    injection h with h
    subst h
    simp only [Bool.and_eq_true, decide_eq_true_eq] at h1
    exact ⟨h1.2.2.2, by rw [mulT_len]; exact h1.2.2.1⟩
  · cases h
end Go.Proofs.Ytgcemkpinmjaeaa

namespace Go.Proofs.Ytgcemkpinmjaeaa
open Go.RowKit
set_option linter.all false
def iterM (m : List (List Int)) : Nat → List (List Int) → Option (List (List Int))
  | 0, acc => some acc
  | k + 1, acc => match mulM acc m with
    | none => none
    | some p => iterM m k p
def powM (m : List (List Int)) (n : Int) : Option (List (List Int)) := if isMat m && inR n 0 30 then iterM m n.toNat (oneT m.length) else none
theorem iterM_none {m acc : List (List Int)} {k : Nat} (h : mulM acc m = none) : iterM m (k + 1) acc = none := by simp [iterM, h]
theorem iterM_some {m acc p : List (List Int)} {k : Nat} (h : mulM acc m = some p) : iterM m (k + 1) acc = iterM m k p := by simp [iterM, h]
theorem powM_none1 {m : List (List Int)} {n : Int} (h : isMat m = false) : powM m n = none := by simp [powM, h]
theorem powM_none2 {m : List (List Int)} {n : Int} (h : inR n 0 30 = false) : powM m n = none := by simp [powM, h]
theorem powM_iter {m : List (List Int)} {n : Int} (h1 : isMat m = true) (h2 : inR n 0 30 = true) : powM m n = iterM m n.toNat (oneT m.length) := by simp [powM, h1, h2]
theorem oneT_mat {n : Nat} (h1 : 1 ≤ n) (h9 : n ≤ 9) : isMat (oneT n) = true := by
  have h : inR (oneT n).length 1 9 = true := inR_mk (by rw [oneT_len]; omega)
  unfold isMat
  rw [h, Bool.and_true, oneT_len]
  simp only [tabIn, oneT, List.all_map, List.all_eq_true, List.mem_range]
  intro i _
  simp only [Function.comp, oneRow_len, decide_true, Bool.true_and, allIn, List.all_eq_true]
  intro x hx
  rcases List.mem_or_eq_of_mem_set hx with hx | hx
  · have := List.eq_of_mem_replicate hx
    subst this
    decide
  · subst hx
    decide
theorem iterM_mat {m : List (List Int)} : ∀ (k : Nat) (acc p : List (List Int)), isMat acc = true → acc.length = m.length → iterM m k acc = some p → isMat p = true ∧ p.length = m.length
  | 0, acc, p, h1, h2, h => by
    injection h with h
    subst h
    exact ⟨h1, h2⟩
  | k + 1, acc, p, _, _, h => by
    cases hq : mulM acc m with
    | none => rw [iterM_none hq] at h; cases h
    | some q =>
      rw [iterM_some hq] at h
      have := mulM_mat hq
      exact iterM_mat k q p this.1 this.2 h
theorem powM_mat {m p : List (List Int)} {n : Int} (h : powM m n = some p) : isMat m = true ∧ isMat p = true ∧ p.length = m.length := by
  cases h1 : isMat m with
  | false => rw [powM_none1 h1] at h; cases h
  | true =>
    cases h2 : inR n 0 30 with
    | false => rw [powM_none2 h2] at h; cases h
    | true =>
      rw [powM_iter h1 h2] at h
      have hl := isMat_len h1
      have := iterM_mat _ _ _ (oneT_mat hl.1 hl.2) (oneT_len _) h
      exact ⟨rfl, this⟩
end Go.Proofs.Ytgcemkpinmjaeaa

namespace Go.Proofs.Ytgcemkpinmjaeaa
open Go.RowKit
set_option linter.all false
def trc : Nat → Int → List (List Int) → Int
  | _, a, [] => a
  | k, a, r :: rs => trc (k + 1) (wrap64 (a + r.getD k 0)) rs
def closed (m : List (List Int)) (n : Int) : Int :=
  if inR n 1 30 then (match powM m n with
    | none => -1
    | some p => trc 0 0 p) else -1
theorem closed_n {m : List (List Int)} {n : Int} (h : inR n 1 30 = false) : closed m n = -1 := by simp [closed, h]
theorem closed_none {m : List (List Int)} {n : Int} (h : powM m n = none) : closed m n = -1 := by simp [closed, h]
theorem closed_some {m p : List (List Int)} {n : Int} (h1 : inR n 1 30 = true) (h : powM m n = some p) : closed m n = trc 0 0 p := by simp [closed, h, h1]
theorem trc_step {p : List (List Int)} {k : Nat} {a R x : Int} {r : List Int} (hk : p[k]? = some r) (hx : r[k]? = some x) (h : trc k a (p.drop k) = R) : trc (k + 1) (wrap64 (a + x)) (p.drop (k + 1)) = R := by
  rw [drop_of_get hk] at h
  simpa [trc, List.getD, hx] using h
end Go.Proofs.Ytgcemkpinmjaeaa

namespace Go.Proofs.Ytgcemkpinmjaeaa
open Go.RowKit
set_option linter.all false
def mb : Nat → Nat → Nat → Int → Int
  | 0, _, _, o => o
  | f + 1, n, p, o => if p ≤ n then (if n % p = 0 then (if n / p % p = 0 then 0 else mb f (n / p) (p + 1) (-o)) else mb f n (p + 1) o) else o
def moeb (n : Int) : Int := if inR n 1 1000 then mb 999 n.toNat 2 1 else 0
theorem mb_stop {f n p : Nat} {o : Int} (h : n < p) : mb f n p o = o := by
  cases f with
  | zero => rfl
  | succ f => simp [mb, show ¬ p ≤ n by omega]
theorem mb_step {n p : Nat} {o M : Int} (hn : n ≤ 1000) (hp : p ≤ n) (h : Hid (mb (1001 - p) n p o = M)) :
    (n % p ≠ 0 → Hid (mb (1001 - (p + 1)) n (p + 1) o = M)) ∧ (n % p = 0 → n / p % p = 0 → M = 0) ∧ (n % p = 0 → n / p % p ≠ 0 → Hid (mb (1001 - (p + 1)) (n / p) (p + 1) (-o) = M)) := by
  have e : 1001 - p = (1001 - (p + 1)) + 1 := by omega
  have h := h.out
  rw [e] at h
  simp only [mb, if_pos hp] at h
  refine ⟨fun h1 => ?_, fun h1 h2 => ?_, fun h1 h2 => ?_⟩
  · rw [if_neg h1] at h; exact h
  · rw [if_pos h1, if_pos h2] at h; exact h.symm
  · rw [if_pos h1, if_neg h2] at h; exact h
theorem modI (n p : Nat) : (n : Int) % (p : Int) = ((n % p : Nat) : Int) := by simp
theorem divmodI (n p : Nat) : (n : Int) / (p : Int) % (p : Int) = ((n / p % p : Nat) : Int) := by simp
theorem natz (k : Nat) : (((k : Nat) : Int) == 0) = decide (k = 0) := by
  by_cases h : k = 0
  · subst h; rfl
  · simp [h]
theorem modI_z {n p : Nat} (h : n % p = 0) : ((n : Int) % (p : Int) != 0) = false := by rw [modI, bne, natz, h]; rfl
theorem modI_nz {n p : Nat} (h : n % p ≠ 0) : ((n : Int) % (p : Int) != 0) = true := by rw [modI, bne, natz, decide_eq_false h]; rfl
theorem modE_z {n p : Nat} (h : n % p = 0) : ((n : Int) % (p : Int) == 0) = true := by rw [modI, natz, h]; rfl
theorem modE_nz {n p : Nat} (h : n % p ≠ 0) : ((n : Int) % (p : Int) == 0) = false := by rw [modI, natz, decide_eq_false h]
theorem divmodI_z {n p : Nat} (h : n / p % p = 0) : ((n : Int) / (p : Int) % (p : Int) == 0) = true := by rw [divmodI, natz, h]; rfl
theorem divmodI_nz {n p : Nat} (h : n / p % p ≠ 0) : ((n : Int) / (p : Int) % (p : Int) == 0) = false := by rw [divmodI, natz, decide_eq_false h]
theorem divI (n p : Nat) : (n : Int) / (p : Int) = ((n / p : Nat) : Int) := by simp
theorem divI_bounds (n p : Nat) : 0 ≤ (n : Int) / (p : Int) ∧ (n : Int) / (p : Int) ≤ n := by
  rw [divI]
  exact ⟨Int.natCast_nonneg _, Int.ofNat_le.2 (Nat.div_le_self n p)⟩
end Go.Proofs.Ytgcemkpinmjaeaa

namespace Go.Proofs.Ytgcemkpinmjaeaa
open Go.RowKit
set_option linter.all false
def lpLoop (m : List (List Int)) (n : Nat) : Nat → Nat → Int → Int
  | 0, _, s => s
  | f + 1, d, s => lpLoop m n f (d + 1) (if n % d = 0 then wrap64 (s + wrap64 (moeb ((n : Int) / (d : Int)) * closed m d)) else s)
def lp (m : List (List Int)) (n : Int) : Int := if 12 < n then -1 else if closed m n < 0 then -1 else lpLoop m n.toNat n.toNat 1 0
theorem lp_step {m : List (List Int)} {n d : Nat} {s R : Int} (hd : d ≤ n) (h : Hid (lpLoop m n (n + 1 - d) d s = R)) :
    (n % d = 0 → Hid (lpLoop m n (n + 1 - (d + 1)) (d + 1) (wrap64 (s + wrap64 (moeb ((n : Int) / (d : Int)) * closed m d))) = R)) ∧ (n % d ≠ 0 → Hid (lpLoop m n (n + 1 - (d + 1)) (d + 1) s = R)) := by
  have h := h.out
  rw [show n + 1 - d = (n + 1 - (d + 1)) + 1 by omega] at h
  simp only [lpLoop] at h
  constructor
  · intro e; rw [if_pos e] at h; exact h
  · intro e; rw [if_neg e] at h; exact h
theorem closed_range {m : List (List Int)} {n : Int} (h : ¬ closed m n < 0) : 1 ≤ n ∧ n ≤ 30 := by
  cases h1 : inR n 1 30
  · rw [closed_n h1] at h; omega
  · exact inR_true h1
end Go.Proofs.Ytgcemkpinmjaeaa

namespace Go.Proofs.Ytgcemkpinmjaeaa
open Go.RowKit
set_option linter.all false
def orbL (m : List (List Int)) : Nat → Nat → List Int → List Int
  | 0, _, acc => acc
  | c + 1, k, acc => if lp m k < 0 then [] else orbL m c (k + 1) (acc ++ [lp m k])
def orbV (m : List (List Int)) (n : Int) : List Int := if inR n 1 10 then orbL m n.toNat 1 [] else []
theorem orbL_len (m : List (List Int)) : ∀ (c k : Nat) (acc : List Int), orbL m c k acc = [] ∨ (orbL m c k acc).length = acc.length + c
  | 0, _, acc => .inr rfl
  | c + 1, k, acc => by
    unfold orbL
    split
    · exact .inl rfl
    · rcases orbL_len m c (k + 1) (acc ++ [lp m k]) with h | h
      · exact .inl h
      · right; rw [h]; simp; omega
theorem orbV_len (m : List (List Int)) (n : Int) : orbV m n = [] ∨ (orbV m n).length = n.toNat := by
  unfold orbV
  split
  · have := orbL_len m n.toNat 1 []
    simpa using this
  · exact .inl rfl
theorem orb_step {m : List (List Int)} {n k : Nat} {ys R : List Int} (hk : k ≤ n) (h : Hid (orbL m (n + 1 - k) k ys = R)) : (lp m k < 0 → R = []) ∧ (¬ lp m k < 0 → Hid (orbL m (n + 1 - (k + 1)) (k + 1) (ys ++ [lp m k]) = R)) := by
  have h := h.out
  rw [show n + 1 - k = (n + 1 - (k + 1)) + 1 by omega] at h
  simp only [orbL] at h
  constructor
  · intro e; rw [if_pos e] at h; exact h.symm
  · intro e; rw [if_neg e] at h; exact h
def fitL : List Int → List Int → Bool
  | x :: xs, y :: ys => if y < x then false else fitL xs ys
  | _, _ => true
def fits (a b : List (List Int)) (n : Int) : Bool := fitL (orbV a n) (orbV b n) && (decide (0 < (orbV a n).length) && decide (0 < (orbV b n).length))
theorem fitL_step {xs ys : List Int} {k : Nat} {x y : Int} {R : Bool} (hx : xs[k]? = some x) (hy : ys[k]? = some y) (h : fitL (xs.drop k) (ys.drop k) = R) : (y < x → R = false) ∧ (¬ y < x → fitL (xs.drop (k + 1)) (ys.drop (k + 1)) = R) := by
  rw [drop_of_get hx, drop_of_get hy] at h
  simp only [fitL] at h
  constructor
  · intro e; rw [if_pos e] at h; exact h.symm
  · intro e; rw [if_neg e] at h; exact h
theorem fitL_end {xs ys : List Int} {k : Nat} {R : Bool} (hk : xs.length ≤ k ∨ ys.length ≤ k) (h : fitL (xs.drop k) (ys.drop k) = R) : R = true := by
  rcases hk with hk | hk
  · rw [drop_all xs k hk] at h; simpa [fitL] using h.symm
  · rw [drop_all ys k hk] at h
    cases hx : xs.drop k <;> rw [hx] at h <;> simpa [fitL] using h.symm
def fgI : Nat → List Int → List Int → Int
  | k, x :: xs, y :: ys => if y < x then (k : Int) else fgI (k + 1) xs ys
  | _, _, _ => -1
theorem fgI_neg : ∀ (xs ys : List Int) (k : Nat), decide (fgI k xs ys < 0) = fitL xs ys
  | [], ys, k => by cases ys <;> rfl
  | x :: xs, [], k => rfl
  | x :: xs, y :: ys, k => by
    unfold fgI fitL
    split
    · have : ¬ ((k : Int) < 0) := by omega
      simp [this]
    · exact fgI_neg xs ys (k + 1)
theorem fgI_step {xs ys : List Int} {k : Nat} {x y R : Int} (hx : xs[k]? = some x) (hy : ys[k]? = some y) (h : fgI k (xs.drop k) (ys.drop k) = R) : (y < x → R = (k : Int)) ∧ (¬ y < x → fgI (k + 1) (xs.drop (k + 1)) (ys.drop (k + 1)) = R) := by
  rw [drop_of_get hx, drop_of_get hy] at h
  simp only [fgI] at h
  constructor
  · intro e; rw [if_pos e] at h; exact h.symm
  · intro e; rw [if_neg e] at h; exact h
theorem fgI_end {xs ys : List Int} {k : Nat} {R : Int} (hk : xs.length ≤ k) (h : fgI k (xs.drop k) (ys.drop k) = R) : R = -1 := by
  rw [drop_all xs k hk] at h
  simpa [fgI] using h.symm
end Go.Proofs.Ytgcemkpinmjaeaa

namespace Go.Proofs.Ytgcemkpinmjaeaa
open Go.RowKit
set_option linter.all false
set_option maxHeartbeats 1600000 in
theorem sL4One_any (n : Nat) (w : World) (hn : n ≤ 1048576) :
    Calls Try.prog 127 #[.int .i64 n] w fun e w' => ∃ v, e = .returned v ∧ OIntss w' w.heap.size v n (oneT n) ∧ Below w.heap.size w w' := by
  go_enter Try.func127, Try.ntmps127
  go_wp2_with fail
  refine (sL4Zero_any n n _ hn hn).mono ?_
  rintro e w1 ⟨v, rfl, hown, hb⟩
  go_wp2_with fail
  go_loopw [4] (fun i wr => ∃ k : Nat, k ≤ n ∧ i = .int .i64 k ∧ OIntss wr w.heap.size v n ((oneT n).take k ++ List.replicate (n - k) (List.replicate n 0)) ∧ Below w.heap.size w wr) (fun i _ => n - (intOf i).toNat)
  case atStart => exact ⟨0, Nat.zero_le _, rfl, by rw [fill_start]; exact hown, hb⟩
  case round =>
    obtain ⟨k, hk, rfl, hown, hb⟩ := hrel
    by_cases hlt : k < n
    · rw [fill_open hlt] at hown
      obtain ⟨g, cap, rfl⟩ := hown.head (by omega)
      have hAl : ((oneT n).take k).length = k := take_len (by rw [oneT_len]; omega)
      obtain ⟨gk, ck, hc, ho, hne, hlo⟩ := hown.rowAt (at_mid hAl) (by simp; omega)
      have hset := hown.setIn (at_mid hAl) hc ho k 1
      rw [set_mid hAl] at hset
      have hset' := (congrArg (OIntss _ w.heap.size _ n) (fill_shut (oneT_get hlt))) ▸ hset
      have hc0 := ho.cell k (by simp; omega)
      have hf0 := ho.frozen k
      have hb' := hb.setCell (p := ⟨gk, k, none⟩) hlo (.int .i64 1)
      simp only [List.length_replicate] at hc hc0
      clear hown ho hset hb hAl
      go_wp2_with fail
      go_roundw
      case rel => exact ⟨k + 1, hlt, by go_num, hset', hb'⟩
      case measure => simp [intOf]; omega
    · go_wp2_with fail
      go_ret
      have : k = n := by omega
      subst this
      rw [fill_end (oneT_len k)] at hown
      exact ⟨_, rfl, hown, hb⟩
end Go.Proofs.Ytgcemkpinmjaeaa
