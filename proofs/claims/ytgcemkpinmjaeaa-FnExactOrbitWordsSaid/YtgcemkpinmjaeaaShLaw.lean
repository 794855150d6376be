/- ShLaw: a part of the proofs of this seat. -/
import Derived.Lib.SmallJoins
import Derived.Deep.Strs
import Derived.Test.YtgcemkpinmjaeaaProg
import Derived.Test.YtgcemkpinmjaeaaLawStrs
import Derived.Test.YtgcemkpinmjaeaaOrbSh
import Derived.Test.YtgcemkpinmjaeaaLawKit
namespace Go.Proofs.Ytgcemkpinmjaeaa
open Go.RowKit
set_option linter.all false
open Go.Joins Go.ChangeShapes Go.WideShapes Go.RowKit Go.Deep
/- The laws' own functions over shifts. -/
def StrsIn (w : World) (ao : Option Addr) (n : Nat) (ss : List ByteArray) : Prop :=
  ss.length = n ∧ n ≤ 9223372036854775807 ∧ (∀ i s, ss[i]? = some s → ∃ b o, ao = some ⟨b, o, none⟩ ∧ w.cell? ⟨b, o + i, none⟩ = some (.string s)) ∧ ∀ s ∈ ss, s.size ≤ maxLen
theorem StrsIn.strs {w : World} {ao : Option Addr} {n : Nat} {ss : List ByteArray} (h : StrsIn w ao n ss) (hn : n ≤ 1099511627776) : Strs w ao n ss := ⟨h.1, hn, h.2.2.1⟩
theorem StrsIn.keep {w w' : World} {ao : Option Addr} {n : Nat} {ss : List ByteArray} (h : StrsIn w ao n ss) (hb : Below w.heap.size w w') : StrsIn w' ao n ss := by
  refine ⟨h.1, h.2.1, fun i s hi => ?_, h.2.2.2⟩
  obtain ⟨b, o, e, hc⟩ := h.2.2.1 i s hi
  exact ⟨b, o, e, (hb.cell (p := ⟨b, o + i, none⟩) (World.block_lt_of_cell? w _ hc)).trans hc⟩
section
variable {H : Type} {enc : TypeId × Value → H} {W : World} {base : Nat} {held : Bool}
theorem int_fieldS {k : Nat} {u : Value} {y : Option (DataW H × List MemPlace)} {y' : DataW H × List MemPlace} (h : DataW.trod enc Try.prog W base (fun _ => true) held k 3 [u] = y) (hy : y = some y') : ∃ n, u = .int .i64 n := by
  rw [hy] at h
  obtain ⟨n, e, _⟩ := DataW.trod_int Try.underlying3 h
  injection e with e
  exact ⟨n, e⟩
set_option maxRecDepth 20000 in
theorem open_shIn {v : Value} {d : DataW H} {p : List MemPlace} {r : Reach} {b0 : Nat} (hv : Value.okWide Try.prog W r b0 24 v) (h : DataW.Trod enc Try.prog W base (fun _ => true) held 24 v d p) :
    ∃ K ao n cap ss, v = .agg #[.int .i64 K, .slice ao n cap] ∧ StrsIn W ao n ss := by
  obtain ⟨v0, v1, y0, y1, n, rfl, _, _, h0, h1⟩ := open_agg2 Try.underlying24 (by kernel_rfl) (by kernel_rfl) hv h
  obtain ⟨n0, rfl⟩ := int_fieldS h0 rfl
  rcases open_strs Try.underlying22 Try.underlying9 (by kernel_rfl) h1 with ⟨hcs, _⟩ | ⟨a, len, cap, m, Sx, hcs, hb, hl, hm, hmm, hx, hi⟩
  · injection hcs with hcs
    subst hcs
    exact ⟨n0, none, 0, 0, [], rfl, rfl, by omega, fun i x hi => by simp at hi, by simp⟩
  · injection hcs with hcs
    subst hcs
    simp only [if_true] at hmm
    subst hmm
    refine ⟨n0, some a, len, m, (List.range len).map Sx, rfl, by simp, by unfold maxLen at hm; omega, fun i s hs => ?_, fun s hs => ?_⟩
    · have hin : i < len := by simpa using (List.getElem?_eq_some_iff.1 hs).1
      have hse : s = Sx i := by simpa [hin, eq_comm] using hs
      subst hse
      have c0 := (hi 0 (by omega)).1
      have c1 := (hi i (by omega)).1
      obtain ⟨b, o, rfl, d1⟩ := cell_plain c0 c1
      exact ⟨b, o, rfl, d1⟩
    · obtain ⟨i, hi2, rfl⟩ := List.mem_map.1 hs
      exact (hi i (by have := List.mem_range.1 hi2; omega)).2
end
theorem OStrs.made (w : World) (n : Nat) (hn : n ≤ 1099511627776) : OStrs (w.alloc (.cells (madeCells #[.string ⟨#[]⟩] n) 9)) w.heap.size (.slice (some ⟨w.heap.size, 0, none⟩) n n) n (List.replicate n ⟨#[]⟩) := by
  refine ⟨hn, ?_⟩
  have h := World.ownsRow_lit (base := w.heap.size) (e := 9) (size := 1) w (madeCells #[.string ⟨#[]⟩] n) n (Nat.le_refl _) (by unfold maxLen; omega) (by simp [madeCells])
  rw [toList_madeCells_one] at h
  simpa using h
/-- What is left of a bound. -/
def szR : List ByteArray → Int → Int
  | [], l => l
  | s :: r, l => if l - (s.size : Int) < 0 then -1 else szR r (l - s.size)
def szF (F : List ByteArray) (l : Int) : Int := if l - (F.length : Int) < 0 then -1 else szR F (l - F.length)
theorem szR_get : ∀ {F : List ByteArray} {l : Int}, 0 ≤ szR F l → ∀ s ∈ F, (s.size : Int) ≤ l
  | [], _, _, s, hs => by simp at hs
  | x :: r, l, h, s, hs => by
    unfold szR at h
    split at h
    · omega
    · rcases List.mem_cons.1 hs with rfl | hs
      · omega
      · have := szR_get h s hs; omega
theorem szF_get {F : List ByteArray} {l : Int} (h : 0 ≤ szF F l) : (F.length : Int) ≤ l ∧ ∀ s ∈ F, (s.size : Int) ≤ l := by
  unfold szF at h
  split at h
  · omega
  · exact ⟨by omega, fun s hs => by have := szR_get h s hs; omega⟩
theorem szR_step {F : List ByteArray} {k : Nat} {s : ByteArray} {l R : Int} (hs : F[k]? = some s) (h : szR (F.drop k) l = R) :
    (l - (s.size : Int) < 0 → R = -1) ∧ (¬ l - (s.size : Int) < 0 → szR (F.drop (k + 1)) (l - s.size) = R) := by
  rw [drop_of_get hs, szR] at h
  exact ⟨fun e => by rw [if_pos e] at h; exact h.symm, fun e => by rw [if_neg e] at h; exact h⟩
set_option maxHeartbeats 1600000 in
theorem szStrS_any (ao : Option Addr) (n cap : Nat) (F : List ByteArray) (w : World) (h : StrsIn w ao n F) :
    Calls Try.prog 74 #[.slice ao n cap, .int .i64 1048576] w fun e w' => e = .returned (.int .i64 (szF F 1048576)) ∧ w = w' := by
  have hn := h.1
  have hm := h.2.1
  have H := Lib.hid h
  have HL := Lib.hid hn
  clear h
  by_cases h1 : 1048576 < n
  · have HR : Hid (szF F 1048576 = -1) := by show _ = _; rw [szF, if_pos (by omega)]
    have d1 : decide ((1048576 : Int) - (n : Int) < 0) = true := decide_eq_true (by omega)
    go_enter Try.func74, Try.ntmps74
    go_wp2_with fail
    go_ret
    rw [HR.out]
    exact ⟨rfl, rfl⟩
  have HR : Hid (szF F 1048576 = szR F (1048576 - n)) := by show _ = _; rw [szF, if_neg (by omega), hn]
  have d1 : decide ((1048576 : Int) - (n : Int) < 0) = false := decide_eq_false (by omega)
  clear hn
  have hSX := Lib.hid (H.out.strs (by omega))
  have hMX := Lib.hid H.out.2.2.2
  go_enter Try.func74, Try.ntmps74
  go_wp2_with fail
  clear d1
  go_loop [1, 5] (fun l x => ∃ (k : Nat) (q : Int), k ≤ n ∧ l = .int .i64 q ∧ 0 ≤ q ∧ q ≤ 1048576 ∧ x = .int .i64 k ∧ Hid (szR (F.drop k) q = szF F 1048576)) (fun _ x => n - (intOf x).toNat)
  case atStart => exact ⟨0, _, Nat.zero_le _, rfl, by omega, by omega, rfl, HR.out.symm⟩
  case round =>
    obtain ⟨k, q, hk, rfl, hq0, hq1, rfl, hr⟩ := hrel
    by_cases hlt : k < n
    · obtain ⟨b, o, s, rfl, hc, hs⟩ := hSX.out.at_ hlt
      have HST := Lib.hid (szR_step hs.out hr.out)
      have hsm := hMX.out s (List.mem_of_getElem? hs.out)
      unfold maxLen at hsm
      clear hs hr
      by_cases hneg : q - (s.size : Int) < 0
      · have d : decide (q - (s.size : Int) < 0) = true := decide_eq_true hneg
        have HN := Lib.hid (HST.out.1 hneg)
        clear HST
        go_wp2_with fail
        go_ret
        rw [HN.out]
        exact ⟨rfl, rfl⟩
      · have d : decide (q - (s.size : Int) < 0) = false := decide_eq_false hneg
        have HN := Lib.hid (HST.out.2 hneg)
        clear HST
        go_wp2_with fail
        go_round
        case rel => exact ⟨k + 1, _, hlt, rfl, by omega, by omega, by go_num, HN.out⟩
        case measure => simp [intOf]; omega
    · have HE : Hid (szF F 1048576 = q) := by
        show _ = _
        rw [← hr.out, List.drop_eq_nil_of_le (by have := HL.out; omega)]
        rfl
      clear hr
      go_wp2_with fail
      go_ret
      rw [HE.out]
      exact ⟨rfl, rfl⟩
theorem make_strs (n : Nat) (hn : n ≤ 1099511627776) (w : World) :
    (Instr.makeSlice 22 (.int .i64 (n : Int)) (.int .i64 (n : Int))).run Try.prog w = .ok (.slice (some ⟨w.heap.size, 0, none⟩) n n) (w.alloc (.cells (madeCells #[.string ⟨#[]⟩] n) 9)) :=
  run_make_row' (P := Try.prog) 22 9 (.string ⟨#[]⟩) 16 Try.underlying22 info_str rfl .i64 .i64 n (by omega) (by omega) w
theorem take_setS {xs L : List ByteArray} {k : Nat} {x : ByteArray} (hx : xs[k]? = some x) (hL : L.length = xs.length) (h : L.take k = xs.take k) : (L.set k x).take (k + 1) = xs.take (k + 1) := by
  obtain ⟨hk, rfl⟩ := List.getElem?_eq_some_iff.1 hx
  rw [List.take_succ_eq_append_getElem (by simp; omega), List.take_succ_eq_append_getElem hk]
  simp [List.take_set_of_le, h]
set_option maxHeartbeats 800000 in
theorem toStrS_any (ao : Option Addr) (n cap : Nat) (xs : List ByteArray) (w : World) (h : Strs w ao n xs) :
    Calls Try.prog 82 #[.slice ao n cap] w fun e w' => ∃ g, e = .returned (.slice (some ⟨g, 0, none⟩) n n) ∧ OStrs w' w.heap.size (.slice (some ⟨g, 0, none⟩) n n) n xs ∧ Below w.heap.size w w' := by
  have hm := h.2.1
  have H := Lib.hid h
  have HL := Lib.hid h.1
  have hmk := make_strs n hm
  have hmade := OStrs.made w n hm
  clear h
  go_enter Try.func82, Try.ntmps82
  go_wp2_with fail
  go_loopw [4] (fun i wr => ∃ (k : Nat) (L : List ByteArray), k ≤ n ∧ i = .int .i64 k ∧ OStrs wr w.heap.size (.slice (some ⟨w.heap.size, 0, none⟩) n n) n L ∧ Hid (L.take k = xs.take k) ∧ Below w.heap.size w wr) (fun i _ => n - (intOf i).toNat)
  case atStart => exact ⟨0, _, Nat.zero_le _, rfl, hmade, rfl, (Below.refl _ _).alloc (Nat.le_refl _) _⟩
  case round =>
    obtain ⟨k, L, hk, rfl, hown, hL, hb⟩ := hrel
    clear hmade hmk
    by_cases hlt : k < n
    · obtain ⟨b, o, s, rfl, hc, hs⟩ := H.out.at_ hlt
      have hcell' := (hb.cell (p := ⟨b, o + k, none⟩) (World.block_lt_of_cell? w _ hc)).trans hc
      have hll := hown.len
      have hg : L[k]? = some (L.getD k ⟨#[]⟩) := by simp [List.getD, show k < L.length by omega]
      have hco := hown.cell hg
      have hfo := hown.frozen k
      have HN := Lib.hid (hown.set k s)
      have HL2 := Lib.hid (take_setS hs.out (by rw [hll, HL.out]) hL.out)
      have HB := Lib.hid hb
      clear hg hs hL hown hb hll
      go_wp2_with fail
      go_roundw
      case rel => exact ⟨k + 1, _, hlt, by go_num, HN.out, HL2.out, HB.out.setCell (Nat.le_refl _) _⟩
      case measure => simp [intOf]; omega
    · have hl := hown.len
      have e : L = xs := by
        have h3 := HL.out
        have := hL.out
        rw [List.take_of_length_le (by omega), List.take_of_length_le (by omega)] at this
        exact this
      have HE := Lib.hid e
      have HO := Lib.hid hown
      have HB := Lib.hid hb
      clear e hl hL hown hb
      go_wp2_with fail
      go_ret
      rw [← HE.out]
      exact ⟨_, rfl, HO.out, HB.out⟩
set_option maxHeartbeats 1600000 in
theorem szShift_any (K : Int) (ao : Option Addr) (n cap : Nat) (F : List ByteArray) (w : World) (h : StrsIn w ao n F) :
    Calls Try.prog 7 #[.agg #[.int .i64 K, .slice ao n cap], .int .i64 1048576] w fun e w' => e = .returned (.int .i64 (if szF F 1048576 < 0 then -1 else szF F 1048576)) ∧ Below w.heap.size w w' := by
  have HB := Lib.hid (below1 w (.cells #[.int .i64 K, .slice ao n cap] 24))
  have H := Lib.hid (h.keep HB.out)
  clear h
  by_cases hz : szF F 1048576 < 0
  · have d : decide (szF F 1048576 < 0) = true := decide_eq_true hz
    rw [if_pos hz]
    clear hz
    go_enter Try.func7, Try.ntmps7
    go_wp2_with fail
    refine (szStrS_any ao n cap F _ H.out).mono ?_
    rintro e w' ⟨rfl, rfl⟩
    go_wp2_with fail
    go_ret
    exact ⟨rfl, HB.out⟩
  · have d : decide (szF F 1048576 < 0) = false := decide_eq_false hz
    rw [if_neg hz]
    clear hz
    go_enter Try.func7, Try.ntmps7
    go_wp2_with fail
    refine (szStrS_any ao n cap F _ H.out).mono ?_
    rintro e w' ⟨rfl, rfl⟩
    go_wp2_with fail
    go_ret
    exact ⟨rfl, HB.out⟩
theorem below_sh {B : Nat} {a w : World} (h : Below B a w) {g : Nat} (hg : B ≤ g) (u0 u1 : Value) : Below B a ((w.setCell ⟨g, 0, none⟩ u0).setCell ⟨g, 1, none⟩ u1) :=
  (h.setCell (p := ⟨g, _, none⟩) hg u0).setCell (p := ⟨g, _, none⟩) hg u1
theorem OStrs.setFar {w : World} {lo n : Nat} {v : Value} {ss : List ByteArray} (h : OStrs w lo v n ss) {p : Addr} (hne : v.ownBlock ≠ some p.block) (u : Value) : OStrs (w.setCell p u) lo v n ss :=
  h.grown (only_setCell (World.grownBy.refl w (some p.block)) rfl u) (.inr hne)
set_option maxHeartbeats 1600000 in
theorem toShift_any (K : Int) (ao : Option Addr) (n cap : Nat) (F : List ByteArray) (w : World) (h : Strs w ao n F) :
    Calls Try.prog 9 #[.agg #[.int .i64 K, .slice ao n cap]] w fun e w' => ∃ g, e = .returned (.agg #[.int .i64 K, .slice (some ⟨g, 0, none⟩) n n]) ∧ OStrs w' w.heap.size (.slice (some ⟨g, 0, none⟩) n n) n F ∧ Below w.heap.size w w' := by
  have HB3 := Lib.hid (below3 w (.cells #[.int .i64 K, .slice ao n cap] 24) (.cells #[.int .i64 0, .slice none 0 0] 27) (.cells #[.int .i64 K, .slice none 0 0] 27))
  have H3 := Lib.hid (h.keep HB3.out)
  have HK2 := Lib.hid ((Blk.new (w.alloc (.cells #[.int .i64 K, .slice ao n cap] 24)) 27 #[.int .i64 0, .slice none 0 0]).alloc (.cells #[.int .i64 K, .slice none 0 0] 27))
  have HK3 := Lib.hid (Blk.new ((w.alloc (.cells #[.int .i64 K, .slice ao n cap] 24)).alloc (.cells #[.int .i64 0, .slice none 0 0] 27)) 27 #[.int .i64 K, .slice none 0 0])
  have z2 : (w.alloc (.cells #[.int .i64 K, .slice ao n cap] 24)).heap.size = w.heap.size + 1 := by simp
  have z3 : ((w.alloc (.cells #[.int .i64 K, .slice ao n cap] 24)).alloc (.cells #[.int .i64 0, .slice none 0 0] 27)).heap.size = w.heap.size + 1 + 1 := by simp
  rw [z2] at HK2
  rw [z3] at HK3
  clear z2 z3
  clear h
  go_enter Try.func9, Try.ntmps9
  go_wp2_with fail
  generalize ((w.alloc (.cells #[.int .i64 K, .slice ao n cap] 24)).alloc (.cells #[.int .i64 0, .slice none 0 0] 27)).alloc (.cells #[.int .i64 K, .slice none 0 0] 27) = w3 at HB3 H3 HK2 HK3 ⊢
  refine (toStrS_any ao n cap F w3 H3.out).mono ?_
  rintro e w4 ⟨g, rfl, ho, hb4⟩
  have k2 := HK2.out.keep hb4
  have k3 := HK3.out.keep hb4
  have HO := Lib.hid ho
  have HB4 := Lib.hid (HB3.out.trans (hb4.mono HB3.out.size))
  have hg := ho.lt
  have hsz := HB3.out.size
  have hlt2 := HK2.out.lt
  have hlt3 := HK3.out.lt
  have a0 : w4.cell? ⟨w.heap.size + 1 + 1, 0, none⟩ = some (.int .i64 K) := k3.cell 0
  have a1 : w4.cell? ⟨w.heap.size + 1 + 1, 1, none⟩ = some (.slice none 0 0) := k3.cell 1
  have b0 : w4.cell? ⟨w.heap.size + 1, 0, none⟩ = some (.int .i64 0) := k2.cell 0
  have b1 : w4.cell? ⟨w.heap.size + 1, 1, none⟩ = some (.slice none 0 0) := k2.cell 1
  have f0 := k3.frozen 1
  have f1 := k2.frozen 0
  have f2 := k2.frozen 1
  clear ho hb4 k2 k3
  go_wp2_with fail
  refine bodyPost_ret (v := .agg #[.int .i64 K, .slice (some ⟨g, 0, none⟩) n n]) (by simp [results, Try.results9, go_sem, *]) rfl ?_
  exact ⟨g, rfl, (((HO.out.mono HB3.out.size).setFar (own_ne (by show g ≠ w.heap.size + 1 + 1; omega)) _).setFar (own_ne (by show g ≠ w.heap.size + 1; omega)) _).setFar (own_ne (by show g ≠ w.heap.size + 1; omega)) _,
    below_sh (HB4.out.setCell (p := ⟨w.heap.size + 1 + 1, 1, none⟩) (by show w.heap.size ≤ w.heap.size + 1 + 1; omega) _) (by omega) _ _⟩
set_option maxHeartbeats 1600000 in
theorem eqShift_same (K : Int) (ao : Option Addr) (n cap : Nat) (ao' : Option Addr) (cap' : Nat) (F : List ByteArray) (w : World) (h : Strs w ao n F) (h' : Strs w ao' n F) :
    Calls Try.prog 12 #[.agg #[.int .i64 K, .slice ao n cap], .agg #[.int .i64 K, .slice ao' n cap']] w fun e w' => e = .returned (.bool true) ∧ Below w.heap.size w w' := by
  have HB := Lib.hid (below2 w (.cells #[.int .i64 K, .slice ao n cap] 27) (.cells #[.int .i64 K, .slice ao' n cap'] 27))
  have H := Lib.hid (h.keep HB.out)
  have H' := Lib.hid (h'.keep HB.out)
  have e1 : (K != K) = false := by simp
  clear h h'
  go_enter Try.func12, Try.ntmps12
  go_wp2_with fail
  refine (eqStrS_same ao n cap ao' cap' F _ H.out H'.out).mono ?_
  rintro e w1 ⟨rfl, ⟨m, rfl⟩⟩
  go_wp2_with fail
  go_ret
  exact ⟨rfl, below_drewN HB.out _⟩
set_option maxHeartbeats 1600000 in
theorem markShift_in (K : Int) (ao : Option Addr) (n cap : Nat) (F : List ByteArray) (lo : Nat) (wb w : World) (h : OStrs wb lo (.slice ao n cap) n F) (hs : Since lo wb.heap.size wb w) :
    Calls Try.prog 13 #[.agg #[.int .i64 K, .slice ao n cap], .int .i64 1] w fun e w' => e = .returned (.int .i64 (1 + (n : Int))) ∧ Within lo wb.heap.size w w' := by
  have HB := Lib.hid (below1 w (.cells #[.int .i64 K, .slice ao n cap] 27))
  have H := Lib.hid ((h.since hs).keep HB.out)
  have Hlt := Lib.hid h.ownlt
  have HW : Hid (∀ w', Below w.heap.size w w' → Within lo wb.heap.size w w') := by
    show ∀ w', _
    intro w' hb
    exact ⟨hb.os, hb.tape, hb.output, hb.size, fun k hk _ => hb.block k hk⟩
  clear h hs
  go_enter Try.func13, Try.ntmps13
  go_wp2_with fail
  refine (markStrS_any ao n cap F lo _ H.out).mono ?_
  rintro e w1 ⟨rfl, ho, hg⟩
  go_wp2_with fail
  go_ret
  exact ⟨rfl, (HW.out _ HB.out).trans (Within.grown hg fun b hb => Hlt.out b hb)⟩
end Go.Proofs.Ytgcemkpinmjaeaa
