/- Parts of the proof of a law, joined: Draw2 Draw2p SSpOutA SSpPair ISpOut SpIn ISpPair TabTimes SMulM SPowM SClosed. -/
import Derived.Test.YtblkgkgopneleaaProg
import Derived.Test.YtblkgkgopneleaaBDraw1
import Derived.Test.YtblkgkgopneleaaBG0a
import Derived.Test.YtblkgkgopneleaaBG0b
import Derived.Test.YtblkgkgopneleaaBSSpOut
import Derived.Test.YtblkgkgopneleaaBISplit0
import Derived.Test.YtblkgkgopneleaaBSTimes
import Derived.Test.YtblkgkgopneleaaBG0c
namespace Go.Proofs.Ytblkgkgopneleaa
open Go.RowKit
set_option linter.all false
theorem rows_set {T : List (List Int)} {n i : Nat} {r : List Int} (h : RowsLen T n) (hr : r.length = n) : RowsLen (T.set i r) n := by
  intro k q hk
  rw [List.getElem?_set] at hk
  split at hk
  · split at hk
    · injection hk with hk
      subst hk
      exact hr
    · cases hk
  · exact h k q hk
theorem rows_rep (n c : Nat) : RowsLen (List.replicate n (List.replicate c (0 : Int))) c := by
  intro k q hk
  have := List.mem_of_getElem? hk
  rw [List.mem_replicate] at this
  rw [this.2]; simp
theorem grown_new {w w' : World} {row : Option Nat} (h : w.grownBy w' row) {p : Addr} (hp : w.heap.size ≤ p.block) (u : Value) : w.grownBy (w'.setCell p u) row :=
  ⟨h.os, h.tape, h.output, by simpa [World.setCell] using h.size, fun k hk hne => (Below.heap_setCell w' p u k (by rintro rfl; omega)).trans (h.block k hk hne)⟩
theorem cell_grown {w w' : World} {row : Option Nat} {p : Addr} {v : Value} (hg : w.grownBy w' row) (hc : w.cell? p = some v) (hne : some p.block ≠ row) : w'.cell? p = some v := by
  have hl := World.block_lt_of_cell? w _ hc
  have := hg.block p.block hl hne
  unfold World.cell? at hc ⊢
  rw [this]
  exact hc
theorem gr_alloc {w w' : World} {b : Nat} (h : w.grownBy w' (some b)) (o : Obj) : w.grownBy (w'.alloc o) (some b) :=
  h.trans (grown_of_below ((Below.refl _ _).alloc (Nat.le_refl _) o))
theorem Since.rowD {lo hi : Nat} {a b c : World} {v : Value} (h : Since lo hi a b) (k : b.grownBy c v.ownBlock) (hv : ∀ g, v.ownBlock = some g → g < lo ∨ hi ≤ g) (hs : hi ≤ b.heap.size) : Since lo hi a c :=
  ⟨Nat.le_trans h.size k.size, fun i h1 h2 => (k.block i (by omega) (fun e => by have := hv i e.symm; omega)).trans (h.block i h1 h2)⟩
theorem Since.apartD {lo hi g : Nat} {a b c : World} (h : Since lo hi a b) (k : b.grownBy c (some g)) (hg : g < lo) (hs : hi ≤ b.heap.size) : Since lo hi a c :=
  ⟨Nat.le_trans h.size k.size, fun i h1 h2 => (k.block i (by omega) (fun e => by injection e; omega)).trans (h.block i h1 h2)⟩
theorem hi_setD {lo hi g k : Nat} {a b : World} (h : Since lo hi a b) (hg : hi ≤ g) (u : Value) : Since lo hi a (b.setCell ⟨g, k, none⟩ u) :=
  ⟨by simpa [World.setCell] using h.size, fun i h1 h2 => (Below.heap_setCell b ⟨g, k, none⟩ u i (by show i ≠ g; omega)).trans (h.block i h1 h2)⟩
theorem grown_farV {w W w' : World} {b : Nat} {v : Value} (h : w.grownBy W (some b)) (k : W.grownBy w' v.ownBlock) (hg : ∀ g, v.ownBlock = some g → w.heap.size ≤ g) : w.grownBy w' (some b) := by
  refine ⟨k.os.trans h.os, ?_, k.output.trans h.output, Nat.le_trans h.size k.size, fun i hi hne => (k.block i (Nat.lt_of_lt_of_le hi h.size) (by intro e; have := hg i e.symm; omega)).trans (h.block i hi hne)⟩
  first | exact k.tape.trans h.tape | exact Nat.le_trans h.tape k.tape | exact h.tape.trans k.tape
theorem OInts.self {w : World} {lo n : Nat} {v : Value} {xs : List Int} (h : OInts w lo v n xs) : OInts w lo v xs.length xs := by
  rw [h.len]; exact h
theorem OIntss.self {w : World} {lo n : Nat} {v : Value} {xss : List (List Int)} (h : OIntss w lo v n xss) : OIntss w lo v xss.length xss := by
  rw [h.len]; exact h
end Go.Proofs.Ytblkgkgopneleaa

namespace Go.Proofs.Ytblkgkgopneleaa
open Go.RowKit
set_option linter.all false
set_option maxRecDepth 20000 in
set_option maxHeartbeats 3200000 in
theorem l1Pick_any (b lo g n cap : Nat) (ss : List ByteArray) (w : World) (h : Cur w b lo) (hl : ss.length = n) (hc : ∀ i s, ss[i]? = some s → w.cell? ⟨g, i, none⟩ = some (.string s)) (hb : b ≠ g) (hn : 1 ≤ n) (hm : n ≤ 256) :
    Calls Try.prog 91 #[.pointer (some ⟨b, 0, none⟩), .slice (some ⟨g, 0, none⟩) n cap] w fun e w' => ∃ s ∈ ss, e = .returned (.string s) ∧ Cur w' b lo ∧ w.grownBy w' (some b) := by
  have H := Lib.hid h
  have HC := Lib.hid hc
  have HL := Lib.hid hl
  clear h hc hl
  go_enter Try.func91, Try.ntmps91
  go_wp2_with (first
    | (go_at_call 46; refine (l1Below_any b lo n _ H.out hn hm).mono ?_; rintro e w1 ⟨x, hx, rfl, hc1, hg1⟩; obtain ⟨s, hs⟩ : ∃ s, ss[x]? = some s := ⟨_, List.getElem?_eq_getElem (by rw [HL.out]; exact hx)⟩; have q := cell_grown hg1 (HC.out x s hs) (by simp; exact Ne.symm hb); have Hc1 := Lib.hid hc1; have Hg1 := Lib.hid hg1; have HS := Lib.hid (List.mem_of_getElem? hs); clear hc1 hg1 hs))
  go_ret
  exact ⟨s, HS.out, rfl, Hc1.out, Hg1.out⟩
end Go.Proofs.Ytblkgkgopneleaa

namespace Go.Proofs.Ytblkgkgopneleaa
open Go.RowKit
set_option linter.all false
set_option maxRecDepth 20000 in
set_option maxHeartbeats 3200000 in
theorem sSplitOut_any (p : Option Addr) (n c : Nat) (m : List (List Int)) (i : Int) (q : Option Addr) (n2 c2 : Nat) (pt : List Int) (w : World) (h : Intss w p n m) (hq : Ints w q n2 pt) :
    Calls Try.prog 29 #[.slice p n c, .int .i64 i, .slice q n2 c2] w fun e w' => ∃ v, e = .returned (.tuple #[v, .bool (splOk m i pt)]) ∧ OIntss w' w.heap.size v (splV m i pt).length (splV m i pt) ∧ Below w.heap.size w w' := by
  have HL : Hid (m.length = n) := h.1
  have HPL : Hid (pt.length = n2) := hq.1
  have H := Lib.hid h
  have HQ := Lib.hid hq
  have hm2 := hq.2.1
  clear h hq
  have HN : Hid (∀ (_ : splOk m i pt = false), splV m i pt = []) := fun e => splV_no e
  have HFA : Hid (splOk m i pt = true → SplFacts m i pt) := splOk_facts
  cases hmat : isMat m
  · have hg : Hid (splOk m i pt = false) := by show _ = _; cases hs : splOk m i pt with | false => rfl | true => rw [(HFA.out hs).mat] at hmat; cases hmat
    have hv := Lib.hid (HN.out hg.out)
    go_enter Try.func29, Try.ntmps29
    go_wp2_with (first | (go_at_call 68; refine (sIsMatrix_any _ _ _ m _ H.out).mono ?_; rintro e w' ⟨rfl, rfl⟩) | (go_at_call 52; refine (l1In_any _ _ _ _).mono ?_; rintro e w' ⟨rfl, rfl⟩))
    go_ret2
    rw [hg.out, hv.out]
    exact ⟨_, rfl, OIntss.empty _ _ (Nat.le_refl _), (Below.refl _ _).alloc (Nat.le_refl _) _⟩
  have hml := isMat_len hmat
  have hn1 : 1 ≤ n := by have := HL.out; omega
  have hn9 : n ≤ 9 := by have := HL.out; omega
  clear hml
  by_cases h9 : n = 9
  · have hg : Hid (splOk m i pt = false) := by show _ = _; cases hs : splOk m i pt with | false => rfl | true => have := (HFA.out hs).n9; have := HL.out; omega
    have hv := Lib.hid (HN.out hg.out)
    have hd9 : ((n : Int) == 9) = true := by simp [h9]
    clear h9
    go_enter Try.func29, Try.ntmps29
    go_wp2_with (first | (go_at_call 68; refine (sIsMatrix_any _ _ _ m _ H.out).mono ?_; rintro e w' ⟨rfl, rfl⟩) | (go_at_call 52; refine (l1In_any _ _ _ _).mono ?_; rintro e w' ⟨rfl, rfl⟩))
    go_ret2
    rw [hg.out, hv.out]
    exact ⟨_, rfl, OIntss.empty _ _ (Nat.le_refl _), (Below.refl _ _).alloc (Nat.le_refl _) _⟩
  have hd9 : ((n : Int) == 9) = false := by simp; omega
  cases hin : inR i 0 ((n : Int) - 1)
  · have hg : Hid (splOk m i pt = false) := by
      show _ = _
      cases hs : splOk m i pt with
      | false => rfl
      | true =>
        have h1 := (HFA.out hs).il
        have h2 := (HFA.out hs).i0
        have := HL.out
        rw [inR_mk ⟨by omega, by omega⟩] at hin
        cases hin
    have hv := Lib.hid (HN.out hg.out)
    go_enter Try.func29, Try.ntmps29
    go_wp2_with (first | (go_at_call 68; refine (sIsMatrix_any _ _ _ m _ H.out).mono ?_; rintro e w' ⟨rfl, rfl⟩) | (go_at_call 52; refine (l1In_any _ _ _ _).mono ?_; rintro e w' ⟨rfl, rfl⟩))
    go_ret2
    rw [hg.out, hv.out]
    exact ⟨_, rfl, OIntss.empty _ _ (Nat.le_refl _), (Below.refl _ _).alloc (Nat.le_refl _) _⟩
  have hir := inR_true hin
  by_cases hpn : n2 = n
  · subst hpn
    obtain ⟨i0, rfl⟩ := Int.eq_ofNat_of_zero_le (show 0 ≤ i by omega)
    obtain ⟨b1, o1, a1, c1, r, rfl, _⟩ := H.out.at_ (show i0 < n2 by omega)
    exact sSplitOut_in b1 o1 n2 c m i0 q c2 pt w H.out HQ.out hmat (by omega) (by omega)
  · have hg : Hid (splOk m i pt = false) := by show _ = _; cases hs : splOk m i pt with | false => rfl | true => have := (HFA.out hs).pl; have := HL.out; have := HPL.out; omega
    have hv := Lib.hid (HN.out hg.out)
    have hne : ((n2 : Int) != (n : Int)) = true := by simp; omega
    clear hpn hir
    go_enter Try.func29, Try.ntmps29
    go_wp2_with (first | (go_at_call 68; refine (sIsMatrix_any _ _ _ m _ H.out).mono ?_; rintro e w' ⟨rfl, rfl⟩) | (go_at_call 52; refine (l1In_any _ _ _ _).mono ?_; rintro e w' ⟨rfl, rfl⟩))
    go_ret2
    rw [hg.out, hv.out]
    exact ⟨_, rfl, OIntss.empty _ _ (Nat.le_refl _), (Below.refl _ _).alloc (Nat.le_refl _) _⟩
end Go.Proofs.Ytblkgkgopneleaa

namespace Go.Proofs.Ytblkgkgopneleaa
open Go.RowKit
set_option linter.all false
def oneN (n N : Nat) : List (List Int) := (List.range n).map (oneRow N)
theorem oneN_len (n N : Nat) : (oneN n N).length = n := by simp [oneN]
theorem oneN_get {n N k : Nat} (h : k < n) : (oneN n N)[k]? = some (oneRow N k) := by simp [oneN, h]
theorem oneN_pr {n N i : Nat} (hN : N = n + 1) (hi : i < n) : (oneN n N).set i ((oneRow N i).set n 1) = prR n i := by
  subst hN
  apply List.ext_getElem?
  intro k
  rw [List.getElem?_set]
  by_cases e : i = k
  · subst e
    rw [if_pos rfl, if_pos (by rw [oneN_len]; exact hi), prR_get hi]
    unfold prRow
    rw [if_pos rfl]
  · rw [if_neg e]
    by_cases hk : k < n
    · rw [oneN_get hk, prR_get hk]
      unfold prRow
      rw [if_neg (fun e2 => e e2.symm)]
    · rw [List.getElem?_eq_none (by rw [oneN_len]; omega), List.getElem?_eq_none (by rw [prR_len]; omega)]
set_option maxRecDepth 20000 in
set_option maxHeartbeats 6400000 in
theorem sSplitPair_any (p : Option Addr) (n c : Nat) (m : List (List Int)) (i : Int) (q : Option Addr) (n2 c2 : Nat) (pt : List Int) (w : World) (h : Intss w p n m) (hq : Ints w q n2 pt) :
    Calls Try.prog 34 #[.slice p n c, .int .i64 i, .slice q n2 c2] w fun e w' => ∃ v u, e = .returned (.tuple #[v, u, .bool (splOk m i pt)]) ∧ OIntss w' w.heap.size v (pairR m i pt).length (pairR m i pt) ∧ OIntss w' w.heap.size u (pairS m i pt).length (pairS m i pt) ∧ Below w.heap.size w w' := by
  have HL : Hid (m.length = n) := h.1
  have H := Lib.hid h
  have HQ := Lib.hid hq
  clear h hq
  cases hs : splOk m i pt
  · have hr : Hid (pairR m i pt = [] ∧ pairS m i pt = []) := ⟨by simp [pairR, hs], by simp [pairS, hs]⟩
    have HS := Lib.hid hs
    clear hs
    go_enter Try.func34, Try.ntmps34
    go_wp2_with fail
    refine (sSplitOut_any _ _ _ m i _ _ _ pt _ H.out HQ.out).mono ?_
    rw [HS.out]
    rintro e w1 ⟨v1, rfl, ho1, hb1⟩
    have Hb1 := Lib.hid hb1
    have hE1 := Lib.hid (OIntss.empty w1 w.heap.size hb1.size)
    have he2 := OIntss.empty (w1.alloc (.cells #[] 42)) w.heap.size (by have := hb1.size; simp; omega)
    rw [show (w1.alloc (.cells #[] 42)).heap.size = w1.heap.size + 1 by simp] at he2
    have hE2 := Lib.hid he2
    clear he2
    clear ho1 hb1
    go_wp2_with fail
    go_ret3
    rw [hr.out.1, hr.out.2]
    have hs1 := Hb1.out.size
    exact ⟨_, _, rfl, hE1.out.alloc _, hE2.out, (Hb1.out.alloc hs1 _).alloc (by simp; omega) _⟩
  · have hf := splOk_facts hs
    obtain ⟨i0, rfl⟩ := Int.eq_ofNat_of_zero_le hf.i0
    have hi : i0 < n := by have := hf.il; rw [Int.toNat_natCast, HL.out] at this; exact this
    have hn9 : n < 9 := by have := hf.n9; rw [HL.out] at this; exact this
    have hr : Hid (pairR m i0 pt = prR n i0 ∧ pairS m i0 pt = prS m i0 pt) := ⟨by simp [pairR, hs, HL.out], by simp [pairS, hs]⟩
    obtain ⟨N, hN⟩ : ∃ N, N = n + 1 := ⟨_, rfl⟩
    have hv : Hid (splV m i0 pt = spT m i0 pt) := by show _ = _; rw [splV_yes hs, Int.toNat_natCast]
    have hE : Hid ((spT m i0 pt).length = N) := by show _ = _; rw [spT_len, HL.out, hN]
    have HRW : Hid (RowsLen (spT m i0 pt) N) := by have := rows_split hf; rw [Int.toNat_natCast, HL.out] at this; rw [hN]; exact this
    have HS := Lib.hid hs
    have HSP : Hid (prS m i0 pt = (spT m i0 pt).map (List.take n)) := by show _ = _; rw [prS, HL.out]
    generalize spT m i0 pt = T at hv hE HRW HSP
    have hnN : n < N := by omega
    have hN10 : N ≤ 9 := by omega
    have HNN := Lib.hid hN
    clear hs hf hN
    go_enter Try.func34, Try.ntmps34
    go_wp2_with fail
    refine (sSplitOut_any _ _ _ m _ _ _ _ pt _ H.out HQ.out).mono ?_
    rw [HS.out, hv.out, hE.out]
    rintro e w1 ⟨v1, rfl, ho1, hb1⟩
    obtain ⟨a1, c1, rfl, hi1⟩ := ho1.form
    have HI1 := Lib.hid hi1
    have Hb1 := Lib.hid hb1
    clear ho1 hb1 hi1
    go_wp2_with fail
    refine (sL4Zero_any n N _ (by omega) (by omega)).mono ?_
    rintro e w2 ⟨v2, rfl, ho2, hb2⟩
    obtain ⟨g, cap, rfl⟩ := ho2.head (by omega)
    have Ho2 := Lib.hid (ho2.alloc (.cells #[] 42))
    have Hb2 := Lib.hid (hb2.alloc hb2.size (.cells #[] 42))
    have hsz := hb2.size
    clear ho2 hb2
    go_wp2_with fail
    generalize w2.heap.size = B2
    generalize w2.alloc (.cells #[] 42) = w3 at Ho2 Hb2 ⊢
    go_loopw [13] (fun x wr => ∃ k : Nat, k ≤ n ∧ x = .int .i64 k ∧ OIntss wr w1.heap.size (.slice (some ⟨g, 0, none⟩) n cap) n ((oneN n N).take k ++ List.replicate (n - k) (List.replicate N 0)) ∧ Below w1.heap.size w1 wr) (fun x _ => n - (intOf x).toNat)
    case atStart => exact ⟨0, Nat.zero_le _, rfl, by rw [fill_start]; exact Ho2.out, Hb2.out⟩
    case round =>
      obtain ⟨k, hk, rfl, hown, hbl⟩ := hrel
      clear Ho2 Hb2
      by_cases hlt : k < n
      · rw [fill_open hlt] at hown
        have hAl : ((oneN n N).take k).length = k := take_len (by rw [oneN_len]; omega)
        obtain ⟨gk, ck, h5, ho, hne, hlo⟩ := hown.rowAt (at_mid hAl) (by simp; omega)
        have hset := hown.setIn (at_mid hAl) h5 ho k 1
        rw [set_mid hAl] at hset
        have hone : (List.replicate N (0 : Int)).set k 1 = oneRow N k := rfl
        rw [hone, fill_shut (oneN_get hlt)] at hset
        rw [List.length_replicate] at h5 ho
        have h6 := ho.cell k (by omega)
        have h7 := ho.frozen k
        have hb' := hbl.setCell (p := ⟨gk, k, none⟩) hlo (.int .i64 1)
        have hkN : k < N := by omega
        have Hset := Lib.hid hset
        have Hb' := Lib.hid hb'
        clear hset hb' ho hown hbl hAl hone
        go_wp2_with fail
        go_roundw
        case rel => exact ⟨k + 1, hlt, by go_num, Hset.out, Hb'.out⟩
        case measure => simp [intOf]; omega
      · have hkn : k = n := by omega
        rw [hkn, fill_end (oneN_len n N)] at hown
        obtain ⟨gk, ck, h5, ho, hne, hlo⟩ := hown.rowAt (oneN_get hi) (by rw [oneRow_len]; omega)
        have hset := hown.setIn (oneN_get hi) h5 ho n 1
        rw [oneN_pr HNN.out hi] at hset
        rw [oneRow_len] at h5 ho
        have h6 := ho.cell n hnN
        have h7 := ho.frozen n
        have hb' := hbl.setCell (p := ⟨gk, n, none⟩) hlo (.int .i64 1)
        have Hset := Lib.hid hset
        have Hb' := Lib.hid hb'
        have hdk : decide ((k : Int) < (n : Int)) = false := decide_eq_false (by omega)
        have hdk2 : decide (k < n) = false := decide_eq_false (by omega)
        clear hset hb' ho hown hbl hkn
        go_wp2_with fail
        have hs1 := Hb1.out.size
        generalize wr.setCell ⟨gk, n, none⟩ (.int .i64 1) = w4 at Hset Hb' ⊢
        have hs4 := Hb'.out.size
        have HI4 := Lib.hid (HI1.out.keep Hb'.out)
        clear h5 h6 h7
        go_loopw [12, 14] (fun v x wr => ∃ j : Nat, j ≤ N ∧ x = .int .i64 j ∧ ((j = 0 ∧ v = .slice (some ⟨B2, 0, none⟩) 0 0 ∧ wr = w4) ∨ (1 ≤ j ∧ OIntss wr w4.heap.size v j ((prS m i0 pt).take j) ∧ Below w4.heap.size w4 wr))) (fun _ x _ => N - (intOf x).toNat)
        case atStart => exact ⟨0, Nat.zero_le _, rfl, .inl ⟨rfl, rfl, rfl⟩⟩
        case round =>
          obtain ⟨j, hj, rfl, hd⟩ := hrel
          have hbl : Below w4.heap.size w4 wr := by
            rcases hd with ⟨_, _, rfl⟩ | ⟨_, _, hb⟩
            · exact Below.refl _ _
            · exact hb
          have Hbl2 := Lib.hid hbl
          by_cases hjN : j < N
          · obtain ⟨b1, o1, a4, c4, r, e4, hcr, hrow, hgr, hcap⟩ := HI4.out.cap_ hjN
            subst e4
            have hrl := HRW.out j r hgr.out
            have q1 := (hbl.cell (World.block_lt_of_cell? _ _ hcr)).trans hcr
            have q2 : (wr.alloc (.cells #[] 3)).cell? ⟨b1, o1 + j, none⟩ = some (.slice a4 r.length c4) := (((Below.refl wr.heap.size wr).alloc (Nat.le_refl _) _).cell (World.block_lt_of_cell? _ _ q1)).trans q1
            have hst := slice_to a4 r.length c4 n (by omega)
            have HE5 := Lib.hid (OInts.empty wr wr.heap.size (Nat.le_refl _))
            have HB5 := Lib.hid ((Below.refl wr.heap.size wr).alloc (Nat.le_refl _) (.cells #[] 3))
            have HRT := Lib.hid (((hrow.keep hbl).take (k := n) (by omega)).keep HB5.out)
            have HPS : Hid ((prS m i0 pt).take j ++ [r.take n] = (prS m i0 pt).take (j + 1)) := push_take (by rw [HSP.out]; simp [hgr.out])
            clear hcr hrow hgr hcap hrl hbl
            rcases hd with ⟨hj0, rfl, rfl⟩ | ⟨hj0, hown, hb⟩
            · have HJ0 := Lib.hid hj0
              clear hj0
              go_wp2_with (first
                | (at_builtin; refine wpList_push_row0 w5 _ rfl (.tmp 57) (.tmp 67) rfl wr.heap.size _ rfl Hb5.out.size _ _ Ho5.out _ rfl rfl ?_; intro v6 w6 ho6 hb6; have Ho6 := Lib.hid ho6; have Hb6 := Lib.hid (Hb5.out.trans (hb6.mono Hb5.out.size)); clear ho6 hb6)
                | (at_builtin; refine wpList_app_ints _ rfl (.tmp 58) (.tmp 65) rfl wr.heap.size _ 0 [] rfl HE5.out _ _ _ (r.take n) rfl HRT.out (by omega) HB5.out.size ?_; intro v5 w5 ho5 hg5; rw [Nat.zero_add, List.nil_append] at ho5; obtain ⟨ao6, cap6, rfl, _⟩ := ho5.form; have Ho5 := Lib.hid ho5; have Hb5 : Hid (Below wr.heap.size wr w5) := HB5.out.grown hg5 HB5.out.size (fun k hk => (HE5.out.ownlt k hk).1); clear ho5 hg5))
              go_roundw
              case rel =>
                have h9 := Ho6.out
                have h8 := HPS.out
                rw [HJ0.out] at h8 ⊢
                refine ⟨1, by omega, by simp, .inr ⟨Nat.le_refl _, ?_, Hb6.out⟩⟩
                rw [← h8]
                exact h9
              case measure => simp [intOf]; omega
            · obtain ⟨ao7, cap7, rfl, _⟩ := hown.form
              have Hown7 := Lib.hid hown
              clear hown hb
              go_wp2_with (first
                | (at_builtin; refine wpList_push_fresh w5 _ wr rfl (.tmp 57) (.tmp 67) rfl w4.heap.size _ j _ rfl Hown7.out (by omega) Hbl2.out.size Hb5.out _ _ Ho5.out _ rfl rfl ?_; intro v6 w6 ho6 hb6 _; have Ho6 := Lib.hid ho6; have Hb6 := Lib.hid (Hbl2.out.trans hb6); clear ho6 hb6)
                | (at_builtin; refine wpList_app_ints _ rfl (.tmp 58) (.tmp 65) rfl wr.heap.size _ 0 [] rfl HE5.out _ _ _ (r.take n) rfl HRT.out (by omega) HB5.out.size ?_; intro v5 w5 ho5 hg5; rw [Nat.zero_add, List.nil_append] at ho5; obtain ⟨ao6, cap6, rfl, _⟩ := ho5.form; have Ho5 := Lib.hid ho5; have Hb5 : Hid (Below wr.heap.size wr w5) := HB5.out.grown hg5 HB5.out.size (fun k hk => (HE5.out.ownlt k hk).1); clear ho5 hg5))
              go_roundw
              case rel =>
                have h9 := Ho6.out
                rw [HPS.out] at h9
                exact ⟨j + 1, hjN, by go_num, .inr ⟨by omega, h9, Hb6.out⟩⟩
              case measure => simp [intOf]; omega
          · have hjn : j = N := by omega
            rcases hd with ⟨hj0, _, _⟩ | ⟨_, hown7, hb7⟩
            · omega
            rw [List.take_of_length_le (by rw [HSP.out, List.length_map, hE.out]; omega), hjn] at hown7
            obtain ⟨ao7, cap7, rfl, _⟩ := hown7.form
            have Hown7 := Lib.hid hown7
            clear hown7 hbl
            go_wp2_with fail
            go_ret3
            rw [hr.out.1, hr.out.2]
            refine ⟨_, _, rfl, ?_, ?_, (Hb1.out.trans (Hb'.out.mono hs1)).trans (hb7.mono (by omega))⟩
            · rw [prR_len]; exact (Hset.out.keep hb7).mono hs1
            · have e : (prS m i0 pt).length = N := by rw [HSP.out, List.length_map, hE.out]
              rw [e]
              exact Hown7.out.mono (by omega)
end Go.Proofs.Ytblkgkgopneleaa

namespace Go.Proofs.Ytblkgkgopneleaa
open Go.RowKit
set_option linter.all false
set_option maxRecDepth 20000 in
set_option maxHeartbeats 3200000 in
theorem iSplitOut_any (p : Option Addr) (n c : Nat) (m : List (List Int)) (i : Int) (q : Option Addr) (n2 c2 : Nat) (pt : List Int) (w : World) (h : Intss w p n m) (hq : Ints w q n2 pt) :
    Calls Try.prog 28 #[.slice p n c, .int .i64 i, .slice q n2 c2] w fun e w' => ∃ v, e = .returned (.tuple #[v, .bool (splOk m i pt)]) ∧ OIntss w' w.heap.size v (splV m i pt).length (splV m i pt) ∧ Below w.heap.size w w' := by
  have HL : Hid (m.length = n) := h.1
  have HPL : Hid (pt.length = n2) := hq.1
  have H := Lib.hid h
  have HQ := Lib.hid hq
  have hm2 := hq.2.1
  clear h hq
  have HN : Hid (∀ (_ : splOk m i pt = false), splV m i pt = []) := fun e => splV_no e
  have HFA : Hid (splOk m i pt = true → SplFacts m i pt) := splOk_facts
  cases hmat : isMat m
  · have hg : Hid (splOk m i pt = false) := by show _ = _; cases hs : splOk m i pt with | false => rfl | true => rw [(HFA.out hs).mat] at hmat; cases hmat
    have hv := Lib.hid (HN.out hg.out)
    go_enter Try.func28, Try.ntmps28
    go_wp2_with (go_at_call 66; refine (iIsMatrix_any _ _ _ m _ H.out).mono ?_; rintro e w' ⟨rfl, rfl⟩)
    go_ret2
    rw [hg.out, hv.out]
    exact ⟨_, rfl, OIntss.none_ _ _, Below.refl _ _⟩
  have hml := isMat_len hmat
  have hn1 : 1 ≤ n := by have := HL.out; omega
  have hn9 : n ≤ 9 := by have := HL.out; omega
  have HM : Hid (isMat m = true) := hmat
  clear hml
  by_cases h9 : n = 9
  · have hg : Hid (splOk m i pt = false) := by show _ = _; cases hs : splOk m i pt with | false => rfl | true => have := (HFA.out hs).n9; have := HL.out; omega
    have hv := Lib.hid (HN.out hg.out)
    have hd9 : ((n : Int) == 9) = true := by simp [h9]
    clear h9
    go_enter Try.func28, Try.ntmps28
    go_wp2_with (go_at_call 66; refine (iIsMatrix_any _ _ _ m _ H.out).mono ?_; rintro e w' ⟨rfl, rfl⟩)
    go_ret2
    rw [hg.out, hv.out]
    exact ⟨_, rfl, OIntss.none_ _ _, Below.refl _ _⟩
  have hd9 : ((n : Int) == 9) = false := by simp; omega
  by_cases hi0 : i < 0
  · have hg : Hid (splOk m i pt = false) := by show _ = _; cases hs : splOk m i pt with | false => rfl | true => have := (HFA.out hs).i0; omega
    have hv := Lib.hid (HN.out hg.out)
    have hd0 : decide (i < 0) = true := by simpa using hi0
    go_enter Try.func28, Try.ntmps28
    go_wp2_with (go_at_call 66; refine (iIsMatrix_any _ _ _ m _ H.out).mono ?_; rintro e w' ⟨rfl, rfl⟩)
    go_ret2
    rw [hg.out, hv.out]
    exact ⟨_, rfl, OIntss.none_ _ _, Below.refl _ _⟩
  have hd0 : decide (i < 0) = false := by simpa using hi0
  by_cases hin : (n : Int) ≤ i
  · have hg : Hid (splOk m i pt = false) := by show _ = _; cases hs : splOk m i pt with | false => rfl | true => have := (HFA.out hs).il; have := HL.out; omega
    have hv := Lib.hid (HN.out hg.out)
    have hdn : decide ((n : Int) ≤ i) = true := by simpa using hin
    go_enter Try.func28, Try.ntmps28
    go_wp2_with (go_at_call 66; refine (iIsMatrix_any _ _ _ m _ H.out).mono ?_; rintro e w' ⟨rfl, rfl⟩)
    go_ret2
    rw [hg.out, hv.out]
    exact ⟨_, rfl, OIntss.none_ _ _, Below.refl _ _⟩
  have hdn : decide ((n : Int) ≤ i) = false := by simpa using hin
  obtain ⟨i0, rfl⟩ := Int.eq_ofNat_of_zero_le (show 0 ≤ i by omega)
  have hi : i0 < n := by omega
  have hdn2 : decide (n ≤ i0) = false := by simp; omega
  by_cases hpn : n2 = n
  · subst hpn
    have hne : ((n2 : Int) != (n2 : Int)) = false := by simp
    obtain ⟨b1, o1, a1, c1, r, rfl, hca, hrow, hget⟩ := H.out.at_ hi
    have hgr : m.getD i0 [] = r := getD_of hget.out
    have hrl : r.length = n2 := by rw [(isMat_row HM.out hget.out).1, HL.out]
    have HLT : Hid (leL pt r = true → splOk m (i0 : Int) pt = true) := fun e => splOk_mk ⟨HM.out, by have := HL.out; omega, by omega, by rw [Int.toNat_natCast, HL.out]; exact hi, by rw [HPL.out, HL.out], by rw [Int.toNat_natCast, hgr]; exact e⟩
    have HLF : Hid (leL pt r = false → splOk m (i0 : Int) pt = false) := by
      intro e
      cases hs : splOk m (i0 : Int) pt with
      | false => rfl
      | true =>
        have := (HFA.out hs).le
        rw [Int.toNat_natCast, hgr, e] at this
        cases this
    have Hrow := Lib.hid hrow
    have HRL := Lib.hid hrl
    clear hmat hi0 hin h9 hrow hget hgr hrl
    go_enter Try.func28, Try.ntmps28
    go_wp2_with (go_at_call 66; refine (iIsMatrix_any _ _ _ m _ H.out).mono ?_; rw [HM.out]; rintro e w' ⟨rfl, rfl⟩)
    go_loop [37] (fun x => ∃ k : Nat, k ≤ n2 ∧ x = .int .i64 k ∧ Hid (leL (pt.drop k) (r.drop k) = leL pt r)) (fun x => n2 - (intOf x).toNat)
    case atStart => exact ⟨0, Nat.zero_le _, rfl, rfl⟩
    case round =>
      obtain ⟨k, hk, rfl, hr⟩ := hrel
      by_cases hlt : k < n2
      · obtain ⟨b2, o2, x, rfl, hcx, hgx⟩ := HQ.out.at_ (k := k) hlt
        obtain ⟨b3, o3, y, rfl, hcy, hgy⟩ := Hrow.out.at_ (k := k) (by have := HRL.out; omega)
        have Hst := Lib.hid (leL_step hgx.out hgy.out hr.out)
        have hkr : k < r.length := by have := HRL.out; omega
        clear hgx hgy hr
        by_cases hx0 : x < 0
        · have hg : Hid (splOk m (i0 : Int) pt = false) := HLF.out (Hst.out.2 (inR_no (.inl hx0)))
          have hv := Lib.hid (HN.out hg.out)
          have hx : decide (x < 0) = true := by simpa using hx0
          clear Hst
          go_wp2_with fail
          go_ret2
          rw [hg.out, hv.out]
          exact ⟨_, rfl, OIntss.none_ _ _, Below.refl _ _⟩
        · have hx : decide (x < 0) = false := by simpa using hx0
          by_cases hyx : y < x
          · have hg : Hid (splOk m (i0 : Int) pt = false) := HLF.out (Hst.out.2 (inR_no (.inr hyx)))
            have hv := Lib.hid (HN.out hg.out)
            have hy : decide (y < x) = true := by simpa using hyx
            clear Hst
            go_wp2_with fail
            go_ret2
            rw [hg.out, hv.out]
            exact ⟨_, rfl, OIntss.none_ _ _, Below.refl _ _⟩
          · have hy : decide (y < x) = false := by simpa using hyx
            have hr1 : Hid _ := Hst.out.1 (inR_mk ⟨by omega, by omega⟩)
            clear Hst
            go_wp2_with fail
            go_round
            case rel => exact ⟨k + 1, hlt, by go_num, hr1⟩
            case measure => simp [intOf]; omega
      · have hg : Hid (splOk m (i0 : Int) pt = true) := HLT.out (leL_end (by have := HPL.out; omega) hr.out)
        have hv : Hid (splV m (i0 : Int) pt = spT m i0 pt) := by show _ = _; rw [splV_yes hg.out, Int.toNat_natCast]
        have HF := Lib.hid (HFA.out hg.out)
        have HE : Hid ((spT m i0 pt).length = n2 + 1) := by show _ = _; rw [spT_len, HL.out]
        clear hr HLT HLF HN HFA
        go_wp2_with fail
        refine (iSplit0_any _ _ _ m i0 _ _ pt _ H.out HQ.out HF.out).mono ?_
        rintro e w2 ⟨v, rfl, ho, hb⟩
        go_wp2_with fail
        go_ret2
        rw [hg.out, hv.out, HE.out]
        exact ⟨_, rfl, ho, hb⟩
  · have hg : Hid (splOk m (i0 : Int) pt = false) := by show _ = _; cases hs : splOk m (i0 : Int) pt with | false => rfl | true => have := (HFA.out hs).pl; have := HL.out; have := HPL.out; omega
    have hv := Lib.hid (HN.out hg.out)
    have hne : ((n2 : Int) != (n : Int)) = true := by simp; omega
    clear hpn
    go_enter Try.func28, Try.ntmps28
    go_wp2_with (go_at_call 66; refine (iIsMatrix_any _ _ _ m _ H.out).mono ?_; rintro e w' ⟨rfl, rfl⟩)
    go_ret2
    rw [hg.out, hv.out]
    exact ⟨_, rfl, OIntss.none_ _ _, Below.refl _ _⟩
end Go.Proofs.Ytblkgkgopneleaa

namespace Go.Proofs.Ytblkgkgopneleaa
open Go.RowKit
set_option linter.all false
theorem turnM_rows {m : List (List Int)} {i : Int} {pt : List Int} (h : SplFacts (turnM m) i pt) : (spT (turnM m) i.toNat pt).length = (turnM m).length + 1 ∧ RowsLen (spT (turnM m) i.toNat pt) ((turnM m).length + 1) := ⟨spT_len _ _ _, rows_split h⟩
set_option maxRecDepth 20000 in
set_option maxHeartbeats 1600000 in
theorem iSplitIn_any (p : Option Addr) (n c : Nat) (m : List (List Int)) (i : Int) (q : Option Addr) (n2 c2 : Nat) (pt : List Int) (w : World) (h : Intss w p n m) (hq : Ints w q n2 pt) :
    Calls Try.prog 31 #[.slice p n c, .int .i64 i, .slice q n2 c2] w fun e w' => ∃ v, e = .returned (.tuple #[v, .bool (splOk (turnM m) i pt)]) ∧ OIntss w' w.heap.size v (splInV m i pt).length (splInV m i pt) ∧ Below w.heap.size w w' := by
  have H := Lib.hid h
  have HQ := Lib.hid hq
  clear h hq
  cases hs : splOk (turnM m) i pt
  · have hr : Hid (splInV m i pt = []) := by show _ = _; simp [splInV, hs]
    have HS := Lib.hid hs
    clear hs
    go_enter Try.func31, Try.ntmps31
    go_wp2_with fail
    refine (iTurnM_any _ _ _ m _ H.out).mono ?_
    rintro e w1 ⟨v1, rfl, ho1, hb1⟩
    obtain ⟨a1, c1, rfl, hi1⟩ := ho1.form
    have Hb1 := Lib.hid hb1
    have HI1 := Lib.hid hi1
    have HQ1 := Lib.hid (HQ.out.keep hb1)
    clear ho1 hb1 hi1
    go_wp2_with fail
    refine (iSplitOut_any _ _ _ (turnM m) i _ _ _ pt _ HI1.out HQ1.out).mono ?_
    rw [HS.out]
    rintro e w2 ⟨v2, rfl, ho2, hb2⟩
    have Hb2 := Lib.hid (step2 Hb1.out hb2)
    clear ho2 hb2
    go_wp2_with fail
    go_ret2
    rw [hr.out]
    exact ⟨_, rfl, OIntss.none_ _ _, Hb2.out⟩
  · have hr : Hid (splInV m i pt = turnT (spT (turnM m) i.toNat pt)) := by show _ = _; simp [splInV, hs]
    have hv : Hid (splV (turnM m) i pt = spT (turnM m) i.toNat pt) := splV_yes hs
    have hrw := turnM_rows (splOk_facts hs)
    have hn9 := (splOk_facts hs).n9
    have HS := Lib.hid hs
    generalize spT (turnM m) i.toNat pt = T at hr hv hrw
    obtain ⟨N, hN⟩ : ∃ N, N = (turnM m).length + 1 := ⟨_, rfl⟩
    rw [← hN] at hrw
    have hN9 : N ≤ 9 := by omega
    have hN1 : 1 ≤ N := by omega
    have HRW := Lib.hid hrw
    have hTE : Hid ((turnT T).length = N) := by show _ = _; rw [turnT_len, hrw.1]
    clear hs hN hrw hn9
    go_enter Try.func31, Try.ntmps31
    go_wp2_with fail
    refine (iTurnM_any _ _ _ m _ H.out).mono ?_
    rintro e w1 ⟨v1, rfl, ho1, hb1⟩
    obtain ⟨a1, c1, rfl, hi1⟩ := ho1.form
    have Hb1 := Lib.hid hb1
    have HI1 := Lib.hid hi1
    have HQ1 := Lib.hid (HQ.out.keep hb1)
    clear ho1 hb1 hi1
    go_wp2_with fail
    refine (iSplitOut_any _ _ _ (turnM m) i _ _ _ pt _ HI1.out HQ1.out).mono ?_
    rw [HS.out, hv.out, HRW.out.1]
    rintro e w2 ⟨v2, rfl, ho2, hb2⟩
    obtain ⟨a2, c2', rfl, hi2⟩ := ho2.form
    have Hb2 := Lib.hid (step2 Hb1.out hb2)
    have HI2 := Lib.hid hi2
    clear ho2 hb2 hi2
    go_wp2_with fail
    refine (iTurn4_any _ _ _ T _ HI2.out HRW.out.2 hN1 (by omega)).mono ?_
    rintro e w3 ⟨v3, rfl, ho3, hb3⟩
    have Ho3 := Lib.hid ho3
    have Hb3 := Lib.hid (step2 Hb2.out hb3)
    have hs2 := Hb2.out.size
    clear ho3 hb3
    go_wp2_with fail
    go_ret2
    rw [hr.out, hTE.out]
    exact ⟨_, rfl, Ho3.out.mono hs2, Hb3.out⟩
set_option maxRecDepth 20000 in
set_option maxHeartbeats 1600000 in
theorem sSplitIn_any (p : Option Addr) (n c : Nat) (m : List (List Int)) (i : Int) (q : Option Addr) (n2 c2 : Nat) (pt : List Int) (w : World) (h : Intss w p n m) (hq : Ints w q n2 pt) :
    Calls Try.prog 32 #[.slice p n c, .int .i64 i, .slice q n2 c2] w fun e w' => ∃ v, e = .returned (.tuple #[v, .bool (splOk (turnM m) i pt)]) ∧ OIntss w' w.heap.size v (splInV m i pt).length (splInV m i pt) ∧ Below w.heap.size w w' := by
  have H := Lib.hid h
  have HQ := Lib.hid hq
  clear h hq
  cases hs : splOk (turnM m) i pt
  · have hr : Hid (splInV m i pt = []) := by show _ = _; simp [splInV, hs]
    have HS := Lib.hid hs
    clear hs
    go_enter Try.func32, Try.ntmps32
    go_wp2_with fail
    refine (sTurnM_any _ _ _ m _ H.out).mono ?_
    rintro e w1 ⟨v1, rfl, ho1, hb1⟩
    obtain ⟨a1, c1, rfl, hi1⟩ := ho1.form
    have Hb1 := Lib.hid hb1
    have HI1 := Lib.hid hi1
    have HQ1 := Lib.hid (HQ.out.keep hb1)
    clear ho1 hb1 hi1
    go_wp2_with fail
    refine (sSplitOut_any _ _ _ (turnM m) i _ _ _ pt _ HI1.out HQ1.out).mono ?_
    rw [HS.out]
    rintro e w2 ⟨v2, rfl, ho2, hb2⟩
    have Hb2 := Lib.hid (step2 Hb1.out hb2)
    have hE2 := Lib.hid (OIntss.empty w2 w.heap.size Hb2.out.size)
    clear ho2 hb2
    go_wp2_with fail
    go_ret2
    rw [hr.out]
    exact ⟨_, rfl, hE2.out, Hb2.out.alloc Hb2.out.size _⟩
  · have hr : Hid (splInV m i pt = turnT (spT (turnM m) i.toNat pt)) := by show _ = _; simp [splInV, hs]
    have hv : Hid (splV (turnM m) i pt = spT (turnM m) i.toNat pt) := splV_yes hs
    have hrw := turnM_rows (splOk_facts hs)
    have hn9 := (splOk_facts hs).n9
    have HS := Lib.hid hs
    generalize spT (turnM m) i.toNat pt = T at hr hv hrw
    obtain ⟨N, hN⟩ : ∃ N, N = (turnM m).length + 1 := ⟨_, rfl⟩
    rw [← hN] at hrw
    have hN9 : N ≤ 9 := by omega
    have HRW := Lib.hid hrw
    have hTE : Hid ((turnT T).length = N) := by show _ = _; rw [turnT_len, hrw.1]
    clear hs hN hrw hn9
    go_enter Try.func32, Try.ntmps32
    go_wp2_with fail
    refine (sTurnM_any _ _ _ m _ H.out).mono ?_
    rintro e w1 ⟨v1, rfl, ho1, hb1⟩
    obtain ⟨a1, c1, rfl, hi1⟩ := ho1.form
    have Hb1 := Lib.hid hb1
    have HI1 := Lib.hid hi1
    have HQ1 := Lib.hid (HQ.out.keep hb1)
    clear ho1 hb1 hi1
    go_wp2_with fail
    refine (sSplitOut_any _ _ _ (turnM m) i _ _ _ pt _ HI1.out HQ1.out).mono ?_
    rw [HS.out, hv.out, HRW.out.1]
    rintro e w2 ⟨v2, rfl, ho2, hb2⟩
    obtain ⟨a2, c2', rfl, hi2⟩ := ho2.form
    have Hb2 := Lib.hid (step2 Hb1.out hb2)
    have HI2 := Lib.hid hi2
    clear ho2 hb2 hi2
    go_wp2_with fail
    refine (sTurn4_any _ _ _ T _ HI2.out HRW.out.2 (by omega)).mono ?_
    rintro e w3 ⟨v3, rfl, ho3, hb3⟩
    have Ho3 := Lib.hid ho3
    have Hb3 := Lib.hid (step2 Hb2.out hb3)
    have hs2 := Hb2.out.size
    clear ho3 hb3
    go_wp2_with fail
    go_ret2
    rw [hr.out, hTE.out]
    exact ⟨_, rfl, Ho3.out.mono hs2, Hb3.out⟩
end Go.Proofs.Ytblkgkgopneleaa

namespace Go.Proofs.Ytblkgkgopneleaa
open Go.RowKit
set_option linter.all false
set_option maxRecDepth 20000 in
set_option maxHeartbeats 6400000 in
theorem iSplitPair_any (p : Option Addr) (n c : Nat) (m : List (List Int)) (i : Int) (q : Option Addr) (n2 c2 : Nat) (pt : List Int) (w : World) (h : Intss w p n m) (hq : Ints w q n2 pt) :
    Calls Try.prog 33 #[.slice p n c, .int .i64 i, .slice q n2 c2] w fun e w' => ∃ v u, e = .returned (.tuple #[v, u, .bool (splOk m i pt)]) ∧ OIntss w' w.heap.size v (pairR m i pt).length (pairR m i pt) ∧ OIntss w' w.heap.size u (pairS m i pt).length (pairS m i pt) ∧ Below w.heap.size w w' := by
  have HL : Hid (m.length = n) := h.1
  have H := Lib.hid h
  have HQ := Lib.hid hq
  clear h hq
  cases hs : splOk m i pt
  · have hr : Hid (pairR m i pt = [] ∧ pairS m i pt = []) := ⟨by simp [pairR, hs], by simp [pairS, hs]⟩
    have HS := Lib.hid hs
    clear hs
    go_enter Try.func33, Try.ntmps33
    go_wp2_with fail
    refine (iSplitOut_any _ _ _ m i _ _ _ pt _ H.out HQ.out).mono ?_
    rw [HS.out]
    rintro e w1 ⟨v1, rfl, ho1, hb1⟩
    have Hb1 := Lib.hid hb1
    clear ho1 hb1
    go_wp2_with fail
    go_ret3
    rw [hr.out.1, hr.out.2]
    exact ⟨_, _, rfl, OIntss.none_ _ _, OIntss.none_ _ _, Hb1.out⟩
  · have hf := splOk_facts hs
    obtain ⟨i0, rfl⟩ := Int.eq_ofNat_of_zero_le hf.i0
    have hi : i0 < n := by have := hf.il; rw [Int.toNat_natCast, HL.out] at this; exact this
    have hn9 : n < 9 := by have := hf.n9; rw [HL.out] at this; exact this
    have hr : Hid (pairR m i0 pt = prR n i0 ∧ pairS m i0 pt = prS m i0 pt) := ⟨by simp [pairR, hs, HL.out], by simp [pairS, hs]⟩
    obtain ⟨N, hN⟩ : ∃ N, N = n + 1 := ⟨_, rfl⟩
    have hv : Hid (splV m i0 pt = spT m i0 pt) := by show _ = _; rw [splV_yes hs, Int.toNat_natCast]
    have hE : Hid ((spT m i0 pt).length = N) := by show _ = _; rw [spT_len, HL.out, hN]
    have HRW : Hid (RowsLen (spT m i0 pt) N) := by have := rows_split hf; rw [Int.toNat_natCast, HL.out] at this; rw [hN]; exact this
    have HS := Lib.hid hs
    have HSP : Hid (prS m i0 pt = (spT m i0 pt).map (List.take n)) := by show _ = _; rw [prS, HL.out]
    generalize spT m i0 pt = T at hv hE HRW HSP
    have hmk := make_ints N (by omega)
    have hnN : n < N := by omega
    have hN10 : N ≤ 9 := by omega
    have HNN := Lib.hid hN
    clear hs hf hN
    go_enter Try.func33, Try.ntmps33
    go_wp2_with fail
    refine (iSplitOut_any _ _ _ m _ _ _ _ pt _ H.out HQ.out).mono ?_
    rw [HS.out, hv.out, hE.out]
    rintro e w1 ⟨v1, rfl, ho1, hb1⟩
    obtain ⟨a1, c1, rfl, hi1⟩ := ho1.form
    have HI1 := Lib.hid hi1
    have Hb1 := Lib.hid hb1
    clear ho1 hb1 hi1
    go_wp2_with fail
    have hsz : ((w1.alloc (.cells #[] 42)).alloc (.cells #[] 42)).heap.size = w1.heap.size + 2 := by simp
    obtain ⟨w2, hw2⟩ : ∃ w2, (w1.alloc (.cells #[] 42)).alloc (.cells #[] 42) = w2 := ⟨_, rfl⟩
    have hb2 : Below w1.heap.size w1 w2 := by rw [← hw2]; exact ((Below.refl w1.heap.size w1).alloc (Nat.le_refl _) _).alloc (by simp) _
    have Hb2 := Lib.hid (Hb1.out.trans (hb2.mono Hb1.out.size))
    have HI2 := Lib.hid (HI1.out.keep hb2)
    generalize w1.heap.size = B1 at *
    rw [hw2]
    clear hw2 hb2 hsz Hb1 HI1
    go_loopw [11, 30] (fun v x wr => ∃ k : Nat, k ≤ n ∧ x = .int .i64 k ∧ ((k = 0 ∧ v = .slice (some ⟨B1, 0, none⟩) 0 0 ∧ wr = w2) ∨ (1 ≤ k ∧ OIntss wr w2.heap.size v k ((prR n i0).take k) ∧ Below w2.heap.size w2 wr))) (fun _ x _ => n - (intOf x).toNat)
    case atStart => exact ⟨0, Nat.zero_le _, rfl, .inl ⟨rfl, rfl, rfl⟩⟩
    case round =>
      obtain ⟨k, hk, rfl, hd⟩ := hrel
      have hbl : Below w2.heap.size w2 wr := by
        rcases hd with ⟨_, _, rfl⟩ | ⟨_, _, hb⟩
        · exact Below.refl _ _
        · exact hb
      have Hbl := Lib.hid hbl
      by_cases hlt : k < n
      · have hk1 : k < N := by omega
        have HO : Hid (OInts (wr.alloc (.cells (madeCells #[.int .i64 0] N) 3)) wr.heap.size (.slice (some ⟨wr.heap.size, 0, none⟩) N N) N (List.replicate N 0)) := OInts.made wr N (by omega)
        have hc2 := HO.out.cell k hk1
        have hf2 := HO.out.frozen k
        have hww : (wr.alloc (.cells (madeCells #[.int .i64 0] N) 3)).setCell ⟨wr.heap.size, k, none⟩ (.int .i64 1) = wr.alloc (.cells ((madeCells #[.int .i64 0] N).setIfInBounds k (.int .i64 1)) 3) := World.setCell_alloc_at _ _ _ _ _ rfl
        have ho2 := HO.out.set k 1
        rw [hww] at ho2
        have HO2 : Hid (OInts (wr.alloc (.cells ((madeCells #[.int .i64 0] N).setIfInBounds k (.int .i64 1)) 3)) wr.heap.size (.slice (some ⟨wr.heap.size, 0, none⟩) N N) N (oneRow N k)) := ho2
        have HB2 : Hid (Below wr.heap.size wr (wr.alloc (.cells ((madeCells #[.int .i64 0] N).setIfInBounds k (.int .i64 1)) 3))) := (Below.refl wr.heap.size wr).alloc (Nat.le_refl _) _
        have HPR : Hid ((prR n i0).take k ++ [prRow n i0 k] = (prR n i0).take (k + 1)) := push_take (prR_get hlt)
        clear hww ho2 hbl
        by_cases hki : k = i0
        · have hd1 : ((k : Int) == (i0 : Int)) = true := by simp [hki]
          have hc3 := HO2.out.cell n hnN
          have hf3 := HO2.out.frozen n
          have hww3 : (wr.alloc (.cells ((madeCells #[.int .i64 0] N).setIfInBounds k (.int .i64 1)) 3)).setCell ⟨wr.heap.size, n, none⟩ (.int .i64 1) = wr.alloc (.cells (((madeCells #[.int .i64 0] N).setIfInBounds k (.int .i64 1)).setIfInBounds n (.int .i64 1)) 3) := World.setCell_alloc_at _ _ _ _ _ rfl
          have ho3 := HO2.out.set n 1
          rw [hww3] at ho3
          have HO3 : Hid (OInts (wr.alloc (.cells (((madeCells #[.int .i64 0] N).setIfInBounds k (.int .i64 1)).setIfInBounds n (.int .i64 1)) 3)) wr.heap.size (.slice (some ⟨wr.heap.size, 0, none⟩) N N) N (prRow n i0 k)) := by
            have e : prRow n i0 k = (oneRow N k).set n 1 := by unfold prRow; rw [if_pos hki, HNN.out]
            rw [e]
            exact ho3
          have HB3 : Hid (Below wr.heap.size wr (wr.alloc (.cells (((madeCells #[.int .i64 0] N).setIfInBounds k (.int .i64 1)).setIfInBounds n (.int .i64 1)) 3))) := (Below.refl wr.heap.size wr).alloc (Nat.le_refl _) _
          clear hww3 ho3
          have HKI := Lib.hid hki
          clear hki
          rcases hd with ⟨hk0, rfl, rfl⟩ | ⟨hk0, hown, hb⟩
          · have HK0 := Lib.hid hk0
            clear hk0
            go_wp2_with (at_builtin; refine wpList_push_row0 _ _ rfl (.tmp 46) (.tmp 48) rfl wr.heap.size _ rfl HB3.out.size _ _ HO3.out _ ?_ rfl ?_; (simp); intro v4 w4 ho4 hb4; have Ho4 := Lib.hid ho4; have Hb4 := Lib.hid (HB3.out.trans (hb4.mono HB3.out.size)); clear ho4 hb4)
            go_roundw
            case rel =>
              have h9 := Ho4.out
              have h8 := HPR.out
              rw [HK0.out] at h8 h9 ⊢
              refine ⟨1, by omega, by simp, .inr ⟨Nat.le_refl _, ?_, Hb4.out⟩⟩
              rw [← h8]
              exact h9
            case measure => simp [intOf]; omega
          · obtain ⟨ao5, cap5, rfl, _⟩ := hown.form
            have Hown := Lib.hid hown
            clear hown hb
            go_wp2_with (at_builtin; refine wpList_push_fresh _ _ wr rfl (.tmp 46) (.tmp 48) rfl w2.heap.size _ k _ rfl Hown.out (by omega) Hbl.out.size HB3.out _ _ HO3.out _ ?_ rfl ?_; (simp); intro v4 w4 ho4 hb4 _; have Ho4 := Lib.hid ho4; have Hb4 := Lib.hid (Hbl.out.trans hb4); clear ho4 hb4)
            go_roundw
            case rel =>
              have h9 := Ho4.out
              rw [HPR.out] at h9
              exact ⟨k + 1, hlt, by go_num, .inr ⟨by omega, h9, Hb4.out⟩⟩
            case measure => simp [intOf]; omega
        · have hd1 : ((k : Int) == (i0 : Int)) = false := by simp; omega
          have HO3 : Hid (OInts (wr.alloc (.cells ((madeCells #[.int .i64 0] N).setIfInBounds k (.int .i64 1)) 3)) wr.heap.size (.slice (some ⟨wr.heap.size, 0, none⟩) N N) N (prRow n i0 k)) := by
            have e : prRow n i0 k = oneRow N k := by unfold prRow; rw [if_neg hki, HNN.out]
            rw [e]
            exact HO2.out
          have HB3 := Lib.hid HB2.out
          clear hki
          rcases hd with ⟨hk0, rfl, rfl⟩ | ⟨hk0, hown, hb⟩
          · have HK0 := Lib.hid hk0
            clear hk0
            go_wp2_with (at_builtin; refine wpList_push_row0 _ _ rfl (.tmp 46) (.tmp 48) rfl wr.heap.size _ rfl HB3.out.size _ _ HO3.out _ ?_ rfl ?_; (simp); intro v4 w4 ho4 hb4; have Ho4 := Lib.hid ho4; have Hb4 := Lib.hid (HB3.out.trans (hb4.mono HB3.out.size)); clear ho4 hb4)
            go_roundw
            case rel =>
              have h9 := Ho4.out
              have h8 := HPR.out
              rw [HK0.out] at h8 h9 ⊢
              refine ⟨1, by omega, by simp, .inr ⟨Nat.le_refl _, ?_, Hb4.out⟩⟩
              rw [← h8]
              exact h9
            case measure => simp [intOf]; omega
          · obtain ⟨ao5, cap5, rfl, _⟩ := hown.form
            have Hown := Lib.hid hown
            clear hown hb
            go_wp2_with (at_builtin; refine wpList_push_fresh _ _ wr rfl (.tmp 46) (.tmp 48) rfl w2.heap.size _ k _ rfl Hown.out (by omega) Hbl.out.size HB3.out _ _ HO3.out _ ?_ rfl ?_; (simp); intro v4 w4 ho4 hb4 _; have Ho4 := Lib.hid ho4; have Hb4 := Lib.hid (Hbl.out.trans hb4); clear ho4 hb4)
            go_roundw
            case rel =>
              have h9 := Ho4.out
              rw [HPR.out] at h9
              exact ⟨k + 1, hlt, by go_num, .inr ⟨by omega, h9, Hb4.out⟩⟩
            case measure => simp [intOf]; omega
      · have hkn : k = n := by omega
        rcases hd with ⟨hk0, _, _⟩ | ⟨_, hown, hb⟩
        · omega
        rw [List.take_of_length_le (by rw [prR_len]; omega), hkn] at hown
        obtain ⟨ao5, cap5, rfl, _⟩ := hown.form
        have Hown := Lib.hid hown
        obtain ⟨w3, rfl⟩ : ∃ w3 : World, w3 = wr := ⟨_, rfl⟩
        have HI3 := Lib.hid (HI2.out.keep hb)
        have hdk : decide ((k : Int) < (n : Int)) = false := decide_eq_false (by omega)
        have hdk2 : decide (k < n) = false := decide_eq_false (by omega)
        have HKN := Lib.hid hkn
        clear hown hb hkn hbl
        go_wp2_with fail
        go_loopw [12, 53] (fun v x wr => ∃ j : Nat, j ≤ N ∧ x = .int .i64 j ∧ ((j = 0 ∧ v = .slice (some ⟨B1 + 1, 0, none⟩) 0 0 ∧ wr = w3) ∨ (1 ≤ j ∧ OIntss wr w3.heap.size v j ((prS m i0 pt).take j) ∧ Below w3.heap.size w3 wr))) (fun _ x _ => N - (intOf x).toNat)
        case atStart => exact ⟨0, Nat.zero_le _, rfl, .inl ⟨rfl, rfl, rfl⟩⟩
        case round =>
          obtain ⟨j, hj, rfl, hd⟩ := hrel
          have hbl : Below w3.heap.size w3 wr := by
            rcases hd with ⟨_, _, rfl⟩ | ⟨_, _, hb⟩
            · exact Below.refl _ _
            · exact hb
          have Hbl2 := Lib.hid hbl
          by_cases hjN : j < N
          · obtain ⟨b1, o1, a4, c4, r, e4, hcr, hrow, hgr, hcap⟩ := HI3.out.cap_ hjN
            subst e4
            have hrl := HRW.out j r hgr.out
            have q1 := (hbl.cell (World.block_lt_of_cell? _ _ hcr)).trans hcr
            have hst := slice_to a4 r.length c4 n (by omega)
            have HRT := Lib.hid ((hrow.keep hbl).take (k := n) (by omega))
            have HPS : Hid ((prS m i0 pt).take j ++ [r.take n] = (prS m i0 pt).take (j + 1)) := push_take (by rw [HSP.out]; simp [hgr.out])
            clear hcr hrow hgr hcap hrl hbl
            rcases hd with ⟨hj0, rfl, rfl⟩ | ⟨hj0, hown, hb⟩
            · have HJ0 := Lib.hid hj0
              clear hj0
              go_wp2_with (first
                | (at_builtin; refine wpList_push_row0 w5 _ rfl (.tmp 57) (.tmp 63) rfl wr.heap.size _ rfl Hb5.out.size _ _ Ho5.out _ rfl rfl ?_; intro v4 w4 ho4 hb4; have Ho4 := Lib.hid ho4; have Hb4 := Lib.hid (Hb5.out.trans (hb4.mono Hb5.out.size)); clear ho4 hb4)
                | (go_at_call 74; refine (clone_any _ _ _ (r.take n) _ HRT.out).mono ?_; rintro e w5 ⟨v5, rfl, ho5, hb5⟩; obtain ⟨ao6, cap6, rfl, _⟩ := ho5.form; have Ho5 := Lib.hid ho5; have Hb5 := Lib.hid hb5; clear ho5 hb5))
              go_roundw
              case rel =>
                have h9 := Ho4.out
                have h8 := HPS.out
                rw [HJ0.out] at h8 ⊢
                refine ⟨1, by omega, by simp, .inr ⟨Nat.le_refl _, ?_, Hb4.out⟩⟩
                rw [← h8]
                exact h9
              case measure => simp [intOf]; omega
            · obtain ⟨ao7, cap7, rfl, _⟩ := hown.form
              have Hown7 := Lib.hid hown
              clear hown hb
              go_wp2_with (first
                | (at_builtin; refine wpList_push_fresh w5 _ wr rfl (.tmp 57) (.tmp 63) rfl w3.heap.size _ j _ rfl Hown7.out (by omega) Hbl2.out.size Hb5.out _ _ Ho5.out _ rfl rfl ?_; intro v4 w4 ho4 hb4 _; have Ho4 := Lib.hid ho4; have Hb4 := Lib.hid (Hbl2.out.trans hb4); clear ho4 hb4)
                | (go_at_call 74; refine (clone_any _ _ _ (r.take n) _ HRT.out).mono ?_; rintro e w5 ⟨v5, rfl, ho5, hb5⟩; obtain ⟨ao6, cap6, rfl, _⟩ := ho5.form; have Ho5 := Lib.hid ho5; have Hb5 := Lib.hid hb5; clear ho5 hb5))
              go_roundw
              case rel =>
                have h9 := Ho4.out
                rw [HPS.out] at h9
                exact ⟨j + 1, hjN, by go_num, .inr ⟨by omega, h9, Hb4.out⟩⟩
              case measure => simp [intOf]; omega
          · have hjn : j = N := by omega
            rcases hd with ⟨hj0, _, _⟩ | ⟨_, hown7, hb7⟩
            · omega
            rw [List.take_of_length_le (by rw [HSP.out, List.length_map, hE.out]; omega), hjn] at hown7
            obtain ⟨ao7, cap7, rfl, _⟩ := hown7.form
            have Hown7 := Lib.hid hown7
            have hs2 := Hb2.out.size
            have hs3 := Hbl.out.size
            clear hown7 hbl
            go_wp2_with fail
            go_ret3
            rw [hr.out.1, hr.out.2]
            refine ⟨_, _, rfl, ?_, ?_, (Hb2.out.trans (Hbl.out.mono hs2)).trans (hb7.mono (by omega))⟩
            · rw [prR_len]; exact (Hown.out.keep hb7).mono hs2
            · have e : (prS m i0 pt).length = N := by rw [HSP.out, List.length_map, hE.out]
              rw [e]
              exact Hown7.out.mono (by omega)
end Go.Proofs.Ytblkgkgopneleaa

namespace Go.Proofs.Ytblkgkgopneleaa
open Go.RowKit
set_option linter.all false
theorem ttV_no {a b : List (List Int)} (h : ttOk a b = false) : ttV a b = [] := by simp [ttV, h]
theorem ttV_yes {a b : List (List Int)} (h : ttOk a b = true) : ttV a b = mulT a b (b.getD 0 []).length := by simp [ttV, h]
set_option maxRecDepth 20000 in
set_option maxHeartbeats 1600000 in
theorem iTableTimes_any (pa : Option Addr) (na ca : Nat) (a : List (List Int)) (pb : Option Addr) (nb cb : Nat) (b : List (List Int)) (w : World) (ha : Intss w pa na a) (hb : Intss w pb nb b) :
    Calls Try.prog 36 #[.slice pa na ca, .slice pb nb cb] w fun e w' => ∃ v, e = .returned (.tuple #[v, .bool (ttOk a b)]) ∧ OIntss w' w.heap.size v (ttV a b).length (ttV a b) ∧ Below w.heap.size w w' := by
  have HLA : Hid (a.length = na) := ha.1
  have HLB : Hid (b.length = nb) := hb.1
  have hmb := hb.2.1
  have HA := Lib.hid ha
  have HB := Lib.hid hb
  have HG : Hid (ttOk a b = (!(decide (nb = 0)) && (tabOk a nb && tabOk b (b.getD 0 []).length))) := by show _ = _; unfold ttOk; rw [hb.1]
  clear ha hb
  by_cases h0 : nb = 0
  · have hg : Hid (ttOk a b = false) := by show _ = _; rw [HG.out]; simp [h0]
    have hv := Lib.hid (ttV_no hg.out)
    have hd : ((nb : Int) == 0) = true := by simp [h0]
    clear h0
    go_enter Try.func36, Try.ntmps36
    go_wp2_with fail
    go_ret2
    rw [hg.out, hv.out]
    exact ⟨_, rfl, OIntss.none_ _ _, Below.refl _ _⟩
  have hd0 : ((nb : Int) == 0) = false := by simp; omega
  obtain ⟨b0, o0, a0, c0, r0, rfl, hc0, hrow0, hget0⟩ := HB.out.at_ (k := 0) (by omega)
  rw [Nat.add_zero] at hc0
  have hr0 : b.getD 0 [] = r0 := getD_of hget0.out
  have HR0 := Lib.hid hr0
  have HG2 : Hid (ttOk a b = (tabOk a nb && tabOk b r0.length)) := by show _ = _; rw [HG.out, hr0]; simp [h0]
  have hrm := hrow0.2.1
  clear hrow0 hget0 hr0 HG
  cases h1 : tabOk a nb
  · have hg : Hid (ttOk a b = false) := by show _ = _; rw [HG2.out, h1]; rfl
    have hv := Lib.hid (ttV_no hg.out)
    have H1 := Lib.hid h1
    clear h1
    go_enter Try.func36, Try.ntmps36
    go_wp2_with (go_at_call 76; refine (iIsTable_any _ _ _ a nb _ HA.out).mono ?_; rw [H1.out]; rintro e w' ⟨rfl, rfl⟩)
    go_ret2
    rw [hg.out, hv.out]
    exact ⟨_, rfl, OIntss.none_ _ _, Below.refl _ _⟩
  have H1 := Lib.hid h1
  clear h1
  cases h2 : tabOk b r0.length
  · have hg : Hid (ttOk a b = false) := by show _ = _; rw [HG2.out, h2, H1.out]; rfl
    have hv := Lib.hid (ttV_no hg.out)
    have H2 := Lib.hid h2
    clear h2
    go_enter Try.func36, Try.ntmps36
    go_wp2_with fail
    refine (iIsTable_any _ _ _ a nb _ HA.out).mono ?_
    rw [H1.out]
    rintro e w' ⟨rfl, rfl⟩
    go_wp2_with fail
    refine (iIsTable_any _ _ _ b r0.length _ HB.out).mono ?_
    rw [H2.out]
    rintro e w' ⟨rfl, rfl⟩
    go_wp2_with fail
    go_ret2
    rw [hg.out, hv.out]
    exact ⟨_, rfl, OIntss.none_ _ _, Below.refl _ _⟩
  · have hg : Hid (ttOk a b = true) := by show _ = _; rw [HG2.out, h2, H1.out]; rfl
    have hv : Hid (ttV a b = mulT a b r0.length) := by show _ = _; rw [ttV_yes hg.out, HR0.out]
    have hE : Hid ((mulT a b r0.length).length = na) := by show _ = _; rw [mulT_len, HLA.out]
    have H2 := Lib.hid h2
    have f1 := Lib.hid (tabOk_facts H1.out)
    have f2 := Lib.hid (tabOk_facts h2)
    clear h2
    go_enter Try.func36, Try.ntmps36
    go_wp2_with fail
    refine (iIsTable_any _ _ _ a nb _ HA.out).mono ?_
    rw [H1.out]
    rintro e w' ⟨rfl, rfl⟩
    go_wp2_with fail
    refine (iIsTable_any _ _ _ b r0.length _ HB.out).mono ?_
    rw [H2.out]
    rintro e w' ⟨rfl, rfl⟩
    go_wp2_with fail
    refine (iTimes_any _ _ _ a _ _ _ b r0.length _ HA.out HB.out f1.out.2.2.2.2 f2.out.2.2.2.2 (by have := f1.out; have := HLA.out; omega) (by have := f2.out; omega) (by omega)).mono ?_
    rintro e w1 ⟨v, rfl, ho, hb1⟩
    have Ho := Lib.hid ho
    have Hb1 := Lib.hid hb1
    clear ho hb1
    go_wp2_with fail
    go_ret2
    rw [hg.out, hv.out, hE.out]
    exact ⟨_, rfl, Ho.out, Hb1.out⟩
set_option maxRecDepth 20000 in
set_option maxHeartbeats 1600000 in
theorem sTableTimes_any (pa : Option Addr) (na ca : Nat) (a : List (List Int)) (pb : Option Addr) (nb cb : Nat) (b : List (List Int)) (w : World) (ha : Intss w pa na a) (hb : Intss w pb nb b) :
    Calls Try.prog 37 #[.slice pa na ca, .slice pb nb cb] w fun e w' => ∃ v, e = .returned (.tuple #[v, .bool (ttOk a b)]) ∧ OIntss w' w.heap.size v (ttV a b).length (ttV a b) ∧ Below w.heap.size w w' := by
  have HLA : Hid (a.length = na) := ha.1
  have HLB : Hid (b.length = nb) := hb.1
  have hmb := hb.2.1
  have HA := Lib.hid ha
  have HB := Lib.hid hb
  have HG : Hid (ttOk a b = (!(decide (nb = 0)) && (tabOk a nb && tabOk b (b.getD 0 []).length))) := by show _ = _; unfold ttOk; rw [hb.1]
  clear ha hb
  by_cases h0 : nb = 0
  · have hg : Hid (ttOk a b = false) := by show _ = _; rw [HG.out]; simp [h0]
    have hv := Lib.hid (ttV_no hg.out)
    have hd : ((nb : Int) == 0) = true := by simp [h0]
    clear h0
    go_enter Try.func37, Try.ntmps37
    go_wp2_with fail
    go_ret2
    rw [hg.out, hv.out]
    exact ⟨_, rfl, OIntss.empty _ _ (Nat.le_refl _), (Below.refl _ _).alloc (Nat.le_refl _) _⟩
  have hd0 : ((nb : Int) == 0) = false := by simp; omega
  obtain ⟨b0, o0, a0, c0, r0, rfl, hc0, hrow0, hget0⟩ := HB.out.at_ (k := 0) (by omega)
  rw [Nat.add_zero] at hc0
  have hr0 : b.getD 0 [] = r0 := getD_of hget0.out
  have HR0 := Lib.hid hr0
  have HG2 : Hid (ttOk a b = (tabOk a nb && tabOk b r0.length)) := by show _ = _; rw [HG.out, hr0]; simp [h0]
  have hrm := hrow0.2.1
  clear hrow0 hget0 hr0 HG
  cases h1 : tabOk a nb
  · have hg : Hid (ttOk a b = false) := by show _ = _; rw [HG2.out, h1]; rfl
    have hv := Lib.hid (ttV_no hg.out)
    have H1 := Lib.hid h1
    clear h1
    go_enter Try.func37, Try.ntmps37
    go_wp2_with (go_at_call 78; refine (sIsTable_any _ _ _ a nb _ HA.out hmb).mono ?_; rw [H1.out]; rintro e w' ⟨rfl, rfl⟩)
    go_ret2
    rw [hg.out, hv.out]
    exact ⟨_, rfl, OIntss.empty _ _ (Nat.le_refl _), (Below.refl _ _).alloc (Nat.le_refl _) _⟩
  have H1 := Lib.hid h1
  clear h1
  cases h2 : tabOk b r0.length
  · have hg : Hid (ttOk a b = false) := by show _ = _; rw [HG2.out, h2, H1.out]; rfl
    have hv := Lib.hid (ttV_no hg.out)
    have H2 := Lib.hid h2
    clear h2
    go_enter Try.func37, Try.ntmps37
    go_wp2_with fail
    refine (sIsTable_any _ _ _ a nb _ HA.out hmb).mono ?_
    rw [H1.out]
    rintro e w' ⟨rfl, rfl⟩
    go_wp2_with fail
    refine (sIsTable_any _ _ _ b r0.length _ HB.out hrm).mono ?_
    rw [H2.out]
    rintro e w' ⟨rfl, rfl⟩
    go_wp2_with fail
    go_ret2
    rw [hg.out, hv.out]
    exact ⟨_, rfl, OIntss.empty _ _ (Nat.le_refl _), (Below.refl _ _).alloc (Nat.le_refl _) _⟩
  · have hg : Hid (ttOk a b = true) := by show _ = _; rw [HG2.out, h2, H1.out]; rfl
    have hv : Hid (ttV a b = mulT a b r0.length) := by show _ = _; rw [ttV_yes hg.out, HR0.out]
    have hE : Hid ((mulT a b r0.length).length = na) := by show _ = _; rw [mulT_len, HLA.out]
    have H2 := Lib.hid h2
    have f1 := Lib.hid (tabOk_facts H1.out)
    have f2 := Lib.hid (tabOk_facts h2)
    clear h2
    go_enter Try.func37, Try.ntmps37
    go_wp2_with fail
    refine (sIsTable_any _ _ _ a nb _ HA.out hmb).mono ?_
    rw [H1.out]
    rintro e w' ⟨rfl, rfl⟩
    go_wp2_with fail
    refine (sIsTable_any _ _ _ b r0.length _ HB.out hrm).mono ?_
    rw [H2.out]
    rintro e w' ⟨rfl, rfl⟩
    go_wp2_with fail
    refine (sL4Times_any _ _ _ a _ _ _ b r0.length _ HA.out HB.out f1.out.2.2.2.2 f2.out.2.2.2.2 (by have := f1.out; have := HLA.out; omega) (by have := f2.out; omega)).mono ?_
    rintro e w1 ⟨v, rfl, ho, hb1⟩
    have Ho := Lib.hid ho
    have Hb1 := Lib.hid hb1
    clear ho hb1
    go_wp2_with fail
    go_ret2
    rw [hg.out, hv.out, hE.out]
    exact ⟨_, rfl, Ho.out, Hb1.out⟩
end Go.Proofs.Ytblkgkgopneleaa

namespace Go.Proofs.Ytblkgkgopneleaa
open Go.RowKit
set_option linter.all false
set_option maxHeartbeats 1600000 in
theorem sMulM_any (pa : Option Addr) (na ca : Nat) (a : List (List Int)) (pb : Option Addr) (nb cb : Nat) (b : List (List Int)) (w : World) (ha : Intss w pa na a) (hb : Intss w pb nb b) :
    Calls Try.prog 107 #[.slice pa na ca, .slice pb nb cb] w fun e w' => ∃ v, e = .returned (.tuple #[v, .bool (mulM a b).isSome]) ∧ OIntss w' w.heap.size v ((mulM a b).getD []).length ((mulM a b).getD []) ∧ Below w.heap.size w w' := by
  have hma := ha.2.1
  have hmb := hb.2.1
  have HA := Lib.hid ha
  have HB := Lib.hid hb
  have HLA : Hid (a.length = na) := ha.1
  have HLB : Hid (b.length = nb) := hb.1
  clear ha hb
  have hempty := OIntss.empty w w.heap.size (Nat.le_refl _)
  have hbe : Below w.heap.size w (w.alloc (.cells #[] 42)) := (Below.refl _ _).alloc (Nat.le_refl _) _
  have Hempty := Lib.hid hempty
  have Hbe := Lib.hid hbe
  clear hempty hbe
  cases h1 : isMat a
  · have hg : Hid (mulM a b = none) := mulM_none1 h1
    go_enter Try.func107, Try.ntmps107
    go_wp2_with (first | (go_at_call 68; refine (sIsMatrix_any _ _ _ a _ HA.out).mono ?_; rintro e w' ⟨rfl, rfl⟩))
    go_ret2
    rw [hg.out]
    exact ⟨_, rfl, Hempty.out, Hbe.out⟩
  cases h2 : isMat b
  · have hg : Hid (mulM a b = none) := mulM_none2 h2
    go_enter Try.func107, Try.ntmps107
    go_wp2_with fail
    refine (sIsMatrix_any _ _ _ a _ HA.out).mono ?_
    rintro e w' ⟨rfl, rfl⟩
    go_wp2_with fail
    refine (sIsMatrix_any _ _ _ b _ HB.out).mono ?_
    rintro e w' ⟨rfl, rfl⟩
    go_wp2_with fail
    go_ret2
    rw [hg.out]
    exact ⟨_, rfl, Hempty.out, Hbe.out⟩
  by_cases hn : na = nb
  · subst hn
    have hne : ((na : Int) != (na : Int)) = false := by simp
    have hn9 : na ≤ 9 := by have := isMat_len h1; have := HLA.out; omega
    have HRA := Lib.hid (isMat_rowsLen h1 HLA.out)
    have HRB := Lib.hid (isMat_rowsLen h2 HLB.out)
    have hlab : Hid (a.length = b.length) := by show a.length = b.length; rw [HLA.out, HLB.out]
    have H12 : Hid (isMat a = true ∧ isMat b = true) := ⟨h1, h2⟩
    go_enter Try.func107, Try.ntmps107
    go_wp2_with fail
    refine (sIsMatrix_any _ _ _ a _ HA.out).mono ?_
    rintro e w' ⟨rfl, rfl⟩
    go_wp2_with fail
    refine (sIsMatrix_any _ _ _ b _ HB.out).mono ?_
    rintro e w' ⟨rfl, rfl⟩
    go_wp2_with fail
    clear h1 h2
    refine (sL4Times_any _ _ _ a _ _ _ b na _ HA.out HB.out HRA.out HRB.out (by omega) (by omega)).mono ?_
    rintro e w1 ⟨v, rfl, hown, hbl⟩
    obtain ⟨ao, cap, rfl, hi⟩ := hown.form
    have Hown := Lib.hid hown
    have Hbl := Lib.hid hbl
    have Hi := Lib.hid hi
    clear hown hbl hi
    cases h3 : isMat (mulT a b na)
    · have hg : Hid (mulM a b = none) := mulM_none4 (by rw [HLB.out]; exact h3)
      go_wp2_with fail
      refine (sIsMatrix_any _ _ _ (mulT a b na) _ Hi.out).mono ?_
      rintro e w' ⟨rfl, rfl⟩
      go_wp2_with fail
      go_ret2
      rw [hg.out]
      exact ⟨_, rfl, OIntss.empty w1 _ Hbl.out.size, Hbl.out.alloc Hbl.out.size _⟩
    · have hg : Hid (mulM a b = some (mulT a b na)) := by
        have := mulM_some H12.out.1 H12.out.2 hlab.out (by rw [HLB.out]; exact h3)
        rw [HLB.out] at this
        exact this
      go_wp2_with fail
      refine (sIsMatrix_any _ _ _ (mulT a b na) _ Hi.out).mono ?_
      rintro e w' ⟨rfl, rfl⟩
      go_wp2_with fail
      go_ret2
      rw [hg.out]
      refine ⟨_, rfl, ?_, Hbl.out⟩
      show OIntss w1 w.heap.size _ (mulT a b na).length (mulT a b na)
      rw [Hown.out.len]
      exact Hown.out
  · have hg : Hid (mulM a b = none) := mulM_none3 (by rw [HLA.out, HLB.out]; exact hn)
    have hne : ((na : Int) != (nb : Int)) = true := by simp; omega
    clear hn
    go_enter Try.func107, Try.ntmps107
    go_wp2_with fail
    refine (sIsMatrix_any _ _ _ a _ HA.out).mono ?_
    rintro e w' ⟨rfl, rfl⟩
    go_wp2_with fail
    refine (sIsMatrix_any _ _ _ b _ HB.out).mono ?_
    rintro e w' ⟨rfl, rfl⟩
    go_wp2_with fail
    go_ret2
    rw [hg.out]
    exact ⟨_, rfl, Hempty.out, Hbe.out⟩
end Go.Proofs.Ytblkgkgopneleaa

namespace Go.Proofs.Ytblkgkgopneleaa
open Go.RowKit
set_option linter.all false
set_option maxHeartbeats 1600000 in
theorem sPowM_any (pm : Option Addr) (nm cm : Nat) (m : List (List Int)) (n : Int) (w : World) (hm : Intss w pm nm m) :
    Calls Try.prog 86 #[.slice pm nm cm, .int .i64 n] w fun e w' => ∃ v, e = .returned (.tuple #[v, .bool (powM m n).isSome]) ∧ OIntss w' w.heap.size v ((powM m n).getD []).length ((powM m n).getD []) ∧ Below w.heap.size w w' := by
  have HM := Lib.hid hm
  have HLM : Hid (m.length = nm) := hm.1
  clear hm
  have Hempty := Lib.hid (OIntss.empty w w.heap.size (Nat.le_refl _))
  have Hbe : Hid (Below w.heap.size w (w.alloc (.cells #[] 42))) := (Below.refl _ _).alloc (Nat.le_refl _) _
  cases h1 : isMat m
  · have hg : Hid (powM m n = none) := powM_none1 h1
    go_enter Try.func86, Try.ntmps86
    go_wp2_with (first | (go_at_call 68; refine (sIsMatrix_any _ _ _ m _ HM.out).mono ?_; rintro e w' ⟨rfl, rfl⟩))
    go_ret2
    rw [hg.out]
    exact ⟨_, rfl, Hempty.out, Hbe.out⟩
  cases h2 : inR n 0 30
  · have hg : Hid (powM m n = none) := powM_none2 h2
    go_enter Try.func86, Try.ntmps86
    go_wp2_with (first | (go_at_call 68; refine (sIsMatrix_any _ _ _ m _ HM.out).mono ?_; rintro e w' ⟨rfl, rfl⟩) | (go_at_call 52; refine (l1In_any _ _ _ _).mono ?_; rintro e w' ⟨rfl, rfl⟩))
    go_ret2
    rw [hg.out]
    exact ⟨_, rfl, Hempty.out, Hbe.out⟩
  obtain ⟨q, rfl⟩ := Int.eq_ofNat_of_zero_le (inR_true h2).1
  have hq : q ≤ 30 := by have := (inR_true h2).2; omega
  have hg : Hid (powM m q = iterM m q (oneT nm)) := by have := powM_iter h1 h2; rw [HLM.out] at this; exact this
  have hn9 : nm ≤ 9 := by have := isMat_len h1; have := HLM.out; omega
  go_enter Try.func86, Try.ntmps86
  go_wp2_with (first | (go_at_call 68; refine (sIsMatrix_any _ _ _ m _ HM.out).mono ?_; rintro e w' ⟨rfl, rfl⟩) | (go_at_call 52; refine (l1In_any _ _ _ _).mono ?_; rintro e w' ⟨rfl, rfl⟩))
  clear h1 h2
  refine (sL4One_any nm _ (by omega)).mono ?_
  rintro e w1 ⟨v, rfl, hown, hbl⟩
  have Hown := Lib.hid hown
  have Hbl := Lib.hid hbl
  clear hown hbl
  go_wp2_with fail
  go_loopw [6, 7] (fun v i wr => ∃ (k : Nat) (acc : List (List Int)), k ≤ q ∧ i = .int .i64 k ∧ OIntss wr w.heap.size v nm acc ∧ Hid (iterM m (q - k) acc = iterM m q (oneT nm)) ∧ Below w.heap.size w wr) (fun _ i _ => q - (intOf i).toNat)
  case atStart => exact ⟨0, _, Nat.zero_le _, rfl, Hown.out, rfl, Hbl.out⟩
  case round =>
    obtain ⟨k, acc, hk, rfl, hown, hit, hbl⟩ := hrel
    obtain ⟨wo, rfl⟩ : ∃ wo : World, wo = wr := ⟨_, rfl⟩
    clear Hown Hbl
    by_cases hlt : k < q
    · have Hstep : Hid (q - k = (q - (k + 1)) + 1) := by show q - k = _; omega
      obtain ⟨ao, cap, rfl, hi⟩ := hown.form
      have Hi := Lib.hid hi
      have Hbl := Lib.hid hbl
      clear hi hbl hown
      go_wp2_with fail
      refine (sMulM_any _ _ _ acc _ _ _ m _ Hi.out (HM.out.keep (Hbl.out.mono (Nat.le_refl _)))).mono ?_
      rintro e w2 ⟨v2, rfl, hown2, hb2⟩
      cases hp : mulM acc m with
      | none =>
        have hr1 : Hid (powM m q = none) := by
          have h5 := hit.out
          rw [Hstep.out, iterM_none hp] at h5
          show powM m q = none
          rw [hg.out, h5]
        have Hb2 := Lib.hid (Hbl.out.trans (hb2.mono Hbl.out.size))
        clear hown2 hb2 hit
        go_wp2_with fail
        go_ret2
        rw [hr1.out]
        exact ⟨_, rfl, OIntss.empty w2 _ Hb2.out.size, Hb2.out.alloc Hb2.out.size _⟩
      | some p =>
        have hit' : Hid (iterM m (q - (k + 1)) p = iterM m q (oneT nm)) := by
          have h5 := hit.out
          rw [Hstep.out, iterM_some hp] at h5
          exact h5
        have hpl : p.length = nm := by have := (mulM_mat hp).2; rw [this, HLM.out]
        rw [hp] at hown2
        have hown3 : OIntss w2 w.heap.size v2 nm p := by
          have h6 : OIntss w2 wo.heap.size v2 p.length p := hown2
          rw [hpl] at h6
          exact h6.mono Hbl.out.size
        have Hown3 := Lib.hid hown3
        have Hb2 := Lib.hid (Hbl.out.trans (hb2.mono Hbl.out.size))
        clear hown2 hb2 hit hown3 hpl
        go_wp2_with fail
        go_roundw
        case rel => exact ⟨k + 1, p, hlt, by go_num, Hown3.out, hit', Hb2.out⟩
        case measure => simp [intOf]; omega
    · have hr1 : Hid (powM m q = some acc) := by
        have h5 := hit.out
        rw [show q - k = 0 from by omega] at h5
        show powM m q = some acc
        rw [hg.out, ← h5]
        rfl
      have Hown := Lib.hid hown
      have Hbl := Lib.hid hbl
      clear hown hbl hit
      go_wp2_with fail
      go_ret2
      rw [hr1.out]
      refine ⟨_, rfl, ?_, Hbl.out⟩
      show OIntss wo w.heap.size _ acc.length acc
      rw [Hown.out.len]
      exact Hown.out
end Go.Proofs.Ytblkgkgopneleaa

namespace Go.Proofs.Ytblkgkgopneleaa
open Go.RowKit
set_option linter.all false
set_option maxHeartbeats 1600000 in
theorem sClosed_any (pm : Option Addr) (nm cm : Nat) (m : List (List Int)) (n : Int) (w : World) (h : Intss w pm nm m) :
    Calls Try.prog 42 #[.slice pm nm cm, .int .i64 n] w fun e w' => e = .returned (.int .i64 (closed m n)) ∧ Below w.heap.size w w' := by
  have H := Lib.hid h
  clear h
  cases h1 : inR n 1 30
  · have hg := Lib.hid (closed_n (m := m) h1)
    go_enter Try.func42, Try.ntmps42
    go_wp2_with (go_at_call 52; refine (l1In_any _ _ _ _).mono ?_; rintro e w' ⟨rfl, rfl⟩)
    go_ret
    exact ⟨ret_int hg.out.symm, Below.refl _ _⟩
  cases ht : powM m n with
  | none =>
    have hg := Lib.hid (closed_none ht)
    have hs : (powM m n).isSome = false := by simp [ht]
    clear ht
    go_enter Try.func42, Try.ntmps42
    go_wp2_with (first
          | (go_at_call 52; refine (l1In_any _ _ _ _).mono ?_; rintro e w' ⟨rfl, rfl⟩)
          | (go_at_call 86; refine (sPowM_any _ _ _ m _ _ H.out).mono ?_; rintro e w1 ⟨v, rfl, hown, hbl⟩; have Hbl := Lib.hid hbl; clear hown hbl))
    go_ret
    exact ⟨ret_int hg.out.symm, Hbl.out⟩
  | some p =>
    have hs : (powM m n).isSome = true := by simp [ht]
    have HPM := Lib.hid (powM_mat ht).2.1
    have HG : Hid ((powM m n).getD [] = p) := by show (powM m n).getD [] = p; simp [ht]
    have hg := Lib.hid (closed_some h1 ht)
    clear ht
    go_enter Try.func42, Try.ntmps42
    go_wp2_with (first
          | (go_at_call 52; refine (l1In_any _ _ _ _).mono ?_; rintro e w' ⟨rfl, rfl⟩)
          | (go_at_call 86; refine (sPowM_any _ _ _ m _ _ H.out).mono ?_; rintro e w1 ⟨v, rfl, hown, hbl⟩; obtain ⟨ao, cap, rfl, hin⟩ := hown.form; rw [HG.out] at hin; have Hin := Lib.hid hin; have Hbl := Lib.hid hbl; clear hown hbl hin; rw [HG.out])
          | (go_at_call 87; refine (sTrace_any _ _ _ p _ Hin.out HPM.out).mono ?_; rintro e w' ⟨rfl, rfl⟩))
    go_ret
    exact ⟨ret_int hg.out.symm, Hbl.out⟩
end Go.Proofs.Ytblkgkgopneleaa
