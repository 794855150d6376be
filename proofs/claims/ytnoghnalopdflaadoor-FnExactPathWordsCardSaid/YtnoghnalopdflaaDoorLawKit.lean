/- LawKit: parts of the proofs of this seat: FrameInts FrameIntss SzIntSS SzTot ToIntS ToIntSS EqIntS EqIntSS MarkIntS MarkIn MarkIntSS. -/
import Derived.Test.YtnoghnalopdflaaDoorRows
import Derived.ProofKit
import Derived.OpenShut
import Derived.ShutString
import Derived.ChangeOld
import Derived.Deep.Matrix
import Derived.Test.YtnoghnalopdflaaDoorProg
import Derived.Test.YtnoghnalopdflaaDoorBase
namespace Go.Proofs.YtnoghnalopdflaaDoor
open Go.RowKit
set_option linter.all false
open Go.ChangeShapes Go.WideShapes Go.ChangeAt
theorem ownKnobNone : ownKnob Tryd.prog.godebug = none := by kernel_rfl
theorem laidOutYes : laidOutB Tryd.prog = true := by kernel_rfl

/-- A slice of ints that came in: it reads as the list xs, each number an int. -/
def IntsIn (w : World) (ao : Option Addr) (n : Nat) (xs : List Int) : Prop :=
  xs.length = n ∧ (∀ i, i < xs.length → ∃ b o, ao = some ⟨b, o, none⟩ ∧ w.cell? ⟨b, o + i, none⟩ = some (.int .i64 (xs.getD i 0))) ∧ ∀ x ∈ xs, (Lit.int .i64 x).wf = true

theorem IntsIn.ints {w : World} {ao : Option Addr} {n : Nat} {xs : List Int} (h : IntsIn w ao n xs) (hn : n ≤ 1099511627776) : Ints w ao n xs := ⟨h.1, hn, h.2.1⟩

theorem cell_plain {w : World} {x : Addr} {i : Nat} {v u : Value} (h0 : w.cell? (x.add 0) = some u) (h : w.cell? (x.add i) = some v) : ∃ b o, x = ⟨b, o, none⟩ ∧ w.cell? ⟨b, o + i, none⟩ = some v := by
  obtain ⟨b, off, spot⟩ := x
  have hs : spot = none := by simpa [Addr.add] using World.cell?_spot h0
  subst hs
  rw [Addr.add_lit] at h
  exact ⟨b, off, rfl, h⟩

theorem open_intsIn {H : Type} {enc : TypeId × Value → H} {W : World} {base : Nat} {held : Bool} {ao : Option Addr} {n cap : Nat} {d : DataW H} {p : List MemPlace}
    (h : DataW.Trod enc Tryd.prog W base (fun _ => true) held 22 (.slice ao n cap) d p) : ∃ xs, IntsIn W ao n xs := by
  obtain ⟨fuel, hf⟩ := h
  rcases open_ints Tryd.underlying22 Tryd.underlying3 (by kernel_rfl) hf with ⟨hcs, _⟩ | ⟨x, l, c, zs, hcs, _, hl, hm, hz, _, hcell, hwz⟩
  · simp [Value.cells] at hcs
    obtain ⟨rfl, rfl, rfl⟩ := hcs
    exact ⟨[], rfl, fun i hi => by simp at hi, by simp⟩
  · simp [Value.cells] at hcs
    obtain ⟨rfl, rfl, rfl⟩ := hcs
    have hz' : zs.length = cap := by simpa using hz
    refine ⟨zs.take n, by simp; omega, fun i hi => ?_, fun x hx => hwz x (List.mem_of_mem_take hx)⟩
    have hi' : i < n := by simp at hi; omega
    obtain ⟨b, o, rfl, hc⟩ := cell_plain (hcell 0 (by omega)) (hcell i (by omega))
    refine ⟨b, o, rfl, ?_⟩
    rw [hc]
    congr 2
    simp [List.getD, List.getElem?_take, hi']
end Go.Proofs.YtnoghnalopdflaaDoor

namespace Go.Proofs.YtnoghnalopdflaaDoor
open Go.RowKit
set_option linter.all false
open Go.ChangeShapes Go.WideShapes Go.ChangeAt
/-- A slice of slices of ints that came in: it reads as the list xss of lists. -/
def IntssIn (w : World) (ao : Option Addr) (n : Nat) (xss : List (List Int)) : Prop :=
  xss.length = n ∧ n ≤ 9223372036854775807 ∧ ∀ i r, xss[i]? = some r → ∃ b o ai ci, ao = some ⟨b, o, none⟩ ∧ w.cell? ⟨b, o + i, none⟩ = some (.slice ai r.length ci) ∧ r.length ≤ 9223372036854775807 ∧ IntsIn w ai r.length r ∧ r.length ≤ ci

theorem IntssIn.at_ {w : World} {ao : Option Addr} {n k : Nat} {xss : List (List Int)} (h : IntssIn w ao n xss) (hk : k < n) :
    ∃ b o ai ci r, ao = some ⟨b, o, none⟩ ∧ w.cell? ⟨b, o + k, none⟩ = some (.slice ai r.length ci) ∧ r.length ≤ 9223372036854775807 ∧ Hid (xss[k]? = some r) := by
  have hl : k < xss.length := by rw [h.1]; exact hk
  obtain ⟨b, o, ai, ci, e, hc, hr, _⟩ := h.2.2 k xss[k] (List.getElem?_eq_getElem hl)
  exact ⟨b, o, ai, ci, _, e, hc, hr, List.getElem?_eq_getElem hl⟩

theorem IntssIn.intss {w : World} {ao : Option Addr} {n : Nat} {xss : List (List Int)} (h : IntssIn w ao n xss) (hn : n ≤ 1099511627776) (hr : ∀ r ∈ xss, r.length ≤ 1099511627776) : Intss w ao n xss := by
  refine ⟨h.1, hn, fun i r hi => ?_⟩
  obtain ⟨b, o, ai, ci, e, hc, _, hin, hl⟩ := h.2.2 i r hi
  exact ⟨b, o, ai, ci, e, hc, hin.ints (hr r (List.mem_of_getElem? hi)), hl⟩

theorem open_intssIn {H : Type} {enc : TypeId × Value → H} {W : World} {base : Nat} {held : Bool} {ao : Option Addr} {n cap : Nat} {d : DataW H} {p : List MemPlace}
    (h : DataW.Trod enc Tryd.prog W base (fun _ => true) held 32 (.slice ao n cap) d p) : ∃ xss, IntssIn W ao n xss := by
  obtain ⟨fuel, hf⟩ := h
  rcases Go.Deep.open_int_rows Tryd.underlying32 Tryd.underlying22 Tryd.underlying3 (by kernel_rfl) (by kernel_rfl) hf with ⟨hcs, _⟩ | ⟨x, l, c, A, L, C, Z, hcs, _, hl, hm, _, hrow⟩
  · simp [Value.cells] at hcs
    obtain ⟨rfl, rfl, rfl⟩ := hcs
    exact ⟨[], rfl, by omega, fun i r hi => by simp at hi⟩
  · simp [Value.cells] at hcs
    obtain ⟨rfl, rfl, rfl⟩ := hcs
    unfold maxLen at hm
    refine ⟨(List.range n).map fun r => (Z r).take (L r), by simp, by omega, fun i r hi => ?_⟩
    have hin : i < n := by simpa using (List.getElem?_eq_some_iff.1 hi).1
    have hr : r = (Z i).take (L i) := by simpa [hin, eq_comm] using hi
    subst hr
    obtain ⟨hc, h1, h2, h3, h4, h5, h6⟩ := hrow i (by omega)
    obtain ⟨hc0, _⟩ := hrow 0 (by omega)
    unfold maxLen at h2
    obtain ⟨b, o, rfl, hc'⟩ := cell_plain hc0 hc
    have hlen : ((Z i).take (L i)).length = L i := by simp; omega
    rw [hlen]
    refine ⟨b, o, A i, C i, rfl, hc', by omega, ⟨hlen, fun j hj => ?_, fun y hy => h4 y (List.mem_of_mem_take hy)⟩, h1⟩
    have hj' : j < L i := by omega
    cases ha : A i with
    | none => have := h5 ha; omega
    | some a' =>
      obtain ⟨_, hcell⟩ := h6 a' ha
      obtain ⟨b', o', rfl, hc2⟩ := cell_plain (hcell 0 (by omega)) (hcell j (by omega))
      refine ⟨b', o', rfl, ?_⟩
      rw [hc2]
      congr 2
      simp [List.getD, List.getElem?_take, hj']
end Go.Proofs.YtnoghnalopdflaaDoor

namespace Go.Proofs.YtnoghnalopdflaaDoor
open Go.RowKit
set_option linter.all false
def szl : Int → List (List Int) → Int
  | l, [] => l
  | l, r :: rs => if l < r.length then -1 else szl (l - r.length) rs
def sz2 (xss : List (List Int)) (l : Int) : Int := if l < xss.length then -1 else szl (l - xss.length) xss

theorem szl_bound : ∀ (xss : List (List Int)) (l : Int), 0 ≤ szl l xss → ∀ r ∈ xss, (r.length : Int) ≤ l
  | [], _, _, _, hr => by simp at hr
  | x :: rs, l, h, r, hr => by
    unfold szl at h
    split at h
    · omega
    · rcases List.mem_cons.1 hr with rfl | hr
      · omega
      · have := szl_bound rs _ h r hr; omega
theorem szl_range : ∀ (xss : List (List Int)) (l : Int), 0 ≤ l → -1 ≤ szl l xss ∧ szl l xss ≤ l
  | [], l, h => by simp [szl]; omega
  | x :: rs, l, h => by
    unfold szl
    split
    · omega
    · have := szl_range rs (l - x.length) (by omega); omega
theorem sz2_range (xss : List (List Int)) (l : Int) (h : 0 ≤ l) : -1 ≤ sz2 xss l ∧ sz2 xss l ≤ l := by
  unfold sz2
  split
  · omega
  · have := szl_range xss (l - xss.length) (by omega); omega
theorem sz2_bound {xss : List (List Int)} {l : Int} (h : 0 ≤ sz2 xss l) : (xss.length : Int) ≤ l ∧ ∀ r ∈ xss, (r.length : Int) ≤ l := by
  unfold sz2 at h
  split at h
  · omega
  · exact ⟨by omega, fun r hr => by have := szl_bound _ _ h r hr; omega⟩

theorem szl_step {xss : List (List Int)} {k : Nat} {r : List Int} {l b : Int} (hk : xss[k]? = some r) (h : szl l (xss.drop k) = b) :
    (l < r.length → b = -1) ∧ ((r.length : Int) ≤ l → szl (l - r.length) (xss.drop (k + 1)) = b) := by
  rw [drop_of_get hk] at h
  unfold szl at h
  constructor
  · intro e; rw [if_pos e] at h; exact h.symm
  · intro e; rw [if_neg (by omega)] at h; exact h

set_option maxHeartbeats 400000 in
theorem szIntS_no (ao : Option Addr) (n cap : Nat) (l : Int) (w : World) (hn : n ≤ 9223372036854775807) (h0 : 0 ≤ l) (h1 : l ≤ 1048576) (h : l < n) :
    Calls Tryd.prog 62 #[.slice ao n cap, .int .i64 l] w fun e w' => e = .returned (.int .i64 (-1)) ∧ w = w' := by
  go_enter Tryd.func62, Tryd.ntmps62
  go_wp2
  go_ret
  exact ⟨rfl, rfl⟩
set_option maxHeartbeats 400000 in
theorem szIntS_yes (ao : Option Addr) (n cap : Nat) (l : Int) (w : World) (h1 : l ≤ 1048576) (h : (n : Int) ≤ l) :
    Calls Tryd.prog 62 #[.slice ao n cap, .int .i64 l] w fun e w' => e = .returned (.int .i64 (l - n)) ∧ w = w' := by
  go_enter Tryd.func62, Tryd.ntmps62
  go_wp2
  go_ret
  exact ⟨rfl, rfl⟩

set_option maxHeartbeats 400000 in
theorem szIntSS_any (ao : Option Addr) (n cap : Nat) (xss : List (List Int)) (l : Int) (w : World) (h : IntssIn w ao n xss) (h0 : 0 ≤ l) (h1 : l ≤ 1048576) :
    Calls Tryd.prog 18 #[.slice ao n cap, .int .i64 l] w fun e w' => e = .returned (.int .i64 (sz2 xss l)) ∧ w = w' := by
  have hl := h.1
  have hm := h.2.1
  by_cases hlt : l < n
  · have hr : Hid (sz2 xss l = -1) := by show sz2 xss l = _; unfold sz2; rw [if_pos (by omega)]
    clear h hl
    go_enter Tryd.func18, Tryd.ntmps18
    go_wp2
    go_ret
    exact ⟨ret_int hr.out.symm, rfl⟩
  · have hr : Hid (sz2 xss l = szl (l - n) xss) := by show sz2 xss l = _; unfold sz2; rw [if_neg (by omega), hl]
    have HL := Lib.hid hl
    clear hl
    go_enter Tryd.func18, Tryd.ntmps18
    go_wp2
    go_loop [1, 5] (fun s i => ∃ (k : Nat) (t : Int), k ≤ n ∧ i = .int .i64 k ∧ s = .int .i64 t ∧ 0 ≤ t ∧ t ≤ 1048576 ∧ Hid (szl t (xss.drop k) = szl (l - n) xss)) (fun _ i => n - (intOf i).toNat)
    case atStart => exact ⟨0, l - n, Nat.zero_le _, rfl, rfl, by omega, by omega, rfl⟩
    case round =>
      obtain ⟨k, t, hk, rfl, rfl, ht0, ht1, hz⟩ := hrel
      by_cases hkn : k < n
      · obtain ⟨b, o, ai, ci, r, rfl, hcell, hrl, hget⟩ := h.at_ hkn
        have Hst := Lib.hid (szl_step hget.out hz.out)
        clear h hz
        by_cases ht : t < r.length
        · have hr1 : Hid _ := Hst.out.1 ht
          clear Hst
          go_wp2_with (first | (go_at_call 62; refine (szIntS_no _ _ _ _ _ hrl ht0 ht1 ht).mono ?_; rintro e w' ⟨rfl, rfl⟩))
          go_ret
          exact ⟨ret_int (by rw [hr.out, hr1.out]), rfl⟩
        · have ht' : (r.length : Int) ≤ t := by omega
          have hr1 : Hid _ := Hst.out.2 ht'
          clear Hst ht
          have h2 : 0 ≤ t - r.length := by omega
          go_wp2_with (first | (go_at_call 62; refine (szIntS_yes _ _ _ _ _ ht1 ht').mono ?_; rintro e w' ⟨rfl, rfl⟩))
          go_round
          case rel => exact ⟨k + 1, _, hkn, by go_num, rfl, h2, by omega, hr1⟩
          case measure => simp [intOf]; omega
      · go_wp2
        go_ret
        rw [drop_all xss k (by have := HL.out; omega)] at hz
        exact ⟨ret_int (by rw [hr.out, ← hz.out]; rfl), rfl⟩
end Go.Proofs.YtnoghnalopdflaaDoor

namespace Go.Proofs.YtnoghnalopdflaaDoor
open Go.RowKit
set_option linter.all false
theorem szl_tot : ∀ (xss : List (List Int)) (l : Int), 0 ≤ szl l xss → tot xss ≤ l
  | [], l, h => by simpa [szl, tot] using h
  | r :: rs, l, h => by
    unfold szl at h
    split at h
    · omega
    · have := szl_tot rs _ h
      rw [tot_cons]
      omega
theorem sz2_tot {xss : List (List Int)} {l : Int} (h : 0 ≤ sz2 xss l) : tot xss ≤ l := by
  unfold sz2 at h
  split at h
  · omega
  · have := szl_tot _ _ h
    omega
end Go.Proofs.YtnoghnalopdflaaDoor

namespace Go.Proofs.YtnoghnalopdflaaDoor
open Go.RowKit
set_option linter.all false
theorem take_set_step {xs L : List Int} {k : Nat} (hk : k < xs.length) (hL : L.length = xs.length) (h : L.take k = xs.take k) : (L.set k xs[k]).take (k + 1) = xs.take (k + 1) := by
  rw [List.take_succ_eq_append_getElem (by simp; omega), List.take_succ_eq_append_getElem hk]
  simp [List.take_set_of_le, h]

set_option maxHeartbeats 400000 in
theorem toIntS_any (ao : Option Addr) (n cap : Nat) (xs : List Int) (w : World) (h : Ints w ao n xs) :
    Calls Tryd.prog 10 #[.slice ao n cap] w fun e w' => ∃ g, e = .returned (.slice (some ⟨g, 0, none⟩) n n) ∧ OInts w' w.heap.size (.slice (some ⟨g, 0, none⟩) n n) n xs ∧ Below w.heap.size w w' := by
  obtain ⟨hn, hm, hc⟩ := h
  subst hn
  have hmk := make_ints xs.length hm
  have hmade := OInts.made w xs.length hm
  go_enter Tryd.func10, Tryd.ntmps10
  go_wp2
  go_loopw [4] (fun i wr => ∃ (k : Nat) (L : List Int), k ≤ xs.length ∧ i = .int .i64 k ∧ OInts wr w.heap.size (.slice (some ⟨w.heap.size, 0, none⟩) xs.length xs.length) xs.length L ∧ Hid (L.take k = xs.take k) ∧ Below w.heap.size w wr) (fun i _ => xs.length - (intOf i).toNat)
  case atStart => exact ⟨0, _, Nat.zero_le _, rfl, hmade, rfl, (Below.refl _ _).alloc (Nat.le_refl _) _⟩
  case round =>
    obtain ⟨k, L, hk, rfl, hown, hL, hb⟩ := hrel
    clear hmade hmk
    by_cases hlt : k < xs.length
    · obtain ⟨b, o, rfl, hcell⟩ := hc k hlt
      clear hc
      have hcell' := (hb.cell (p := ⟨b, o + k, none⟩) (World.block_lt_of_cell? w _ hcell)).trans hcell
      have hco := hown.cell k hlt
      have hfo := hown.frozen k
      have hown' := hown.set k (xs[k])
      have hL' : Hid _ := take_set_step hlt hown.len hL.out
      go_wp2
      go_roundw
      case rel => exact ⟨k + 1, _, hlt, by go_num, hown', hL', hb.setCell (Nat.le_refl _) _⟩
      case measure => simp [intOf]; omega
    · go_wp2
      go_ret
      have hl := hown.len
      have e : L = xs := by
        have := hL.out
        rw [List.take_of_length_le (by omega), List.take_of_length_le (by omega)] at this
        exact this
      subst e
      exact ⟨_, rfl, hown, hb⟩
end Go.Proofs.YtnoghnalopdflaaDoor

namespace Go.Proofs.YtnoghnalopdflaaDoor
open Go.RowKit
set_option linter.all false
theorem take_set_step2 {α : Type} {xs L : List α} {k : Nat} {r : α} (hk : xs[k]? = some r) (hL : L.length = xs.length) (h : L.take k = xs.take k) : (L.set k r).take (k + 1) = xs.take (k + 1) := by
  obtain ⟨hk', rfl⟩ := List.getElem?_eq_some_iff.1 hk
  rw [List.take_succ_eq_append_getElem (by simp; omega), List.take_succ_eq_append_getElem hk']
  simp [List.take_set_of_le, h]

set_option maxHeartbeats 800000 in
theorem toIntSS_any (ao : Option Addr) (n cap : Nat) (xss : List (List Int)) (w : World) (h : Intss w ao n xss) :
    Calls Tryd.prog 20 #[.slice ao n cap] w fun e w' => ∃ g, e = .returned (.slice (some ⟨g, 0, none⟩) n n) ∧ OIntss w' w.heap.size (.slice (some ⟨g, 0, none⟩) n n) n xss ∧ Below w.heap.size w w' := by
  have hm := h.2.1
  have HL := Lib.hid h.1
  have H := Lib.hid h
  clear h
  have hmk := make_intss n hm
  have hmade := OIntss.made w n hm
  go_enter Tryd.func20, Tryd.ntmps20
  go_wp2
  go_loopw [4] (fun i wr => ∃ (k : Nat) (L : List (List Int)), k ≤ n ∧ i = .int .i64 k ∧ OIntss wr w.heap.size (.slice (some ⟨w.heap.size, 0, none⟩) n n) n L ∧ Hid (L.take k = xss.take k) ∧ Below w.heap.size w wr) (fun i _ => n - (intOf i).toNat)
  case atStart => exact ⟨0, _, Nat.zero_le _, rfl, hmade, rfl, (Below.refl _ _).alloc (Nat.le_refl _) _⟩
  case round =>
    obtain ⟨k, L, hk, rfl, hown, hL, hb⟩ := hrel
    clear hmade hmk
    by_cases hlt : k < n
    · obtain ⟨b, o, ai, ci, r, rfl, hcell, hrow, hget⟩ := H.out.at_ hlt
      have hcell' := (hb.cell (p := ⟨b, o + k, none⟩) (World.block_lt_of_cell? w _ hcell)).trans hcell
      have Hrow := Lib.hid (hrow.keep hb)
      clear hrow H hcell
      go_wp2_with fail
      refine (toIntS_any _ _ _ r _ Hrow.out).mono ?_
      rintro e w1 ⟨g, rfl, ho1, hb1⟩
      have hown1 := hown.keep hb1
      obtain ⟨u0, r0, hcu, _, _, _⟩ := hown1.cell k hlt
      have hfo := hown1.frozen k
      have hset := hown1.set k (ho1.mono hb.size) (by
        intro b' hb' i u' r' hik hc' hx' he
        have hlen := hown.len
        obtain ⟨u2, r2, hc2, _, ho2, _⟩ := hown.cell i (by rw [← hlen]; exact (List.getElem?_eq_some_iff.1 hx').1)
        have := (hb1.cell (p := ⟨w.heap.size, i, none⟩) (World.block_lt_of_cell? wr _ hc2)).trans hc2
        rw [hc'] at this
        injection this with this
        subst this
        have h3 := ho1.2.lt b' hb'
        have h4 := ho2.2.lt b' he
        omega)
      have hL' : Hid _ := take_set_step2 hget.out (hown.len.trans HL.out.symm) hL.out
      have hb2 := (hb.trans (hb1.mono hb.size)).setCell (p := ⟨w.heap.size, k, none⟩) (Nat.le_refl _) (.slice (some ⟨g, 0, none⟩) r.length r.length)
      clear hown hown1 ho1 hb1 hb
      go_wp2_with fail
      go_roundw
      case rel => exact ⟨k + 1, _, hlt, by go_num, hset, hL', hb2⟩
      case measure => simp [intOf]; omega
    · go_wp2_with fail
      go_ret
      have e : L = xss := by
        have := hL.out
        rw [List.take_of_length_le (by have := hown.len; omega), List.take_of_length_le (by have := HL.out; omega)] at this
        exact this
      subst e
      exact ⟨_, rfl, hown, hb⟩
end Go.Proofs.YtnoghnalopdflaaDoor

namespace Go.Proofs.YtnoghnalopdflaaDoor
open Go.RowKit
set_option linter.all false
set_option maxHeartbeats 400000 in
theorem eqIntS_any (ao : Option Addr) (n cap : Nat) (xs : List Int) (ao' : Option Addr) (n' cap' : Nat) (ys : List Int) (w : World) (h : Ints w ao n xs) (h' : Ints w ao' n' ys) :
    Calls Tryd.prog 12 #[.slice ao n cap, .slice ao' n' cap'] w fun e w' => e = .returned (.bool (eqL xs ys)) ∧ Drew w w' := by
  obtain ⟨hn, hm, hc⟩ := h
  obtain ⟨hn', hm', hc'⟩ := h'
  subst hn
  subst hn'
  by_cases hl : xs.length = ys.length
  · have HL := Lib.hid hl
    have hl1 : ((xs.length : Int) != (ys.length : Int)) = false := by simp [hl]
    clear hl
    go_enter Tryd.func12, Tryd.ntmps12
    go_wp2
    go_loopw [5] (fun i wr => ∃ k : Nat, k ≤ xs.length ∧ i = .int .i64 k ∧ Drew w wr ∧ Hid (eqL (xs.drop k) (ys.drop k) = eqL xs ys)) (fun i _ => xs.length - (intOf i).toNat)
    case atStart => exact ⟨0, Nat.zero_le _, rfl, Drew.refl w, rfl⟩
    case round =>
      obtain ⟨k, hk, rfl, ⟨m, rfl⟩, hr⟩ := hrel
      by_cases hlt : k < xs.length
      · have hlt' : k < ys.length := by have := HL.out; omega
        obtain ⟨b, o, rfl, hcell⟩ := hc k hlt
        obtain ⟨b', o', rfl, hcell'⟩ := hc' k hlt'
        clear hc hc'
        have hst := eqL_step hlt hlt' hr.out
        have Hst := Lib.hid hst
        clear hst
        by_cases he : xs[k] = ys[k]
        · have he1 : (xs[k] != ys[k]) = false := by simp [he]
          have hr1 : Hid _ := Hst.out.1 he
          clear he Hst hr
          go_wp2_with fail
          go_quiet (fail)
          go_wp2
          go_roundw
          case rel => exact ⟨k + 1, hlt, by go_num, (by first | exact Drew.refl _ | exact Drew.mk _ _ | exact (Drew.mk _ _).drewN _), hr1⟩
          case measure => simp [intOf]; omega
        · have he1 : (xs[k] != ys[k]) = true := by simp [he]
          have hr1 : Hid _ := Hst.out.2 he
          clear he Hst hr
          go_wp2_with fail
          go_quiet (fail)
          go_wp2
          go_ret
          exact ⟨ret_bool hr1.out.symm, (by first | exact Drew.refl _ | exact Drew.mk _ _ | exact (Drew.mk _ _).drewN _)⟩
      · go_wp2
        go_ret
        rw [eqL_nil (by omega) (by have := HL.out; omega)] at hr
        exact ⟨ret_bool hr.out, (by first | exact Drew.refl _ | exact Drew.mk _ _ | exact (Drew.mk _ _).drewN _)⟩
  · have hl1 : ((xs.length : Int) != (ys.length : Int)) = true := by simp; omega
    have HL : Hid _ := eqL_len hl
    clear hl
    go_enter Tryd.func12, Tryd.ntmps12
    go_wp2
    go_ret
    exact ⟨ret_bool HL.out.symm, Drew.refl w⟩
end Go.Proofs.YtnoghnalopdflaaDoor

namespace Go.Proofs.YtnoghnalopdflaaDoor
open Go.RowKit
set_option linter.all false
theorem eqL_step2 {α : Type} [DecidableEq α] {xs ys : List α} {k : Nat} {x y : α} (hx : xs[k]? = some x) (hy : ys[k]? = some y) {b : Bool} (h : eqL (xs.drop k) (ys.drop k) = b) :
    (x = y → eqL (xs.drop (k + 1)) (ys.drop (k + 1)) = b) ∧ (x ≠ y → b = false) := by
  obtain ⟨h1, rfl⟩ := List.getElem?_eq_some_iff.1 hx
  obtain ⟨h2, rfl⟩ := List.getElem?_eq_some_iff.1 hy
  exact eqL_step h1 h2 h

set_option maxHeartbeats 800000 in
theorem eqIntSS_any (ao : Option Addr) (n cap : Nat) (xs : List (List Int)) (ao' : Option Addr) (n' cap' : Nat) (ys : List (List Int)) (w : World) (h : Intss w ao n xs) (h' : Intss w ao' n' ys) :
    Calls Tryd.prog 22 #[.slice ao n cap, .slice ao' n' cap'] w fun e w' => e = .returned (.bool (eqL xs ys)) ∧ Drew w w' := by
  have hm := h.2.1
  have hm' := h'.2.1
  have HX := Lib.hid h.1
  have HY := Lib.hid h'.1
  by_cases hl : n = n'
  · subst hl
    have hl1 : ((n : Int) != (n : Int)) = false := by simp
    have H := Lib.hid h
    have H' := Lib.hid h'
    clear h h'
    go_enter Tryd.func22, Tryd.ntmps22
    go_wp2
    go_loopw [5] (fun i wr => ∃ k : Nat, k ≤ n ∧ i = .int .i64 k ∧ Drew w wr ∧ Hid (eqL (xs.drop k) (ys.drop k) = eqL xs ys)) (fun i _ => n - (intOf i).toNat)
    case atStart => exact ⟨0, Nat.zero_le _, rfl, Drew.refl w, rfl⟩
    case round =>
      obtain ⟨k, hk, rfl, ⟨m, rfl⟩, hr⟩ := hrel
      by_cases hlt : k < n
      · obtain ⟨b, o, ai, ci, r, rfl, hcell, hrow, hget⟩ := H.out.at_ hlt
        obtain ⟨b', o', ai', ci', r', rfl, hcell', hrow', hget'⟩ := H'.out.at_ hlt
        clear H H'
        have Hst := Lib.hid (eqL_step2 hget.out hget'.out hr.out)
        have Hr := Lib.hid hrow
        have Hr' := Lib.hid hrow'
        clear hrow hrow' hr
        by_cases he : r = r'
        · have he1 : eqL r r' = true := eqL_true he
          have hr1 : Hid _ := Hst.out.1 he
          clear he Hst
          go_wp2_with fail
          go_quiet ((go_at_call 12; exact quiet_Da (eqIntS_any _ _ _ r _ _ _ r' _ Hr.out Hr'.out)))
          go_wp2
          go_roundw
          case rel => exact ⟨k + 1, hlt, by go_num, (by first | exact Drew.refl _ | exact Drew.mk _ _ | exact (Drew.mk _ _).drewN _), hr1⟩
          case measure => simp [intOf]; omega
        · have he1 : eqL r r' = false := eqL_false he
          have hr1 : Hid _ := Hst.out.2 he
          clear he Hst
          go_wp2_with fail
          go_quiet ((go_at_call 12; exact quiet_Da (eqIntS_any _ _ _ r _ _ _ r' _ Hr.out Hr'.out)))
          go_wp2
          go_ret
          exact ⟨ret_bool hr1.out.symm, (by first | exact Drew.refl _ | exact Drew.mk _ _ | exact (Drew.mk _ _).drewN _)⟩
      · go_wp2
        go_ret
        rw [eqL_nil (by have := HX.out; omega) (by have := HY.out; omega)] at hr
        exact ⟨ret_bool hr.out, (by first | exact Drew.refl _ | exact Drew.mk _ _ | exact (Drew.mk _ _).drewN _)⟩
  · have hl1 : ((n : Int) != (n' : Int)) = true := by simp; omega
    have HL : Hid _ := eqL_len (xs := xs) (ys := ys) (by have := HX.out; have := HY.out; omega)
    clear hl h h'
    go_enter Tryd.func22, Tryd.ntmps22
    go_wp2
    go_ret
    exact ⟨ret_bool HL.out.symm, Drew.refl w⟩
end Go.Proofs.YtnoghnalopdflaaDoor

namespace Go.Proofs.YtnoghnalopdflaaDoor
open Go.RowKit
set_option linter.all false
set_option maxHeartbeats 800000 in
theorem markIntS_any (ao : Option Addr) (n cap : Nat) (xs : List Int) (k : Int) (lo : Nat) (w : World) (h : OInts w lo (.slice ao n cap) n xs) (h0 : 0 ≤ k) (h1 : k ≤ 1099511627776) :
    Calls Tryd.prog 68 #[.slice ao n cap, .int .i64 k] w fun e w' => e = .returned (.int .i64 (k + n)) ∧ OInts w' lo (.slice ao n cap) n (marks k n) ∧ w.grownBy w' (Value.slice ao n cap).ownBlock := by
  have hm := h.1
  have HX := Lib.hid h.len
  rcases h.two with ⟨rfl, rfl⟩ | ⟨g, rfl⟩
  · have e : xs = [] := List.eq_nil_of_length_eq_zero HX.out
    subst e
    have H := Lib.hid h
    clear h
    go_enter Tryd.func68, Tryd.ntmps68
    go_wp2
    go_loop [1, 5] (fun s i => i = .int .i64 0 ∧ s = .int .i64 k) (fun _ _ => 0)
    case atStart => exact ⟨rfl, rfl⟩
    case round =>
      obtain ⟨rfl, rfl⟩ := hrel
      go_wp2
      go_ret
      exact ⟨ret_int (by simp), H.out, World.grownBy.refl _ _⟩
  · have H := Lib.hid h
    clear h
    go_enter Tryd.func68, Tryd.ntmps68
    go_wp2
    go_loopw [1, 5] (fun s i wr => ∃ j : Nat, j ≤ n ∧ i = .int .i64 j ∧ s = .int .i64 (k + j) ∧ OInts wr lo (.slice (some ⟨g, 0, none⟩) n cap) n ((marks k n).take j ++ xs.drop j) ∧ w.grownBy wr (some g)) (fun _ i _ => n - (intOf i).toNat)
    case atStart => exact ⟨0, Nat.zero_le _, rfl, by simp, by simpa using H.out, World.grownBy.refl _ _⟩
    case round =>
      obtain ⟨j, hj, rfl, rfl, hown, hg⟩ := hrel
      clear H
      by_cases hlt : j < n
      · have hc := hown.cell j hlt
        have hf := hown.frozen j
        have hx : xs[j]? = some (xs.getD j 0) := by simp [List.getD, HX.out, hlt]
        have hs := hown.set j (k + j)
        rw [mix_set hx (marks_get hlt)] at hs
        have hg' := only_setCell hg (p := ⟨g, j, none⟩) rfl (.int .i64 (k + j))
        clear hown hg hx
        go_wp2
        go_roundw
        case rel => exact ⟨j + 1, hlt, by go_num, by go_num, hs, hg'⟩
        case measure => simp [intOf]; omega
      · have e : j = n := by omega
        subst e
        rw [mix_end (marks_len k j) HX.out] at hown
        have Ho := Lib.hid hown
        clear hown
        go_wp2
        go_ret
        exact ⟨rfl, Ho.out, hg⟩
end Go.Proofs.YtnoghnalopdflaaDoor

namespace Go.Proofs.YtnoghnalopdflaaDoor
open Go.RowKit
set_option linter.all false
theorem markIntS_in (ao : Option Addr) (n cap : Nat) (xs : List Int) (k : Int) (lo : Nat) (wb w : World) (h : OInts wb lo (.slice ao n cap) n xs) (hs : Since lo wb.heap.size wb w) (h0 : 0 ≤ k) (h1 : k ≤ 1099511627776) :
    Calls Tryd.prog 68 #[.slice ao n cap, .int .i64 k] w fun e w' => e = .returned (.int .i64 (k + n)) ∧ Within lo wb.heap.size w w' ∧ OInts w' lo (.slice ao n cap) n (marks k n) := by
  refine (markIntS_any ao n cap xs k lo w (h.since hs) h0 h1).mono ?_
  rintro e w' ⟨he, ho, hg⟩
  exact ⟨he, Within.grown hg (fun b hb => h.ownlt b hb), ho⟩
end Go.Proofs.YtnoghnalopdflaaDoor

namespace Go.Proofs.YtnoghnalopdflaaDoor
open Go.RowKit
set_option linter.all false
theorem OIntss.ownlt_row {w : World} {lo g n cap : Nat} {xss : List (List Int)} (h : OIntss w lo (.slice (some ⟨g, 0, none⟩) n cap) n xss) {k b : Nat} {r : List Int} {u : Value} (hk : xss[k]? = some r) (hc : w.cell? ⟨g, k, none⟩ = some u) (hb : u.ownBlock = some b) : lo ≤ b ∧ b < w.heap.size := by
  obtain ⟨vs, ai, ci, _, _, h4, ho⟩ := h.rows hk
  rw [h4] at hc
  injection hc with hc
  subst hc
  exact ho.ownlt b hb
set_option maxHeartbeats 1600000 in
theorem markIntSS_in (ao : Option Addr) (n cap : Nat) (xss : List (List Int)) (k : Int) (lo : Nat) (wb w : World) (h : OIntss wb lo (.slice ao n cap) n xss) (hbl : Since lo wb.heap.size wb w) (h0 : 0 ≤ k) (h1 : k + tot xss ≤ 1099511627776) :
    Calls Tryd.prog 23 #[.slice ao n cap, .int .i64 k] w fun e w' => e = .returned (.int .i64 (k + tot xss)) ∧ Within lo wb.heap.size w w' ∧ OIntss w' lo (.slice ao n cap) n (markT k xss) := by
  have hm := h.1
  have hlen := h.len
  have HT := Lib.hid (fun i => tot_take_le (xss := xss) i)
  have ht0 := tot_nonneg xss
  rcases Nat.eq_zero_or_pos n with hz | hpos
  · subst hz
    have e : xss = [] := List.eq_nil_of_length_eq_zero hlen
    subst e
    have H0 := Lib.hid (h.since hbl)
    clear h hbl
    go_enter Tryd.func23, Tryd.ntmps23
    go_wp2_with fail
    go_loop [1, 5] (fun s i => i = .int .i64 0 ∧ s = .int .i64 k) (fun _ _ => 0)
    case atStart => exact ⟨rfl, rfl⟩
    case round =>
      obtain ⟨rfl, rfl⟩ := hrel
      go_wp2_with fail
      go_ret
      exact ⟨ret_int (by simp [tot]), Within.refl _ _ _, H0.out⟩
  · obtain ⟨g, cap', e⟩ := h.head hpos
    injection e with e1 e2 e3
    subst e1
    clear e2 e3 cap'
    have H := Lib.hid h
    have HBL := Lib.hid hbl
    have HL := Lib.hid hlen
    have HW : Hid (OIntss w lo (.slice (some ⟨g, 0, none⟩) n cap) n xss) := h.since hbl
    have hgb := h.lt
    have HC : Hid (∀ j, w.cell? ⟨g, j, none⟩ = wb.cell? ⟨g, j, none⟩) := fun j => World.cell?_of_block (hbl.block g hgb.1 hgb.2)
    clear h hbl hlen
    go_enter Tryd.func23, Tryd.ntmps23
    go_wp2_with fail
    go_loopw [1, 5] (fun s i wr => ∃ j : Nat, j ≤ n ∧ i = .int .i64 j ∧ s = .int .i64 (k + tot (xss.take j)) ∧ OIntss wr lo (.slice (some ⟨g, 0, none⟩) n cap) n ((markT k xss).take j ++ xss.drop j) ∧ Within lo wb.heap.size w wr ∧ Hid (∀ j, wr.cell? ⟨g, j, none⟩ = wb.cell? ⟨g, j, none⟩)) (fun _ i _ => n - (intOf i).toNat)
    case atStart => exact ⟨0, Nat.zero_le _, rfl, by simp [tot], by simpa using HW.out, Within.refl _ _ _, HC.out⟩
    case round =>
      obtain ⟨j, hj, rfl, rfl, hown, hin, hcell⟩ := hrel
      have ht1 := HT.out j
      have ht2 := tot_nonneg (xss.take j)
      by_cases hlt : j < n
      · obtain ⟨r, hr⟩ : ∃ r, xss[j]? = some r := ⟨_, List.getElem?_eq_getElem (by have := HL.out; omega)⟩
        have hmk := markT_get xss k j r hr
        have hmid : ((markT k xss).take j ++ xss.drop j)[j]? = some r := mix_get (by rw [markT_len]; have := HL.out; omega) hr
        obtain ⟨vs, ai, ci, hvs, hu, hc, ho⟩ := hown.rows hmid
        have hrl := ho.1
        have Hset : Hid (((markT k xss).take j ++ xss.drop j).set j (marks (k + tot (xss.take j)) r.length) = (markT k xss).take (j + 1) ++ xss.drop (j + 1)) := mix_set hr hmk
        have hts := tot_take_succ hr
        have ht3 := HT.out (j + 1)
        have HE : Hid (tot (xss.take (j + 1)) = tot (xss.take j) + r.length) := hts
        have hcb : wb.cell? ⟨g, j, none⟩ = some (.slice ai r.length ci) := (hcell.out j).symm.trans hc
        have Hlt := Lib.hid (fun b hb => H.out.ownlt_row (b := b) hr hcb hb)
        have hne : (Value.slice ai r.length ci).ownBlock = none ∨ (Value.slice ai r.length ci).ownBlock ≠ some g := by
          have h5 := own_int_ne ho hvs
          rcases h5 with h5 | h5
          · exact .inl h5
          · exact .inr h5
        have HN := Lib.hid hne
        have Hown := Lib.hid hown
        have Hin := Lib.hid hin
        have Ho := Lib.hid ho
        have Hvs := Lib.hid hvs
        have Hu := Lib.hid hu
        have Hmid := Lib.hid hmid
        clear hown hin ho hvs hu hmid hmk hne hcb hr hts
        generalize tot (xss.take j) = T at *
        go_wp2_with (first | (go_at_call 68; refine (markIntS_any ai r.length ci r (k + T) lo _ Ho.out (by omega) (by omega)).mono ?_; rintro e w2 ⟨rfl, ho2, hg2⟩; have Ho2 := Lib.hid ho2; have Hg2 := Lib.hid hg2; clear ho2 hg2))
        go_roundw
        case rel =>
          refine ⟨j + 1, hlt, by go_num, by rw [HE.out, Int.add_assoc], ?_, ?_, ?_⟩
          · rw [← Hset.out]
            exact Hown.out.written Hmid.out Hvs.out Hu.out (by rw [marks_len]; exact Ho2.out) Ho.out Hg2.out
          · exact Hin.out.trans (Within.grown Hg2.out (fun b hb => Hlt.out b hb))
          · intro j'
            refine Eq.trans ?_ (hcell.out j')
            refine World.cell?_of_block (Hg2.out.block g ?_ ?_)
            · have := hgb.2; have := HBL.out.size; have := Hin.out.size; omega
            · rcases HN.out with h6 | h6
              · rw [h6]; simp
              · exact fun e => h6 e.symm
        case measure => simp [intOf]; omega
      · have e : j = n := by omega
        subst e
        have HE : Hid (k + tot (xss.take j) = k + tot xss) := by show _ = _; rw [List.take_of_length_le (by have := HL.out; omega)]
        rw [mix_end (by rw [markT_len]; exact HL.out) HL.out] at hown
        have Hown := Lib.hid hown
        clear hown
        go_wp2_with fail
        go_ret
        exact ⟨ret_int HE.out, hin, Hown.out⟩
end Go.Proofs.YtnoghnalopdflaaDoor
