/- Parts of the proof of a law, joined: LawKit LawHelp DoorWrap Cursor TxtT WordT WordsT RunFits LensT KeepsT FiltT RunWT PushI SLens SIsWord SKeeps SAllW Arcs Blk LabT LabArcs ArcPush SBefore IRunFits RunLab OrbT Rooted FRmath CRuns SpRunT IRuns ILetters IIsWord IKeeps SplitRunsC STexts MatT RunMatT SL4Zero IZeros SMinor SDet SIsMatrix SIsSmall RunBd ILess IWithout IDet IBelow IIsMatrix IIsSmall IFloor IWords. -/
import Derived.Test.YtobmljclokmbcaaDoorRows
import Derived.ProofKit
import Derived.OpenShut
import Derived.ShutString
import Derived.ChangeOld
import Derived.Deep.Matrix
import Derived.Test.YtobmljclokmbcaaDoorProg
import Derived.Handed
import Derived.Stop.Joined
import Derived.JoinedCond
import Derived.Lay
import Derived.LaidMore
import Derived.LaidOnce
import Derived.LaidLaws
import Derived.SevenTiedAt
import Derived.Laws.Bits128
import Derived.Lib.ItoaLen
import Derived.Laws.BytesString
import Derived.Laws.Cells
import Derived.Lib.AppendStr
import Derived.Lib.Join
import Derived.Maps.AppendAt
import Derived.Deep.RegionLaw
import Derived.Lib.SplitLaws
import Derived.Lib.CountLaws
import Derived.Lib.IndexLaws
import Derived.Lib.IndexBytes
import Derived.Test.YtobmljclokmbcaaDoorShelf
import Derived.Test.YtobmljclokmbcaaDoorRLBase
import Derived.Test.YtobmljclokmbcaaDoorRLThA
import Derived.Test.YtobmljclokmbcaaDoorRLIFirstN
namespace Go.Proofs.YtobmljclokmbcaaDoor
open Go.RowKit
set_option linter.all false
open Go.ChangeShapes Go.WideShapes Go.ChangeAt
theorem ownKnobNone : ownKnob Tryd.prog.godebug = none := by kernel_rfl
theorem laidOutYes : laidOutB Tryd.prog = true := by kernel_rfl

/-- A slice of ints that came in: it reads as the list xs, each number an int. -/
def IntsIn (w : World) (ao : Option Addr) (n : Nat) (xs : List Int) : Prop :=
  xs.length = n ∧ (∀ i, i < xs.length → ∃ b o, ao = some ⟨b, o, none⟩ ∧ w.cell? ⟨b, o + i, none⟩ = some (.int .i64 (xs.getD i 0))) ∧ ∀ x ∈ xs, (Lit.int .i64 x).wf = true

theorem IntsIn.ints {w : World} {ao : Option Addr} {n : Nat} {xs : List Int} (h : IntsIn w ao n xs) (hn : n ≤ 1099511627776) : Ints w ao n xs := ⟨h.1, hn, h.2.1⟩

theorem cell_plain {w : World} {x : Addr} {i : Nat} {v u : Value} (h0 : w.cell? (x.add 0) = some u) (h : w.cell? (x.add i) = some v) : ∃ b o, x = ⟨b, o, none⟩ ∧ w.cell? ⟨b, o + i, none⟩ = some v := by
  obtain ⟨b, off, spot⟩ := x
  have hs : spot = none := by simpa [Addr.add] using World.cell?_spot h0
  subst hs
  rw [Addr.add_lit] at h
  exact ⟨b, off, rfl, h⟩

theorem open_intsIn {H : Type} {enc : TypeId × Value → H} {W : World} {base : Nat} {held : Bool} {ao : Option Addr} {n cap : Nat} {d : DataW H} {p : List MemPlace}
    (h : DataW.Trod enc Tryd.prog W base (fun _ => true) held 38 (.slice ao n cap) d p) : ∃ xs, IntsIn W ao n xs := by
  obtain ⟨fuel, hf⟩ := h
  rcases open_ints Tryd.underlying38 Tryd.underlying3 (by kernel_rfl) hf with ⟨hcs, _⟩ | ⟨x, l, c, zs, hcs, _, hl, hm, hz, _, hcell, hwz⟩
  · simp [Value.cells] at hcs
    obtain ⟨rfl, rfl, rfl⟩ := hcs
    exact ⟨[], rfl, fun i hi => by simp at hi, by simp⟩
  · simp [Value.cells] at hcs
    obtain ⟨rfl, rfl, rfl⟩ := hcs
    have hz' : zs.length = cap := by simpa using hz
    refine ⟨zs.take n, by simp; omega, fun i hi => ?_, fun x hx => hwz x (List.mem_of_mem_take hx)⟩
    have hi' : i < n := by simp at hi; omega
    obtain ⟨b, o, rfl, hc⟩ := cell_plain (hcell 0 (by omega)) (hcell i (by omega))
    refine ⟨b, o, rfl, ?_⟩
    rw [hc]
    congr 2
    simp [List.getD, List.getElem?_take, hi']
end Go.Proofs.YtobmljclokmbcaaDoor

namespace Go.Proofs.YtobmljclokmbcaaDoor
open Go.RowKit
set_option linter.all false
open Go.ChangeShapes Go.WideShapes Go.ChangeAt
/-- A slice of slices of ints that came in: it reads as the list xss of lists. -/
def IntssIn (w : World) (ao : Option Addr) (n : Nat) (xss : List (List Int)) : Prop :=
  xss.length = n ∧ n ≤ 9223372036854775807 ∧ ∀ i r, xss[i]? = some r → ∃ b o ai ci, ao = some ⟨b, o, none⟩ ∧ w.cell? ⟨b, o + i, none⟩ = some (.slice ai r.length ci) ∧ r.length ≤ 9223372036854775807 ∧ IntsIn w ai r.length r ∧ r.length ≤ ci

theorem IntssIn.at_ {w : World} {ao : Option Addr} {n k : Nat} {xss : List (List Int)} (h : IntssIn w ao n xss) (hk : k < n) :
    ∃ b o ai ci r, ao = some ⟨b, o, none⟩ ∧ w.cell? ⟨b, o + k, none⟩ = some (.slice ai r.length ci) ∧ r.length ≤ 9223372036854775807 ∧ Hid (xss[k]? = some r) := by
  have hl : k < xss.length := by rw [h.1]; exact hk
  obtain ⟨b, o, ai, ci, e, hc, hr, _⟩ := h.2.2 k xss[k] (List.getElem?_eq_getElem hl)
  exact ⟨b, o, ai, ci, _, e, hc, hr, List.getElem?_eq_getElem hl⟩

theorem IntssIn.intss {w : World} {ao : Option Addr} {n : Nat} {xss : List (List Int)} (h : IntssIn w ao n xss) (hn : n ≤ 1099511627776) (hr : ∀ r ∈ xss, r.length ≤ 1099511627776) : Intss w ao n xss := by
  refine ⟨h.1, hn, fun i r hi => ?_⟩
  obtain ⟨b, o, ai, ci, e, hc, _, hin, hl⟩ := h.2.2 i r hi
  exact ⟨b, o, ai, ci, e, hc, hin.ints (hr r (List.mem_of_getElem? hi)), hl⟩

theorem open_intssIn {H : Type} {enc : TypeId × Value → H} {W : World} {base : Nat} {held : Bool} {ao : Option Addr} {n cap : Nat} {d : DataW H} {p : List MemPlace}
    (h : DataW.Trod enc Tryd.prog W base (fun _ => true) held 35 (.slice ao n cap) d p) : ∃ xss, IntssIn W ao n xss := by
  obtain ⟨fuel, hf⟩ := h
  rcases Go.Deep.open_int_rows Tryd.underlying35 Tryd.underlying38 Tryd.underlying3 (by kernel_rfl) (by kernel_rfl) hf with ⟨hcs, _⟩ | ⟨x, l, c, A, L, C, Z, hcs, _, hl, hm, _, hrow⟩
  · simp [Value.cells] at hcs
    obtain ⟨rfl, rfl, rfl⟩ := hcs
    exact ⟨[], rfl, by omega, fun i r hi => by simp at hi⟩
  · simp [Value.cells] at hcs
    obtain ⟨rfl, rfl, rfl⟩ := hcs
    unfold maxLen at hm
    refine ⟨(List.range n).map fun r => (Z r).take (L r), by simp, by omega, fun i r hi => ?_⟩
    have hin : i < n := by simpa using (List.getElem?_eq_some_iff.1 hi).1
    have hr : r = (Z i).take (L i) := by simpa [hin, eq_comm] using hi
    subst hr
    obtain ⟨hc, h1, h2, h3, h4, h5, h6⟩ := hrow i (by omega)
    obtain ⟨hc0, _⟩ := hrow 0 (by omega)
    unfold maxLen at h2
    obtain ⟨b, o, rfl, hc'⟩ := cell_plain hc0 hc
    have hlen : ((Z i).take (L i)).length = L i := by simp; omega
    rw [hlen]
    refine ⟨b, o, A i, C i, rfl, hc', by omega, ⟨hlen, fun j hj => ?_, fun y hy => h4 y (List.mem_of_mem_take hy)⟩, h1⟩
    have hj' : j < L i := by omega
    cases ha : A i with
    | none => have := h5 ha; omega
    | some a' =>
      obtain ⟨_, hcell⟩ := h6 a' ha
      obtain ⟨b', o', rfl, hc2⟩ := cell_plain (hcell 0 (by omega)) (hcell j (by omega))
      refine ⟨b', o', rfl, ?_⟩
      rw [hc2]
      congr 2
      simp [List.getD, List.getElem?_take, hj']
end Go.Proofs.YtobmljclokmbcaaDoor

namespace Go.Proofs.YtobmljclokmbcaaDoor
open Go.RowKit
set_option linter.all false
set_option maxHeartbeats 400000 in
theorem sameInts_any (ao : Option Addr) (n cap : Nat) (xs : List Int) (ao' : Option Addr) (n' cap' : Nat) (ys : List Int) (w : World) (h : Ints w ao n xs) (h' : Ints w ao' n' ys) :
    Calls Tryd.prog 25 #[.slice ao n cap, .slice ao' n' cap'] w fun e w' => e = .returned (.bool (eqL xs ys)) ∧ Drew w w' := by
  obtain ⟨hn, hm, hc⟩ := h
  obtain ⟨hn', hm', hc'⟩ := h'
  subst hn
  subst hn'
  by_cases hl : xs.length = ys.length
  · have HL := Lib.hid hl
    have hl1 : ((xs.length : Int) != (ys.length : Int)) = false := by simp [hl]
    clear hl
    go_enter Tryd.func25, Tryd.ntmps25
    go_wp2
    go_loopw [5] (fun i wr => ∃ k : Nat, k ≤ xs.length ∧ i = .int .i64 k ∧ Drew w wr ∧ Hid (eqL (xs.drop k) (ys.drop k) = eqL xs ys)) (fun i _ => xs.length - (intOf i).toNat)
    case atStart => exact ⟨0, Nat.zero_le _, rfl, Drew.refl w, rfl⟩
    case round =>
      obtain ⟨k, hk, rfl, ⟨m, rfl⟩, hr⟩ := hrel
      by_cases hlt : k < xs.length
      · have hlt' : k < ys.length := by have := HL.out; omega
        obtain ⟨b, o, rfl, hcell⟩ := hc k hlt
        obtain ⟨b', o', rfl, hcell'⟩ := hc' k hlt'
        clear hc hc'
        have hst := eqL_step hlt hlt' hr.out
        have Hst := Lib.hid hst
        clear hst
        by_cases he : xs[k] = ys[k]
        · have he1 : (xs[k] != ys[k]) = false := by simp [he]
          have hr1 : Hid _ := Hst.out.1 he
          clear he Hst hr
          go_wp2_with fail
          go_quiet (fail)
          go_wp2
          go_roundw
          case rel => exact ⟨k + 1, hlt, by go_num, (by first | exact Drew.refl _ | exact Drew.mk _ _ | exact (Drew.mk _ _).drewN _), hr1⟩
          case measure => simp [intOf]; omega
        · have he1 : (xs[k] != ys[k]) = true := by simp [he]
          have hr1 : Hid _ := Hst.out.2 he
          clear he Hst hr
          go_wp2_with fail
          go_quiet (fail)
          go_wp2
          go_ret
          exact ⟨ret_bool hr1.out.symm, (by first | exact Drew.refl _ | exact Drew.mk _ _ | exact (Drew.mk _ _).drewN _)⟩
      · go_wp2
        go_ret
        rw [eqL_nil (by omega) (by have := HL.out; omega)] at hr
        exact ⟨ret_bool hr.out, (by first | exact Drew.refl _ | exact Drew.mk _ _ | exact (Drew.mk _ _).drewN _)⟩
  · have hl1 : ((xs.length : Int) != (ys.length : Int)) = true := by simp; omega
    have HL : Hid _ := eqL_len hl
    clear hl
    go_enter Tryd.func25, Tryd.ntmps25
    go_wp2
    go_ret
    exact ⟨ret_bool HL.out.symm, Drew.refl w⟩
end Go.Proofs.YtobmljclokmbcaaDoor

namespace Go.Proofs.YtobmljclokmbcaaDoor
open Go.RowKit
set_option linter.all false
theorem eqL_step3 {α : Type} [DecidableEq α] {xs ys : List α} {k : Nat} {x y : α} (hx : xs[k]? = some x) (hy : ys[k]? = some y) {b : Bool} (h : eqL (xs.drop k) (ys.drop k) = b) :
    (x = y → eqL (xs.drop (k + 1)) (ys.drop (k + 1)) = b) ∧ (x ≠ y → b = false) := by
  obtain ⟨h1, rfl⟩ := List.getElem?_eq_some_iff.1 hx
  obtain ⟨h2, rfl⟩ := List.getElem?_eq_some_iff.1 hy
  exact eqL_step h1 h2 h

set_option maxHeartbeats 800000 in
theorem sameLists_any (ao : Option Addr) (n cap : Nat) (xs : List (List Int)) (ao' : Option Addr) (n' cap' : Nat) (ys : List (List Int)) (w : World) (h : Intss w ao n xs) (h' : Intss w ao' n' ys) :
    Calls Tryd.prog 22 #[.slice ao n cap, .slice ao' n' cap'] w fun e w' => e = .returned (.bool (eqL xs ys)) ∧ Drew w w' := by
  have hm := h.2.1
  have hm' := h'.2.1
  have HX := Lib.hid h.1
  have HY := Lib.hid h'.1
  by_cases hl : n = n'
  · subst hl
    have hl1 : ((n : Int) != (n : Int)) = false := by simp
    have H := Lib.hid h
    have H' := Lib.hid h'
    clear h h'
    go_enter Tryd.func22, Tryd.ntmps22
    go_wp2
    go_loopw [5] (fun i wr => ∃ k : Nat, k ≤ n ∧ i = .int .i64 k ∧ Drew w wr ∧ Hid (eqL (xs.drop k) (ys.drop k) = eqL xs ys)) (fun i _ => n - (intOf i).toNat)
    case atStart => exact ⟨0, Nat.zero_le _, rfl, Drew.refl w, rfl⟩
    case round =>
      obtain ⟨k, hk, rfl, ⟨m, rfl⟩, hr⟩ := hrel
      by_cases hlt : k < n
      · obtain ⟨b, o, ai, ci, r, rfl, hcell, hrow, hget⟩ := H.out.at_ hlt
        obtain ⟨b', o', ai', ci', r', rfl, hcell', hrow', hget'⟩ := H'.out.at_ hlt
        clear H H'
        have Hst := Lib.hid (eqL_step3 hget.out hget'.out hr.out)
        have Hr := Lib.hid hrow
        have Hr' := Lib.hid hrow'
        clear hrow hrow' hr
        by_cases he : r = r'
        · have he1 : eqL r r' = true := eqL_true he
          have hr1 : Hid _ := Hst.out.1 he
          clear he Hst
          go_wp2_with fail
          go_quiet ((go_at_call 25; exact quiet_Da (sameInts_any _ _ _ r _ _ _ r' _ Hr.out Hr'.out)))
          go_wp2
          go_roundw
          case rel => exact ⟨k + 1, hlt, by go_num, (by first | exact Drew.refl _ | exact Drew.mk _ _ | exact (Drew.mk _ _).drewN _), hr1⟩
          case measure => simp [intOf]; omega
        · have he1 : eqL r r' = false := eqL_false he
          have hr1 : Hid _ := Hst.out.2 he
          clear he Hst
          go_wp2_with fail
          go_quiet ((go_at_call 25; exact quiet_Da (sameInts_any _ _ _ r _ _ _ r' _ Hr.out Hr'.out)))
          go_wp2
          go_ret
          exact ⟨ret_bool hr1.out.symm, (by first | exact Drew.refl _ | exact Drew.mk _ _ | exact (Drew.mk _ _).drewN _)⟩
      · go_wp2
        go_ret
        rw [eqL_nil (by have := HX.out; omega) (by have := HY.out; omega)] at hr
        exact ⟨ret_bool hr.out, (by first | exact Drew.refl _ | exact Drew.mk _ _ | exact (Drew.mk _ _).drewN _)⟩
  · have hl1 : ((n : Int) != (n' : Int)) = true := by simp; omega
    have HL : Hid _ := eqL_len (xs := xs) (ys := ys) (by have := HX.out; have := HY.out; omega)
    clear hl h h'
    go_enter Tryd.func22, Tryd.ntmps22
    go_wp2
    go_ret
    exact ⟨ret_bool HL.out.symm, Drew.refl w⟩
end Go.Proofs.YtobmljclokmbcaaDoor

namespace Go.Proofs.YtobmljclokmbcaaDoor
open Go.RowKit
set_option linter.all false
set_option maxHeartbeats 400000 in
theorem lTotal_any (ao : Option Addr) (n cap : Nat) (xs : List Int) (w : World) (h : Ints w ao n xs) :
    Calls Tryd.prog 28 #[.slice ao n cap] w fun e w' => e = .returned (.int .i64 (isum 0 xs)) ∧ w = w' := by
  have hm := h.2.1
  have HL := Lib.hid h.1
  go_enter Tryd.func28, Tryd.ntmps28
  go_wp2
  go_loop [3, 4] (fun s i => ∃ (k : Nat) (t : Int), k ≤ n ∧ i = .int .i64 k ∧ s = .int .i64 t ∧ Hid (isum t (xs.drop k) = isum 0 xs)) (fun _ i => n - (intOf i).toNat)
  case atStart => exact ⟨0, 0, Nat.zero_le _, rfl, rfl, rfl⟩
  case round =>
    obtain ⟨k, t, hk, rfl, rfl, hr⟩ := hrel
    by_cases hlt : k < n
    · obtain ⟨b, o, x, rfl, hcell, hget⟩ := h.at_ hlt
      clear h
      go_wp2
      go_round
      case rel => exact ⟨k + 1, _, hlt, by go_num, rfl, by rw [drop_of_get hget.out] at hr; exact hr⟩
      case measure => simp [intOf]; omega
    · go_wp2
      go_ret
      rw [drop_all xs k (by have := HL.out; omega)] at hr
      exact ⟨ret_int hr.out, rfl⟩
end Go.Proofs.YtobmljclokmbcaaDoor

namespace Go.Proofs.YtobmljclokmbcaaDoor
open Go.RowKit
set_option linter.all false
theorem lBig_no (ao : Option Addr) (n c : Nat) (w : World) (h : n ≤ 1048576) : Calls Tryd.prog 5 #[.slice ao n c] w fun e w' => e = .returned (.bool false) ∧ w = w' := by
  have hd : decide ((1048576 : Int) < (n : Int)) = false := decide_eq_false (by omega)
  go_enter Tryd.func5, Tryd.ntmps5
  go_wp2_with fail
  go_ret
  exact ⟨rfl, rfl⟩
theorem lBig_yes (ao : Option Addr) (n c : Nat) (w : World) (h : 1048576 < n) : Calls Tryd.prog 5 #[.slice ao n c] w fun e w' => e = .returned (.bool true) ∧ w = w' := by
  have hd : decide ((1048576 : Int) < (n : Int)) = true := decide_eq_true (by omega)
  go_enter Tryd.func5, Tryd.ntmps5
  go_wp2_with fail
  go_ret
  exact ⟨rfl, rfl⟩
end Go.Proofs.YtobmljclokmbcaaDoor

namespace Go.Proofs.YtobmljclokmbcaaDoor
open Go.RowKit
set_option linter.all false
open Go.ChangeShapes Go.WideShapes Go.ChangeAt
/-- A slice of bytes that came in: it reads as the list xs. -/
def BytesIn (w : World) (ao : Option Addr) (n : Nat) (xs : List Int) : Prop :=
  xs.length = n ∧ (∀ i, i < xs.length → ∃ b o, ao = some ⟨b, o, none⟩ ∧ w.cell? ⟨b, o + i, none⟩ = some (.int .u8 (xs.getD i 0))) ∧ ∀ x ∈ xs, 0 ≤ x ∧ x ≤ 255
theorem BytesIn.cells {w : World} {ao : Option Addr} {n : Nat} {xs : List Int} (h : BytesIn w ao n xs) : ∀ i, i < n → ∃ b o x, ao = some ⟨b, o, none⟩ ∧ w.cell? ⟨b, o + i, none⟩ = some (.int .u8 x) ∧ 0 ≤ x ∧ x ≤ 255 := by
  intro i hi
  have hl : i < xs.length := by rw [h.1]; exact hi
  obtain ⟨b, o, e, hc⟩ := h.2.1 i hl
  exact ⟨b, o, _, e, hc, h.2.2 _ (List.mem_of_getElem? (show xs[i]? = some (xs.getD i 0) by simp [List.getD, hl]))⟩
theorem open_bytesIn {H : Type} {enc : TypeId × Value → H} {W : World} {base : Nat} {held : Bool} {ao : Option Addr} {n cap : Nat} {d : DataW H} {p : List MemPlace}
    (h : DataW.Trod enc Tryd.prog W base (fun _ => true) held 22 (.slice ao n cap) d p) : ∃ xs, BytesIn W ao n xs := by
  obtain ⟨fuel, hf⟩ := h
  rcases open_ints Tryd.underlying22 Tryd.underlying5 (by kernel_rfl) hf with ⟨hcs, _⟩ | ⟨x, l, c, zs, hcs, _, hl, hm, hz, _, hcell, hwz⟩
  · simp [Value.cells] at hcs
    obtain ⟨rfl, rfl, rfl⟩ := hcs
    exact ⟨[], rfl, fun i hi => by simp at hi, by simp⟩
  · simp [Value.cells] at hcs
    obtain ⟨rfl, rfl, rfl⟩ := hcs
    have hz' : zs.length = cap := by simpa using hz
    refine ⟨zs.take n, by simp; omega, fun i hi => ?_, fun x hx => ?_⟩
    · have hi' : i < n := by simp at hi; omega
      obtain ⟨b, o, rfl, hc⟩ := cell_plain (hcell 0 (by omega)) (hcell i (by omega))
      refine ⟨b, o, rfl, ?_⟩
      rw [hc]
      congr 2
      simp [List.getD, List.getElem?_take, hi']
    · have hw := hwz x (List.mem_of_mem_take hx)
      exact bounds_u8 hw
end Go.Proofs.YtobmljclokmbcaaDoor

namespace Go.Proofs.YtobmljclokmbcaaDoor
open Go.RowKit
set_option linter.all false
/- The wrap of a row that lists variables, the world's shape handed on. -/
section
variable {H : Type} {enc : TypeId × Value → H}
theorem returnsInHanded_door {a : Assume} {C : Checked} {os : Os} {f : FuncId} {fn : Func} {s : ChangeSpec} {conds : List PathCond} {apart fresh handsOn again : Bool} {X : World → Array Value → Prop}
    (hX : ∀ (w w' : World) (args : Array Value), w.heap = w'.heap → X w args → X w' args)
    (own : ownKnob C.prog.godebug = none) (started : os.Started) (noInit : C.prog.inits.idxOf? f = none) (hfn : C.prog.funcs[f]? = some fn)
    (witness : ∃ (w : World) (tape : Tape) (i : Input), w.os = os ∧ (w.forCall tape i).Shaped C.prog ∧ i.vars = [] ∧ Input.okWide C.prog (w.forCall tape i) .any w.heap.size f i ∧
      ((s.pre enc C.prog fn conds apart (w.forCall tape i).memory i.args ∧ X (w.forCall tape i).memory i.args) ∧ sizedMet enc C.prog fn (OpenSpec.ofChange s) apart (w.forCall tape i).memory i.args) ∧ a.holds C.prog (lone (Frame.enter C.prog f i.args .normal) [] (w.forCall tape i)))
    (walked : ∀ (W : World) (base : Nat) (args : Array Value) (ds gs : List (DataW H)) (before : List MemPlace),
      (∀ (j : Nat) t v, fn.params[j]? = some t → args[j]? = some v → Value.okWide C.prog W .any base t v) →
      DataW.Whole enc C.prog fn.params.toList s.vars apart W args.toList ds gs before →
      X W args → W.ShapedOpen C.prog →
      Calls C.prog f args W fun e W' => ∃ v, e = .returned v ∧ s.post enc C.prog fn apart fresh handsOn again W args v W') :
    ReturnsInHanded a C os f .any (fun w args => (s.pre enc C.prog fn conds apart w args ∧ X w args) ∧ sizedMet enc C.prog fn (OpenSpec.ofChange s) apart w args) (s.post enc C.prog fn apart fresh handsOn again) := by
  refine returnsInHanded_of_calls own started noInit witness fun w tape i _ hsh _ hok hpre _ => ?_
  obtain ⟨_, _, _, fn', hfn', _, _, _, _, hval⟩ := hok
  obtain rfl : fn' = fn := Option.some.inj (hfn'.symm.trans hfn)
  obtain ⟨⟨⟨ds, gs, before, hw, _⟩, hx⟩, _⟩ := hpre
  refine (walked (w.forCall tape i) w.heap.size i.args ds gs before hval (DataW.Whole.of_heap (w' := w.forCall tape i) (by rfl) hw) (hX _ _ _ (by rfl) hx) hsh).mono ?_
  rintro _ W' ⟨v, rfl, hp⟩
  exact ChangeSpec.post_blind hp
end
end Go.Proofs.YtobmljclokmbcaaDoor

namespace Go.Proofs.YtobmljclokmbcaaDoor
open Go.RowKit
set_option linter.all false
/- The cursor of the draws: a block of three cells; what is drawn from it is some number within bounds. -/
/-- A slice of bytes that can be read. -/
def Bytes (w : World) (ao : Option Addr) (n : Nat) : Prop := n ≤ 1099511627776 ∧ ∀ i, i < n → ∃ b o x, ao = some ⟨b, o, none⟩ ∧ w.cell? ⟨b, o + i, none⟩ = some (.int .u8 x) ∧ 0 ≤ x ∧ x ≤ 255
theorem Bytes.keep {w w' : World} {ao : Option Addr} {n : Nat} (h : Bytes w ao n) (hb : Below w.heap.size w w') : Bytes w' ao n := by
  refine ⟨h.1, fun i hi => ?_⟩
  obtain ⟨b, o, x, e, hc, hx⟩ := h.2 i hi
  exact ⟨b, o, x, e, (hb.cell (p := ⟨b, o + i, none⟩) (World.block_lt_of_cell? w _ hc)).trans hc, hx⟩
def Cur (w : World) (b lo : Nat) : Prop := lo ≤ b ∧ ∃ ao n c, ∃ k : Nat, ∃ h : Int, w.heap[b]? = some (.cells #[.slice ao n c, .int .i64 k, .int .i64 h] 89 (0, 0)) ∧ k ≤ n ∧ n ≤ 1099511627776 ∧
  ∀ i, i < n → ∃ q o x, ao = some ⟨q, o, none⟩ ∧ q < lo ∧ w.cell? ⟨q, o + i, none⟩ = some (.int .u8 x) ∧ 0 ≤ x ∧ x ≤ 255
theorem Cur.lt {w : World} {b lo : Nat} (h : Cur w b lo) : lo ≤ b ∧ b < w.heap.size := by
  obtain ⟨h1, ao, n, c, k, x, hh, _⟩ := h
  exact ⟨h1, (Array.getElem?_eq_some_iff.1 hh).1⟩
theorem Cur.drewN {w : World} {b lo : Nat} (h : Cur w b lo) (n : Nat) : Cur (w.drewN n) b lo := h
theorem Cur.keep {w w' : World} {b lo : Nat} (h : Cur w b lo) (hb : Below w.heap.size w w') : Cur w' b lo := by
  have hl := h.lt
  obtain ⟨h1, ao, n, c, k, x, hh, h2, h3, h4⟩ := h
  refine ⟨h1, ao, n, c, k, x, (hb.block b hl.2).trans hh, h2, h3, fun i hi => ?_⟩
  obtain ⟨q, o, y, e, hq, hc, hy⟩ := h4 i hi
  exact ⟨q, o, y, e, hq, (hb.cell (p := ⟨q, o + i, none⟩) (World.block_lt_of_cell? w _ hc)).trans hc, hy⟩
theorem Cur.grown {w w' : World} {b lo : Nat} {row : Option Nat} (h : Cur w b lo) (hb : w.grownBy w' row) (hr : ∀ g, row = some g → b < g) : Cur w' b lo := by
  have hl := h.lt
  obtain ⟨h1, ao, n, c, k, x, hh, h2, h3, h4⟩ := h
  refine ⟨h1, ao, n, c, k, x, (hb.block b hl.2 (fun e => by have := hr b e.symm; omega)).trans hh, h2, h3, fun i hi => ?_⟩
  obtain ⟨q, o, y, e, hq, hc, hy⟩ := h4 i hi
  refine ⟨q, o, y, e, hq, ?_, hy⟩
  have := hb.block q (by omega) (fun e => by have := hr q e.symm; omega)
  unfold World.cell? at hc ⊢
  simp only at hc ⊢
  rw [this]
  exact hc
theorem heap_cells {w : World} {b : Nat} {cs : Array Value} {t : TypeId} (h : w.heap[b]? = some (.cells cs t (0, 0))) (i : Nat) : w.cell? ⟨b, i, none⟩ = cs[i]? ∧ w.frozen? ⟨b, i, none⟩ = false := by
  constructor
  · simp [World.cell?, h]
  · simp [World.frozen?, h]
/-- One cell of the cursor is written. -/
theorem Cur.wrote {w : World} {b lo : Nat} {ao : Option Addr} {n c : Nat} {k : Nat} {h : Int} (h1 : lo ≤ b) (hh : w.heap[b]? = some (.cells #[.slice ao n c, .int .i64 k, .int .i64 h] 89 (0, 0))) (h2 : k ≤ n) (h3 : n ≤ 1099511627776)
    (h4 : ∀ i, i < n → ∃ q o x, ao = some ⟨q, o, none⟩ ∧ q < lo ∧ w.cell? ⟨q, o + i, none⟩ = some (.int .u8 x) ∧ 0 ≤ x ∧ x ≤ 255) (j : Nat) (u : Value) :
    (w.setCell ⟨b, j, none⟩ u).heap[b]? = some (.cells (#[.slice ao n c, .int .i64 k, .int .i64 h].setIfInBounds j u) 89 (0, 0)) ∧
    (∀ i, i < n → ∃ q o x, ao = some ⟨q, o, none⟩ ∧ q < lo ∧ (w.setCell ⟨b, j, none⟩ u).cell? ⟨q, o + i, none⟩ = some (.int .u8 x) ∧ 0 ≤ x ∧ x ≤ 255) ∧ w.grownBy (w.setCell ⟨b, j, none⟩ u) (some b) := by
  refine ⟨heap_setCell_same w b j _ _ u hh, fun i hi => ?_, only_setCell (World.grownBy.refl w _) rfl u⟩
  obtain ⟨q, o, x, e, hq, hc, hx⟩ := h4 i hi
  exact ⟨q, o, x, e, hq, (World.cell?_setCell_far w _ _ u (by show b ≠ q; omega)).trans hc, hx⟩
theorem and255 (n : Int) : 0 ≤ bits .and .i64 n 255 ∧ bits .and .i64 n 255 ≤ 255 := by
  have h255 : (BitVec.ofInt 64 255).toNat = 2 ^ 8 - 1 := by decide
  have key : (BitVec.ofInt 64 n &&& BitVec.ofInt 64 255).toNat = (BitVec.ofInt 64 n).toNat % 2 ^ 8 := by
    rw [BitVec.toNat_and, h255, Nat.and_two_pow_sub_one_eq_mod]
  have e : bits .and .i64 n 255 = (((BitVec.ofInt 64 n).toNat % 2 ^ 8 : Nat) : Int) := by
    show IntKind.i64.wrap ((BitVec.ofInt 64 n &&& BitVec.ofInt 64 255).toNat : Nat) = _
    rw [key, IntKind.wrap_i64]
    omega
  rw [e]
  omega
theorem grown_drewN {w w' : World} {row : Option Nat} (h : w.grownBy w' row) (n : Nat) : w.grownBy (w'.drewN n) row := ⟨h.os, h.tape, h.output, h.size, h.block⟩
theorem grown_of_below {w w' : World} {row : Option Nat} (h : Below w.heap.size w w') : w.grownBy w' row := ⟨h.os, h.tape, h.output, h.size, fun k hk _ => h.block k hk⟩
theorem below_of_grown {w w' : World} {b B : Nat} (h : w.grownBy w' (some b)) (hB : B ≤ b) (hs : B ≤ w.heap.size) : Below B w w' := ⟨h.os, h.tape, h.output, h.size, fun k hk => h.block k (by omega) (fun e => by injection e; omega)⟩
theorem OInts.away {w w' : World} {lo n b : Nat} {v : Value} {xs : List Int} (h : OInts w lo v n xs) (hg : w.grownBy w' (some b)) (hb : b < lo) : OInts w' lo v n xs := by
  refine h.grown hg ?_
  cases hv : v.ownBlock with
  | none => exact .inl rfl
  | some g => right; intro e; injection e with e; have := h.ownlt g hv; omega
theorem OIntss.away {w w' : World} {lo n b : Nat} {v : Value} {xss : List (List Int)} (h : OIntss w lo v n xss) (hg : w.grownBy w' (some b)) (hb : b < lo) : OIntss w' lo v n xss :=
  h.since ⟨hg.size, fun k h1 h2 => hg.block k h2 (fun e => by injection e; omega)⟩
theorem OInts.lit_ {w : World} {lo n : Nat} {xs : List Int} {arr : Array Value} (hlo : lo ≤ w.heap.size) (ha : arr.toList = xs.map (.int .i64)) (hn : xs.length = n) (hm : n ≤ 1048576) : OInts (w.alloc (.cells arr 3)) lo (.slice (some ⟨w.heap.size, 0, none⟩) n n) n xs := by
  have hs : arr.size = n := by have := congrArg List.length ha; simpa [hn] using this
  refine ⟨by omega, ?_⟩
  have h := World.ownsRow_lit (base := lo) (e := 3) (size := 1) w arr n hlo (by unfold maxLen; omega) (by omega)
  rw [ha] at h
  exact h
theorem OIntss.lit {W : World} {lo n : Nat} {vs : List Value} {xss : List (List Int)} {arr : Array Value} (hlo : lo ≤ W.heap.size) (ha : arr.toList = vs) (hn : vs.length = n) (hl : xss.length = n) (hm : n ≤ 1048576)
    (hr : ∀ (i : Nat) (u : Value) (r : List Int), vs[i]? = some u → xss[i]? = some r → OInts W lo u r.length r)
    (hd : ∀ (i j : Nat) (u u' : Value), i ≠ j → vs[i]? = some u → vs[j]? = some u' → u.ownBlock = none ∨ u.ownBlock ≠ u'.ownBlock) :
    OIntss (W.alloc (.cells arr 38)) lo (.slice (some ⟨W.heap.size, 0, none⟩) n n) n xss := by
  have hs : arr.size = n := by have := congrArg List.length ha; simpa [hn] using this
  have h := World.ownsRow_lit (base := lo) (e := 38) (size := 1) W arr n hlo (by unfold maxLen; omega) (by omega)
  rw [ha] at h
  exact ⟨by omega, hl, vs, h, fun i u r hu hx => (hr i u r hu hx).alloc _, hd⟩
theorem OIntss.lit2 {W : World} {lo : Nat} {u0 u1 : Value} {r0 r1 : List Int} (hlo : lo ≤ W.heap.size) (h0 : OInts W lo u0 r0.length r0) (h1 : OInts W lo u1 r1.length r1) (hne : u0.ownBlock ≠ u1.ownBlock) :
    OIntss (W.alloc (.cells #[u0, u1] 38)) lo (.slice (some ⟨W.heap.size, 0, none⟩) 2 2) 2 [r0, r1] := by
  refine OIntss.lit (vs := [u0, u1]) hlo rfl rfl rfl (by omega) (fun i u r hu hx => ?_) (fun i j u u' hij hu hu' => ?_)
  · match i, hu, hx with
    | 0, hu, hx => simp at hu hx; subst hu; subst hx; exact h0
    | 1, hu, hx => simp at hu hx; subst hu; subst hx; exact h1
    | i + 2, hu, _ => simp at hu
  · match i, j, hij, hu, hu' with
    | 0, 0, hij, _, _ => exact absurd rfl hij
    | 1, 1, hij, _, _ => exact absurd rfl hij
    | 0, 1, _, hu, hu' => simp at hu hu'; subst hu; subst hu'; exact .inr hne
    | 1, 0, _, hu, hu' => simp at hu hu'; subst hu; subst hu'; exact .inr (fun e => hne e.symm)
    | i + 2, _, _, hu, _ => simp at hu
    | 0, j + 2, _, _, hu' => simp at hu'
    | 1, j + 2, _, _, hu' => simp at hu'
end Go.Proofs.YtobmljclokmbcaaDoor

namespace Go.Proofs.YtobmljclokmbcaaDoor
open Go.RowKit
set_option linter.all false
/- The decimal digits of a number, as both programs and the laws' marks write them. -/
def decB (u : Nat) : ByteArray := ⟨(Lib.decDigits u).toArray⟩
def dg (x : Nat) : List UInt8 := if x = 0 then [] else Lib.decDigits x
theorem dg_zero : dg 0 = [] := rfl
theorem dg_pos {x : Nat} (h : 0 < x) : dg x = Lib.decDigits x := by simp [dg]; omega
theorem ofNat48 (k : Nat) : UInt8.ofNat (48 + k) = 48 + UInt8.ofNat k := by rw [UInt8.ofNat_add]; rfl
theorem belowA (w : World) (o : Obj) : Below w.heap.size w (w.alloc o) := (Below.refl _ _).alloc (Nat.le_refl _) o
theorem dg_step {x : Nat} (h : 0 < x) : dg x = dg (x / 10) ++ [48 + UInt8.ofNat (x % 10)] := by
  rw [← ofNat48]
  rw [dg_pos h, Lib.decDigits]
  by_cases h10 : x < 10
  · rw [dif_pos h10, show x / 10 = 0 by omega, dg_zero, show x % 10 = x by omega]; rfl
  · rw [dif_neg h10, dg_pos (by omega)]
theorem dec_len {u : Nat} (h : u < 18446744073709551616) : (Lib.decDigits u).length ≤ 20 := by
  rw [Lib.decDigits_length]; exact Lib.nDigits_le20 u h
theorem decB_size {u : Nat} (h : u < 18446744073709551616) : (decB u).size ≤ 20 := by
  have := dec_len h
  simpa [decB, ByteArray.size] using this
def catB (b : UInt8) (o : ByteArray) : ByteArray := (⟨#[b]⟩ : ByteArray) ++ o
theorem catB_list (b : UInt8) (o : ByteArray) : (catB b o).data.toList = b :: o.data.toList := by simp [catB]
theorem catB_size (b : UInt8) (o : ByteArray) : (catB b o).size = o.size + 1 := by
  have h := congrArg List.length (catB_list b o)
  simp at h
  exact h
theorem dig_next {x : Nat} {o : ByteArray} {R : List UInt8} (hx : 0 < x) (h : dg x ++ o.data.toList = R) : dg (x / 10) ++ (catB (48 + UInt8.ofNat (x % 10)) o).data.toList = R := by
  rw [dg_step hx] at h
  rw [catB_list, ← h]
  simp
theorem dig_done {o : ByteArray} {u : Nat} (hu : 0 < u) (h : dg 0 ++ o.data.toList = dg u) : o = decB u := by
  rw [dg_zero, dg_pos hu] at h
  apply ByteArray.ext
  apply Array.ext'
  simpa [decB] using h
theorem dig_size {x u : Nat} {o : ByteArray} (hu : u < 18446744073709551616) (h : dg x ++ o.data.toList = dg u) : o.size ≤ 20 := by
  have h2 := congrArg List.length h
  have h3 : (dg u).length ≤ 20 := by
    by_cases h0 : u = 0
    · rw [h0, dg_zero]; exact Nat.zero_le _
    · rw [dg_pos (by omega)]; exact dec_len hu
  simp only [List.length_append] at h2
  have h4 : o.data.toList.length = o.size := Array.length_toList
  omega
/-- One byte made a string. -/
theorem conv_one (w : World) (z : Int) (t : TypeId) : (convert 22 9 (.slice (some ⟨w.heap.size, 0, none⟩) 1 1)).run Tryd.prog (w.alloc (.cells #[.int .u8 z] t)) = .ok (.string ⟨#[UInt8.ofNat z.toNat]⟩) (w.alloc (.cells #[.int .u8 z] t)) := by
  rw [run_convert_bytes_string _ 22 9 5 _ _ _ Tryd.underlying22 Tryd.underlying5 Tryd.underlying9]
  have hc := run_loadCells_list (P := Tryd.prog) (w.alloc (.cells #[.int .u8 z] t)) ⟨w.heap.size, 0, none⟩ (([z] : List Int).map (Value.int .u8)) (by
    intro j u hu
    match j, hu with
    | 0, hu =>
      simp at hu
      subst hu
      exact World.cell?_alloc_new _ _ _ _)
  rw [run_bytesToString _ ⟨w.heap.size, 0, none⟩ 1 1 [z] hc]
  rfl
theorem ret_text {a b : ByteArray} (h : a = b) : Ending.returned (.string a) = .returned (.string b) := by rw [h]
end Go.Proofs.YtobmljclokmbcaaDoor

namespace Go.Proofs.YtobmljclokmbcaaDoor
open Go.RowKit
set_option linter.all false
/- Words for memory: a slice of strings. -/
theorem info_str : (Tryd.prog.info? 9).map (fun i => (i.zero, i.size, i.bytes)) = some (some (.string ⟨#[]⟩), 1, 16) := by kernel_rfl
def Strs (w : World) (ao : Option Addr) (n : Nat) (ss : List ByteArray) : Prop :=
  ss.length = n ∧ n ≤ 1099511627776 ∧ ∀ i s, ss[i]? = some s → ∃ b o, ao = some ⟨b, o, none⟩ ∧ w.cell? ⟨b, o + i, none⟩ = some (.string s)
theorem Strs.keep {w w' : World} {ao : Option Addr} {n : Nat} {ss : List ByteArray} (h : Strs w ao n ss) (hb : Below w.heap.size w w') : Strs w' ao n ss := by
  refine ⟨h.1, h.2.1, fun i s hi => ?_⟩
  obtain ⟨b, o, e, hc⟩ := h.2.2 i s hi
  exact ⟨b, o, e, (hb.cell (p := ⟨b, o + i, none⟩) (World.block_lt_of_cell? w _ hc)).trans hc⟩
theorem Strs.drewN {w : World} {ao : Option Addr} {n : Nat} {ss : List ByteArray} (h : Strs w ao n ss) (k : Nat) : Strs (w.drewN k) ao n ss := h
theorem Strs.at_ {w : World} {ao : Option Addr} {n k : Nat} {ss : List ByteArray} (h : Strs w ao n ss) (hk : k < n) :
    ∃ b o s, ao = some ⟨b, o, none⟩ ∧ w.cell? ⟨b, o + k, none⟩ = some (.string s) ∧ Hid (ss[k]? = some s) := by
  have hl : k < ss.length := by rw [h.1]; exact hk
  obtain ⟨b, o, e, hc⟩ := h.2.2 k _ (List.getElem?_eq_getElem hl)
  exact ⟨b, o, _, e, hc, List.getElem?_eq_getElem hl⟩
def OStrs (w : World) (lo : Nat) (v : Value) (n : Nat) (ss : List ByteArray) : Prop := n ≤ 1099511627776 ∧ w.ownsRow lo 9 1 v n (ss.map Value.string)
section
variable {w w' : World} {lo n : Nat} {v : Value} {ss : List ByteArray}
theorem OStrs.len (h : OStrs w lo v n ss) : ss.length = n := by simpa using h.2.1
theorem OStrs.keep (h : OStrs w lo v n ss) (hb : Below w.heap.size w w') : OStrs w' lo v n ss := ⟨h.1, own_keep h.2 hb⟩
theorem OStrs.grown {row : Option Nat} (h : OStrs w lo v n ss) (hg : w.grownBy w' row) (hne : v.ownBlock = none ∨ v.ownBlock ≠ row) : OStrs w' lo v n ss := ⟨h.1, h.2.kept hg hne⟩
theorem OStrs.alloc (h : OStrs w lo v n ss) (o : Obj) : OStrs (w.alloc o) lo v n ss := ⟨h.1, h.2.alloc o⟩
theorem OStrs.drewN (h : OStrs w lo v n ss) (k : Nat) : OStrs (w.drewN k) lo v n ss := h
theorem OStrs.ownlt (h : OStrs w lo v n ss) : ∀ k, v.ownBlock = some k → lo ≤ k ∧ k < w.heap.size := h.2.lt
theorem OStrs.mono {lo' : Nat} (h : OStrs w lo v n ss) (hl : lo' ≤ lo) : OStrs w lo' v n ss := by
  refine ⟨h.1, h.2.1, ?_⟩
  rcases h.2.2 with h2 | ⟨g, cap, cur, hv, hg, r⟩
  · exact .inl h2
  · exact .inr ⟨g, cap, cur, hv, Nat.le_trans hl hg, r⟩
theorem OStrs.form (h : OStrs w lo v n ss) : ∃ ao cap, v = .slice ao n cap ∧ Strs w ao n ss := by
  have hl := h.len
  rcases h.2.2 with ⟨rfl, rfl⟩ | ⟨g, cap, cur, rfl, hg, hh, hnc, _, _, ht⟩
  · exact ⟨none, 0, rfl, hl, h.1, fun i s hi => by rw [List.eq_nil_of_length_eq_zero hl] at hi; simp at hi⟩
  · refine ⟨some ⟨g, 0, none⟩, cap, rfl, hl, h.1, fun i s hi => ⟨g, 0, rfl, ?_⟩⟩
    have hc := h.2.cells (g := g) rfl i (.string s) (by simp [hi])
    rw [Addr.add_lit] at hc
    simpa using hc
theorem OStrs.capLe {m cap : Nat} {ao : Option Addr} (h : OStrs w lo v n ss) (e : v = .slice ao m cap) : n ≤ cap := by
  rcases h.2.2 with ⟨rfl, rfl⟩ | ⟨g, c, cur, rfl, _, _, hnc, _⟩
  · exact Nat.zero_le _
  · injection e with _ _ e3
    omega
theorem OStrs.head (h : OStrs w lo v n ss) (hn : 0 < n) : ∃ g cap, v = .slice (some ⟨g, 0, none⟩) n cap := by
  rcases h.2.2 with ⟨_, h0⟩ | ⟨g, cap, cur, e, _⟩
  · omega
  · exact ⟨g, cap, e⟩
theorem OStrs.none_ (w : World) (lo : Nat) : OStrs w lo (.slice none 0 0) 0 [] := ⟨by omega, by simp, .inl ⟨rfl, rfl⟩⟩
theorem OStrs.empty (w : World) (lo : Nat) (hlo : lo ≤ w.heap.size) : OStrs (w.alloc (.cells #[] 9)) lo (.slice (some ⟨w.heap.size, 0, none⟩) 0 0) 0 [] :=
  ⟨by omega, World.ownsRow_made (base := lo) (e := 9) (size := 1) w #[] 0 hlo (by unfold maxLen; omega) rfl⟩
end
section
variable {w w' : World} {lo g n cap : Nat} {ss : List ByteArray}
theorem OStrs.read {ao : Option Addr} (h : OStrs w lo (.slice ao n cap) n ss) : Strs w ao n ss := by
  obtain ⟨ao', cap', e, hi⟩ := h.form
  injection e with e1
  subst e1
  exact hi
theorem OStrs.two {ao : Option Addr} (h : OStrs w lo (.slice ao n cap) n ss) : (ao = none ∧ n = 0) ∨ ∃ g, ao = some ⟨g, 0, none⟩ := by
  rcases h.2.2 with ⟨e, hn⟩ | ⟨g, c, cur, e, _⟩
  · injection e with e1
    exact .inl ⟨e1, hn⟩
  · injection e with e1
    exact .inr ⟨g, e1⟩
theorem OStrs.lt (h : OStrs w lo (.slice (some ⟨g, 0, none⟩) n cap) n ss) : lo ≤ g ∧ g < w.heap.size := h.2.lt g rfl
theorem OStrs.frozen (h : OStrs w lo (.slice (some ⟨g, 0, none⟩) n cap) n ss) (k : Nat) : w.frozen? ⟨g, k, none⟩ = false := h.2.frozenAt k
theorem OStrs.cell (h : OStrs w lo (.slice (some ⟨g, 0, none⟩) n cap) n ss) {k : Nat} {s : ByteArray} (hk : ss[k]? = some s) : w.cell? ⟨g, k, none⟩ = some (.string s) := by
  obtain ⟨b, o, e, hc⟩ := h.read.2.2 k s hk
  injection e with e
  injection e with e1 e2
  subst e1
  subst e2
  simpa using hc
theorem OStrs.set (h : OStrs w lo (.slice (some ⟨g, 0, none⟩) n cap) n ss) (k : Nat) (s : ByteArray) : OStrs (w.setCell ⟨g, k, none⟩ (.string s)) lo (.slice (some ⟨g, 0, none⟩) n cap) n (ss.set k s) := by
  refine ⟨h.1, ?_⟩
  rw [List.map_set]
  exact (h.2.stored k _).1
end
theorem wp_push_str {o : Oper} {a : Act} {K0 : Act → World → Prop} {Q : Exit → Act → World → Prop} (W : World) (y : ByteArray) (s x : Operand)
    (ho : o.op = .call { callee := .builtin .append, args := #[s, x], argTypes := #[26, 26] })
    (lo : Nat) (v : Value) (n : Nat) (xs : List ByteArray) (hs : a.eval s = v) (h : OStrs W lo v n xs) (hn : n + 1 ≤ 1099511627776) (hlo : lo ≤ W.heap.size)
    (tb : Nat) (htb : tb = W.heap.size) (hx : a.eval x = .slice (some ⟨tb, 0, none⟩) 1 1)
    (K : ∀ v' w', OStrs w' lo v' (n + 1) (xs ++ [y]) → Below lo W w' → K0 (a.put o.dst v') w') : o.wp Tryd.prog a (W.alloc (.cells #[.string y] 9)) K0 Q := by
  subst htb
  obtain ⟨i0, hi, hz0, hz1, hz2⟩ := info_parts info_str
  refine wp_append_own _ s x 26 ho lo 9 i0 (.string ⟨#[]⟩) 1 16 Tryd.underlying26 hi hz0 hz1 hz2 rfl (by decide) v n _ hs (h.alloc _).2 ⟨W.heap.size, 0, none⟩ 1 1 [.string y] hx rfl ?_ ?_ ?_ ?_ (by simp; omega) ?_
  · intro j u' hj
    match j, hj with
    | 0, hj =>
      simp at hj
      subst hj
      exact World.cell?_alloc_new _ _ _ _
  · intro u' hu'
    simp at hu'
    subst hu'
    rfl
  · unfold maxLen; omega
  · omega
  · intro v' w' hown hgrow _
    refine K v' w' ⟨hn, ?_⟩ (((Below.refl lo W).alloc hlo _).grown hgrow (by simp; omega) (fun k hk => (h.ownlt k hk).1))
    rw [List.map_append]
    exact hown
theorem wpList_push_str {ops : Array Oper} {rest : List Oper} {o : Oper} {a : Act} {Q : Exit → Act → World → Prop} (W : World) (y : ByteArray) (hgd : o.guard = none) (s x : Operand)
    (ho : o.op = .call { callee := .builtin .append, args := #[s, x], argTypes := #[26, 26] })
    (lo : Nat) (v : Value) (n : Nat) (xs : List ByteArray) (hs : a.eval s = v) (h : OStrs W lo v n xs) (hn : n + 1 ≤ 1099511627776) (hlo : lo ≤ W.heap.size)
    (tb : Nat) (htb : tb = W.heap.size) (hx : a.eval x = .slice (some ⟨tb, 0, none⟩) 1 1)
    (K : ∀ v' w', OStrs w' lo v' (n + 1) (xs ++ [y]) → Below lo W w' → wpList Tryd.prog ops Q rest (a.put o.dst v') w') : wpList Tryd.prog ops Q (o :: rest) a (W.alloc (.cells #[.string y] 9)) := by
  refine wpList_plain hgd fun K' hK => ?_
  exact wp_push_str W y s x ho lo v n xs hs h hn hlo tb htb hx fun v' w' h1 h2 => hK _ _ (K v' w' h1 h2)
theorem OStrs.lit (w : World) (lo : Nat) (ss : List ByteArray) (hlo : lo ≤ w.heap.size) (hn : ss.length ≤ 1048576) : OStrs (w.alloc (.cells (ss.map Value.string).toArray 9)) lo (.slice (some ⟨w.heap.size, 0, none⟩) ss.length ss.length) ss.length ss := by
  refine ⟨by omega, ?_⟩
  have h := World.ownsRow_lit (base := lo) (e := 9) (size := 1) w (ss.map Value.string).toArray ss.length hlo (by unfold maxLen; omega) (by simp)
  simpa using h
theorem OStrs.far {w w' : World} {lo n : Nat} {u v : Value} {ss : List ByteArray} (h : OStrs w lo u n ss) (hg : w.grownBy w' v.ownBlock) (ha : Apart u v) : OStrs w' lo u n ss := h.grown hg ha.ne
theorem wpList_push_strAt {ops : Array Oper} {rest : List Oper} {o : Oper} {a : Act} {Q : Exit → Act → World → Prop} (W : World) (y : ByteArray) (hgd : o.guard = none) (s x : Operand)
    (ho : o.op = .call { callee := .builtin .append, args := #[s, x], argTypes := #[26, 26] })
    (lo : Nat) (v : Value) (n : Nat) (xs : List ByteArray) (hs : a.eval s = v) (h : OStrs W lo v n xs) (hn : n + 1 ≤ 1099511627776) (hlo : lo ≤ W.heap.size)
    (tb : Nat) (htb : tb = W.heap.size) (hx : a.eval x = .slice (some ⟨tb, 0, none⟩) 1 1)
    (K : ∀ v' w', OStrs w' lo v' (n + 1) (xs ++ [y]) → W.grownBy w' v.ownBlock → NewOr W.heap.size v v' → wpList Tryd.prog ops Q rest (a.put o.dst v') w') : wpList Tryd.prog ops Q (o :: rest) a (W.alloc (.cells #[.string y] 9)) := by
  refine wpList_plain hgd fun K' hK => ?_
  subst htb
  obtain ⟨i0, hi, hz0, hz1, hz2⟩ := info_parts info_str
  obtain ⟨v', w', hr, h2, h3, _, h5⟩ := run_append_own_at (P := Tryd.prog) (W.alloc (.cells #[.string y] 9)) lo 26 o.type 9 i0 (.string ⟨#[]⟩) 1 16 Tryd.underlying26 hi hz0 hz1 hz2 rfl (by decide) v n _ (h.alloc _).2 ⟨W.heap.size, 0, none⟩ 1 1 [.string y] rfl
    (by
      intro j u' hj
      match j, hj with
      | 0, hj =>
        simp at hj
        subst hj
        exact World.cell?_alloc_new _ _ _ _) (by intro u hu; simp at hu; subst hu; rfl) (by unfold maxLen; omega) (by omega) (by simp; omega)
  unfold Oper.wp execOp
  simp only [ho, resolve, invoke, builtin, Sem.run_bind, Sem.run_pure, Result.andThen_ok, List.map_toArray, List.map_cons, List.map_nil, hs, hx, hr]
  refine hK _ _ (K v' w' ⟨hn, ?_⟩ ((grown_alloc W _ _).trans h3) ?_)
  · rw [List.map_append]; exact h2
  · rcases h5 with h5 | h5
    · exact .inl h5
    · exact .inr ⟨_, h5, by simp⟩
end Go.Proofs.YtobmljclokmbcaaDoor

namespace Go.Proofs.YtobmljclokmbcaaDoor
open Go.RowKit
set_option linter.all false
def u8C (B : List UInt8) : List Value := B.map fun b => Value.int .u8 (b.toNat : Int)
def OB (w : World) (lo : Nat) (v : Value) (B : List UInt8) : Prop := B.length ≤ 1099511627776 ∧ w.ownsRow lo 5 1 v B.length (u8C B)
theorem info_u8 : (Tryd.prog.info? 5).map (fun i => (i.zero, i.size, i.bytes)) = some (some (.int .u8 0), 1, 1) := by kernel_rfl
section
variable {w w' : World} {lo : Nat} {v : Value} {B : List UInt8}
theorem OB.keep (h : OB w lo v B) (hb : Below w.heap.size w w') : OB w' lo v B := ⟨h.1, own_keep h.2 hb⟩
theorem OB.alloc (h : OB w lo v B) (o : Obj) : OB (w.alloc o) lo v B := ⟨h.1, h.2.alloc o⟩
theorem OB.ownlt (h : OB w lo v B) : ∀ k, v.ownBlock = some k → lo ≤ k ∧ k < w.heap.size := h.2.lt
theorem OB.form (h : OB w lo v B) : ∃ ao cap, v = .slice ao B.length cap := by
  rcases h.2.2 with ⟨rfl, h0⟩ | ⟨g, cap, cur, rfl, _⟩
  · exact ⟨none, 0, by rw [h0]⟩
  · exact ⟨some ⟨g, 0, none⟩, cap, rfl⟩
theorem OB.empty (w : World) (lo : Nat) (hlo : lo ≤ w.heap.size) : OB (w.alloc (.cells #[] 5)) lo (.slice (some ⟨w.heap.size, 0, none⟩) 0 0) [] :=
  ⟨Nat.zero_le _, World.ownsRow_made (base := lo) (e := 5) (size := 1) w #[] 0 hlo (by unfold maxLen; omega) rfl⟩
end
theorem u8C_app (A B : List UInt8) : u8C (A ++ B) = u8C A ++ u8C B := by simp [u8C]
theorem u8C_str (s : ByteArray) : u8C s.data.toList = Lib.strCells s := rfl
theorem fold_u8 : ∀ (B : List UInt8) (s : ByteArray), (B.map fun b => (b.toNat : Int)).foldl (fun r n => r.push (UInt8.ofNat n.toNat)) s = ⟨s.data ++ B.toArray⟩
  | [], s => by simp
  | b :: r, s => by
    rw [List.map_cons, List.foldl_cons, fold_u8 r]
    simp [ByteArray.push]
theorem conv_u8 (w : World) (lo : Nat) (v : Value) (B : List UInt8) (h : OB w lo v B) : (convert 22 9 v).run Tryd.prog w = .ok (.string ⟨B.toArray⟩) w := by
  rcases h.2.2 with ⟨rfl, h0⟩ | ⟨g, cap, cur, rfl, _⟩
  · have e : B = [] := List.eq_nil_of_length_eq_zero h0
    subst e
    rw [run_convert_bytes_string w 22 9 5 _ _ _ Tryd.underlying22 Tryd.underlying5 Tryd.underlying9]
    simp [Conv.bytesToString]
    rfl
  · rw [run_convert_bytes_string w 22 9 5 _ _ _ Tryd.underlying22 Tryd.underlying5 Tryd.underlying9]
    have e : u8C B = (B.map fun b => (b.toNat : Int)).map (Value.int .u8) := by simp [u8C]
    have hc := run_loadCells_list (P := Tryd.prog) w ⟨g, 0, none⟩ ((B.map fun b => (b.toNat : Int)).map (Value.int .u8)) (fun j u hu => h.2.cells (g := g) rfl j u (by rw [e]; exact hu))
    rw [List.length_map, List.length_map] at hc
    rw [run_bytesToString w ⟨g, 0, none⟩ B.length cap (B.map fun b => (b.toNat : Int)) hc, fold_u8]
    simp [ByteArray.empty, ByteArray.emptyWithCapacity]
    rfl
/-- Pieces joined. -/
def joinB (ss : List ByteArray) (sep : ByteArray) : ByteArray := ⟨(Lib.join (ss.map (·.data.toList)) sep.data.toList).toArray⟩
def toCome (sep : ByteArray) (k : Nat) (ss : List ByteArray) : List UInt8 :=
  if k = 0 then Lib.join (ss.map (·.data.toList)) sep.data.toList else Lib.joinTail sep.data.toList (ss.map (·.data.toList))
theorem toCome_first {sep s : ByteArray} {ss : List ByteArray} {R : List UInt8} (hs : ss[0]? = some s) (h : [] ++ toCome sep 0 (ss.drop 0) = R) : ([] ++ s.data.toList) ++ toCome sep 1 (ss.drop 1) = R := by
  rw [← h, drop_of_get hs]
  simp [toCome, Lib.join_cons]
theorem toCome_next {sep s : ByteArray} {k : Nat} {ss : List ByteArray} {B R : List UInt8} (hk : 0 < k) (hs : ss[k]? = some s) (h : B ++ toCome sep k (ss.drop k) = R) : ((B ++ sep.data.toList) ++ s.data.toList) ++ toCome sep (k + 1) (ss.drop (k + 1)) = R := by
  rw [← h, drop_of_get hs]
  have h0 : k ≠ 0 := by omega
  simp [toCome, h0, Lib.joinTail]
theorem toCome_end {sep : ByteArray} {k : Nat} {ss : List ByteArray} {B R : List UInt8} (hk : ss.length ≤ k) (h : B ++ toCome sep k (ss.drop k) = R) : B = R := by
  rw [drop_all ss k hk] at h
  rw [← h]
  unfold toCome
  split <;> simp [Lib.join, Lib.joinTail]
theorem toCome_len {sep : ByteArray} {k : Nat} {ss : List ByteArray} {B R : List UInt8} (h : B ++ toCome sep k ss = R) : B.length ≤ R.length := by rw [← h]; simp
set_option maxRecDepth 20000 in
theorem wpList_app_str {ops : Array Oper} {rest : List Oper} {o : Oper} {a : Act} {Q : Exit → Act → World → Prop} (W : World) (hgd : o.guard = none) (s x : Operand)
    (ho : o.op = .call { callee := .builtin .append, args := #[s, x], argTypes := #[22, 9] })
    (lo : Nat) (v : Value) (B : List UInt8) (hs : a.eval s = v) (h : OB W lo v B) (y : ByteArray) (hx : a.eval x = .string y) (hn : B.length + y.size ≤ 1099511627776) (hlo : lo ≤ W.heap.size)
    (K : ∀ v' w', OB w' lo v' (B ++ y.data.toList) → Below lo W w' → wpList Tryd.prog ops Q rest (a.put o.dst v') w') : wpList Tryd.prog ops Q (o :: rest) a W := by
  obtain ⟨i0, hi, hz0, hz1, hz2⟩ := info_parts info_u8
  have hyl : y.data.toList.length = y.size := Array.length_toList
  refine Lib.wpList_append_own_string W hgd s x 22 9 ho lo 5 i0 Tryd.underlying22 Tryd.underlying9 hi hz0 hz1 hz2 v B.length (u8C B) hs h.2 y hx (by unfold maxLen; omega) (by omega) hlo ?_
  intro v' w' hown hgrow _
  have e : (B ++ y.data.toList).length = B.length + y.size := by rw [List.length_append, hyl]
  refine K v' w' ⟨by rw [e]; exact hn, ?_⟩ ((Below.refl lo W).grown hgrow hlo (fun k hk => (h.ownlt k hk).1))
  rw [e, u8C_app]
  exact hown
section
variable {w w' : World} {lo g cap : Nat} {B : List UInt8}
theorem OB.num {n : Nat} (h : OB w lo (.slice (some ⟨g, 0, none⟩) n cap) B) : n = B.length := by
  rcases h.2.2 with ⟨e, _⟩ | ⟨g', c, cur, e, _⟩
  · cases e
  · injection e with _ e2 _
theorem OB.frozen {n : Nat} (h : OB w lo (.slice (some ⟨g, 0, none⟩) n cap) B) (k : Nat) : w.frozen? ⟨g, k, none⟩ = false := by
  obtain rfl := h.num
  exact h.2.frozenAt k
theorem OB.lt {n : Nat} (h : OB w lo (.slice (some ⟨g, 0, none⟩) n cap) B) : lo ≤ g ∧ g < w.heap.size := h.2.lt g rfl
theorem OB.cell {n : Nat} (h : OB w lo (.slice (some ⟨g, 0, none⟩) n cap) B) {k : Nat} {b : UInt8} (hk : B[k]? = some b) : w.cell? ⟨g, k, none⟩ = some (.int .u8 (b.toNat : Int)) := by
  have hc := h.2.cells (g := g) rfl k (.int .u8 (b.toNat : Int)) (by simp [u8C, hk])
  rw [Addr.add_lit] at hc
  simpa using hc
theorem OB.set {n : Nat} (h : OB w lo (.slice (some ⟨g, 0, none⟩) n cap) B) (k : Nat) (b : UInt8) : OB (w.setCell ⟨g, k, none⟩ (.int .u8 (b.toNat : Int))) lo (.slice (some ⟨g, 0, none⟩) n cap) (B.set k b) := by
  obtain rfl := h.num
  refine ⟨by simpa using h.1, ?_⟩
  have e : u8C (B.set k b) = (u8C B).set k (.int .u8 (b.toNat : Int)) := by unfold u8C; rw [List.map_set]
  rw [e, List.length_set]
  exact (h.2.stored k _).1
end
theorem make_bytes (n : Nat) (hn : n ≤ 1099511627776) (w : World) :
    (Instr.makeSlice 22 (.int .i64 (n : Int)) (.int .i64 (n : Int))).run Tryd.prog w = .ok (.slice (some ⟨w.heap.size, 0, none⟩) n n) (w.alloc (.cells (madeCells #[.int .u8 0] n) 5)) :=
  run_make_row' (P := Tryd.prog) 22 5 (.int .u8 0) 1 Tryd.underlying22 info_u8 rfl .i64 .i64 n (by omega) (by omega) w
theorem OB.made (w : World) (n : Nat) (hn : n ≤ 1099511627776) : OB (w.alloc (.cells (madeCells #[.int .u8 0] n) 5)) w.heap.size (.slice (some ⟨w.heap.size, 0, none⟩) n n) (List.replicate n 0) := by
  refine ⟨by simpa using hn, ?_⟩
  have h := World.ownsRow_lit (base := w.heap.size) (e := 5) (size := 1) w (madeCells #[.int .u8 0] n) n (Nat.le_refl _) (by unfold maxLen; omega) (by simp [madeCells])
  rw [toList_madeCells_one] at h
  rw [List.length_replicate]
  simpa [u8C] using h
end Go.Proofs.YtobmljclokmbcaaDoor

namespace Go.Proofs.YtobmljclokmbcaaDoor
open Go.RowKit
set_option linter.all false
def zt (x : Nat) : ByteArray := (⟨#[90, 47]⟩ : ByteArray) ++ decB x
def grpF : List Int → List ByteArray → ByteArray
  | [], ws => if ws.length = 0 then ⟨#[48]⟩ else joinB ws ⟨#[43]⟩
  | x :: r, ws => if x < 0 then ⟨#[]⟩ else if x = 0 then grpF r (ws ++ [⟨#[90]⟩]) else if 1 < x then grpF r (ws ++ [zt x.toNat]) else grpF r ws
def groupTxt (xs : List Int) : ByteArray := grpF xs []
theorem zt_size {x : Nat} (h : x < 18446744073709551616) : (zt x).size ≤ 22 := by
  have h1 := decB_size h
  have h2 : (zt x).size = 2 + (decB x).size := by unfold zt; rw [ByteArray.size_append]; rfl
  omega
theorem grp_step {xs : List Int} {k : Nat} {x : Int} {ws : List ByteArray} {R : ByteArray} (hx : xs[k]? = some x) (h : grpF (xs.drop k) ws = R) :
    (x < 0 → R = ⟨#[]⟩) ∧ (x = 0 → grpF (xs.drop (k + 1)) (ws ++ [⟨#[90]⟩]) = R) ∧ (1 < x → grpF (xs.drop (k + 1)) (ws ++ [zt x.toNat]) = R) ∧ (x = 1 → grpF (xs.drop (k + 1)) ws = R) := by
  rw [drop_of_get hx, grpF] at h
  refine ⟨fun e => ?_, fun e => ?_, fun e => ?_, fun e => ?_⟩
  · rw [if_pos e] at h; exact h.symm
  · rw [if_neg (by omega), if_pos e] at h; exact h
  · rw [if_neg (by omega), if_neg (by omega), if_pos e] at h; exact h
  · rw [if_neg (by omega), if_neg (by omega), if_neg (by omega)] at h; exact h
theorem grp_end {xs : List Int} {k : Nat} {ws : List ByteArray} {R : ByteArray} (hk : xs.length ≤ k) (h : grpF (xs.drop k) ws = R) : (ws.length = 0 → R = ⟨#[48]⟩) ∧ (0 < ws.length → R = joinB ws ⟨#[43]⟩) := by
  rw [drop_all xs k hk, grpF] at h
  constructor
  · intro e; rw [if_pos e] at h; exact h.symm
  · intro e; rw [if_neg (by omega)] at h; exact h.symm
theorem lens_le : ∀ (ws : List ByteArray) (m : Nat), (∀ s ∈ ws, s.size ≤ m) → Lib.lens (ws.map (·.data.toList)) ≤ m * ws.length
  | [], m, _ => by simp [Lib.lens]
  | s :: r, m, h => by
    have h1 := lens_le r m (fun x hx => h x (List.mem_cons_of_mem _ hx))
    have h2 := h s (List.mem_cons_self ..)
    have h3 : s.data.toList.length = s.size := Array.length_toList
    simp only [Lib.lens, List.map_cons, List.sum_cons, List.length_cons] at h1 ⊢
    rw [Nat.mul_succ]
    omega
theorem joinB_len (ws : List ByteArray) (sep : ByteArray) : (Lib.join (ws.map (·.data.toList)) sep.data.toList).length = (joinB ws sep).size := by simp [joinB, ByteArray.size]
theorem joinB_size {ws : List ByteArray} {sep : ByteArray} {m : Nat} (h : ∀ s ∈ ws, s.size ≤ m) : (joinB ws sep).size ≤ (m + sep.size) * ws.length := by
  have hs : sep.data.toList.length = sep.size := Array.length_toList
  have e : (joinB ws sep).size = (Lib.join (ws.map (·.data.toList)) sep.data.toList).length := by simp [joinB, ByteArray.size]
  rw [e]
  cases ws with
  | nil => simp [Lib.join]
  | cons s r =>
    rw [List.map_cons, Lib.join_length, hs, List.length_map]
    have h1 := lens_le (s :: r) m h
    rw [List.map_cons] at h1
    have h2 : (m + sep.size) * (s :: r).length = m * (s :: r).length + sep.size * (s :: r).length := Nat.add_mul ..
    have h3 : sep.size * r.length ≤ sep.size * (s :: r).length := Nat.mul_le_mul_left _ (by simp)
    omega
theorem all_push {ws : List ByteArray} {s : ByteArray} {m : Nat} (h : ∀ x ∈ ws, x.size ≤ m) (hs : s.size ≤ m) : ∀ x ∈ ws ++ [s], x.size ≤ m := by
  intro x hx
  rcases List.mem_append.1 hx with hx | hx
  · exact h x hx
  · simp at hx; subst hx; exact hs
end Go.Proofs.YtobmljclokmbcaaDoor

namespace Go.Proofs.YtobmljclokmbcaaDoor
open Go.RowKit
set_option linter.all false
def bl (s : ByteArray) (i : Nat) : Nat := if h : i < s.size then s[i].toNat else 0
theorem bl_get {s : ByteArray} {i : Nat} (h : i < s.size) : bl s i = s[i].toNat := by simp [bl, h]
theorem bl_lt (s : ByteArray) (i : Nat) : bl s i < 256 := by
  unfold bl
  split
  · exact UInt8.toNat_lt _
  · omega
def okW (k : Int) (s : ByteArray) : Nat → Nat → Bool
  | _, 0 => true
  | i, m + 1 => (decide (97 ≤ bl s i) && decide ((bl s i : Int) - 97 < k)) && okW k s (i + 1) m
def isWd (k : Int) (s : ByteArray) : Bool := inR k 1 3 && (decide (s.size ≤ 16) && okW k s 0 s.size)
theorem okW_step {k : Int} {s : ByteArray} {i m : Nat} {b : Bool} (h : okW k s i (m + 1) = b) :
    (¬ 97 ≤ bl s i → b = false) ∧ (¬ (bl s i : Int) - 97 < k → b = false) ∧ (97 ≤ bl s i → (bl s i : Int) - 97 < k → okW k s (i + 1) m = b) := by
  refine ⟨fun e => ?_, fun e => ?_, fun e1 e2 => ?_⟩
  · simpa [okW, e] using h.symm
  · simpa [okW, e] using h.symm
  · simpa [okW, e1, e2] using h
theorem okW_get {k : Int} {s : ByteArray} : ∀ {m i j : Nat}, okW k s i m = true → i ≤ j → j < i + m → 97 ≤ bl s j ∧ (bl s j : Int) - 97 < k
  | 0, i, j, _, h1, h2 => by omega
  | m + 1, i, j, h, h1, h2 => by
    simp only [okW, Bool.and_eq_true, decide_eq_true_eq] at h
    by_cases e : i = j
    · subst e; exact h.1
    · exact okW_get h.2 (by omega) (by omega)
theorem isWd_get {k : Int} {s : ByteArray} (h : isWd k s = true) : s.size ≤ 16 ∧ ∀ j, j < s.size → 97 ≤ bl s j ∧ (bl s j : Int) - 97 < k := by
  simp only [isWd, Bool.and_eq_true, decide_eq_true_eq] at h
  exact ⟨h.2.1, fun j hj => okW_get h.2.2 (Nat.zero_le _) (by omega)⟩
end Go.Proofs.YtobmljclokmbcaaDoor

namespace Go.Proofs.YtobmljclokmbcaaDoor
open Go.RowKit
set_option linter.all false
def wdB (k : Nat) : Nat → Nat → List UInt8
  | 0, _ => []
  | n + 1, i => wdB k n (i / k) ++ [97 + UInt8.ofNat (i % k)]
def wordN (k n i : Nat) : ByteArray := ⟨(wdB k n i).toArray⟩
def allW (k n : Nat) : List ByteArray := (List.range (k ^ n)).map (wordN k n)
theorem wdB_len (k : Nat) : ∀ n i, (wdB k n i).length = n
  | 0, _ => rfl
  | n + 1, i => by rw [wdB, List.length_append, wdB_len k n]; rfl
theorem wordN_size (k n i : Nat) : (wordN k n i).size = n := by
  have h := wdB_len k n i
  simpa [wordN, ByteArray.size] using h
theorem allW_len (k n : Nat) : (allW k n).length = k ^ n := by simp [allW]
theorem allW_get {k n i : Nat} (h : i < k ^ n) : (allW k n)[i]? = some (wordN k n i) := by simp [allW, h]
theorem allW_zero (k : Nat) : allW k 0 = [⟨#[]⟩] := by simp [allW, wordN, wdB]
theorem abc_at {x : Nat} (h : x < 3) : (⟨#[97, 98, 99]⟩ : ByteArray).extract x (x + 1) = ⟨#[97 + UInt8.ofNat x]⟩ := by
  have h3 : x = 0 ∨ x = 1 ∨ x = 2 := by omega
  rcases h3 with rfl | rfl | rfl <;> decide +kernel
theorem word_snoc {k n j x : Nat} (hx : x < k) : wordN k (n + 1) (j * k + x) = wordN k n j ++ (⟨#[97 + UInt8.ofNat x]⟩ : ByteArray) := by
  have e1 : (j * k + x) / k = j := by
    rw [Nat.mul_comm, Nat.mul_add_div (by omega), Nat.div_eq_of_lt hx, Nat.add_zero]
  have e2 : (j * k + x) % k = x := by
    rw [Nat.mul_comm, Nat.mul_add_mod, Nat.mod_eq_of_lt hx]
  unfold wordN
  rw [wdB, e1, e2]
  apply ByteArray.ext
  simp
theorem pow_le_of {k n : Nat} (hk : k ≤ 3) (hn : n ≤ 8) : k ^ n ≤ 6561 :=
  Nat.le_trans (Nat.pow_le_pow_left hk n) (Nat.le_trans (Nat.pow_le_pow_right (by omega) hn) (by decide))
theorem idx_lt {k n j x : Nat} (hj : j < k ^ n) (hx : x < k) : j * k + x < k ^ (n + 1) := by
  rw [Nat.pow_succ]
  have h1 : (j + 1) * k ≤ k ^ n * k := Nat.mul_le_mul_right k hj
  rw [Nat.add_mul, Nat.one_mul] at h1
  omega
/-- What is still to be written of a word, its end first. -/
theorem wdB_step {k t i : Nat} {S R : List UInt8} (h : wdB k (t + 1) i ++ S = R) : wdB k t (i / k) ++ ([97 + UInt8.ofNat (i % k)] ++ S) = R := by
  rw [← h, wdB]
  simp
theorem wdB_bytes {k : Nat} (hk : 1 ≤ k) (hk3 : k ≤ 3) : ∀ n i, ∀ b ∈ wdB k n i, 97 ≤ b.toNat ∧ b.toNat < 97 + k
  | 0, _ => by simp [wdB]
  | n + 1, i => by
    intro b hb
    rw [wdB] at hb
    rcases List.mem_append.1 hb with hb | hb
    · exact wdB_bytes hk hk3 n _ b hb
    · simp at hb
      subst hb
      have hm : i % k < k := Nat.mod_lt _ (by omega)
      have h3 : i % k = 0 ∨ i % k = 1 ∨ i % k = 2 := by omega
      rcases h3 with h | h | h <;> rw [h] at hm ⊢ <;> refine ⟨by decide, ?_⟩
      · show (97 : Nat) < _; omega
      · show (98 : Nat) < _; omega
      · show (99 : Nat) < _; omega
theorem bl_list {s : ByteArray} {j : Nat} (h : j < s.size) : ∃ b, s.data.toList[j]? = some b ∧ bl s j = b.toNat := by
  have hl : j < s.data.toList.length := by rw [Array.length_toList]; exact h
  refine ⟨s.data.toList[j], List.getElem?_eq_getElem hl, ?_⟩
  rw [bl_get h]
  congr 1
theorem okW_of {k : Int} {s : ByteArray} : ∀ (m i : Nat), (∀ j, i ≤ j → j < i + m → 97 ≤ bl s j ∧ (bl s j : Int) - 97 < k) → okW k s i m = true
  | 0, _, _ => rfl
  | m + 1, i, h => by
    have h0 := h i (Nat.le_refl _) (by omega)
    have hr := okW_of m (i + 1) (fun j h1 h2 => h j (by omega) (by omega))
    simp [okW, h0.1, h0.2, hr]
theorem isWd_word {k n i : Nat} (hk : 1 ≤ k) (hk3 : k ≤ 3) (hn : n ≤ 16) : isWd k (wordN k n i) = true := by
  have hs := wordN_size k n i
  have h1 : inR (k : Int) 1 3 = true := inR_mk ⟨by omega, by omega⟩
  have h2 : okW k (wordN k n i) 0 (wordN k n i).size = true := by
    refine okW_of _ _ fun j _ hj => ?_
    obtain ⟨b, hb, e⟩ := bl_list (s := wordN k n i) (j := j) (by omega)
    have hm : b ∈ wdB k n i := by
      have h := List.mem_of_getElem? hb
      simpa [wordN] using h
    have := wdB_bytes hk hk3 n i b hm
    rw [e]
    omega
  unfold isWd
  rw [h1, h2]
  simp
  omega
end Go.Proofs.YtobmljclokmbcaaDoor

namespace Go.Proofs.YtobmljclokmbcaaDoor
open Go.RowKit
set_option linter.all false
def fitsR (d k : Int) : Bool := decide (0 ≤ d) && (decide (d ≤ k) && decide (k ≤ 7))
theorem fitsR_nat {d k : Int} (h : fitsR d k = true) : ∃ a b : Nat, d = a ∧ k = b ∧ a ≤ b ∧ b ≤ 7 := by
  simp [fitsR] at h
  exact ⟨d.toNat, k.toNat, by omega, by omega, by omega, by omega⟩
theorem l25Fits_any (d k : Int) (w : World) : Calls Tryd.prog 53 #[.int .i64 d, .int .i64 k] w fun e w' => e = .returned (.bool (fitsR d k)) ∧ w = w' := by
  by_cases h1 : 0 ≤ d
  · have d1 : decide (0 ≤ d) = true := decide_eq_true h1
    by_cases h2 : d ≤ k
    · have d2 : decide (d ≤ k) = true := decide_eq_true h2
      have HE : Hid (fitsR d k = decide (k ≤ 7)) := by show _ = _; simp [fitsR, h1, h2]
      clear h1 h2
      go_enter Tryd.func53, Tryd.ntmps53
      go_wp2_with fail
      go_ret
      exact ⟨ret_bool HE.out.symm, rfl⟩
    · have d2 : decide (d ≤ k) = false := decide_eq_false h2
      have HE : Hid (fitsR d k = false) := by show _ = _; simp [fitsR, h2]
      clear h1 h2
      go_enter Tryd.func53, Tryd.ntmps53
      go_wp2_with fail
      go_ret
      exact ⟨ret_bool HE.out.symm, rfl⟩
  · have d1 : decide (0 ≤ d) = false := decide_eq_false h1
    have HE : Hid (fitsR d k = false) := by show _ = _; simp [fitsR, h1]
    clear h1
    go_enter Tryd.func53, Tryd.ntmps53
    go_wp2_with fail
    go_ret
    exact ⟨ret_bool HE.out.symm, rfl⟩
end Go.Proofs.YtobmljclokmbcaaDoor

namespace Go.Proofs.YtobmljclokmbcaaDoor
open Go.RowKit
set_option linter.all false
def lensR (s : ByteArray) : Nat → Nat → Int → List Int
  | _, 0, n => [n]
  | i, m + 1, n => if bl s i = 98 then n :: lensR s (i + 1) m 0 else lensR s (i + 1) m (n + 1)
def lens (s : ByteArray) : List Int := lensR s 0 s.size 0
theorem lens_b {s : ByteArray} {i : Nat} {n : Int} {acc R : List Int} (hi : i < s.size) (hb : bl s i = 98) (h : acc ++ lensR s i (s.size - i) n = R) : (acc ++ [n]) ++ lensR s (i + 1) (s.size - (i + 1)) 0 = R := by
  rw [show s.size - i = (s.size - (i + 1)) + 1 by omega, lensR, if_pos hb] at h
  simpa using h
theorem lens_a {s : ByteArray} {i : Nat} {n : Int} {acc R : List Int} (hi : i < s.size) (hb : ¬ bl s i = 98) (h : acc ++ lensR s i (s.size - i) n = R) : acc ++ lensR s (i + 1) (s.size - (i + 1)) (n + 1) = R := by
  rw [show s.size - i = (s.size - (i + 1)) + 1 by omega, lensR, if_neg hb] at h
  exact h
theorem lens_end {s : ByteArray} {i : Nat} {n : Int} {acc R : List Int} (hi : s.size ≤ i) (h : acc ++ lensR s i (s.size - i) n = R) : acc ++ [n] = R := by
  rw [show s.size - i = 0 by omega] at h
  exact h
end Go.Proofs.YtobmljclokmbcaaDoor

namespace Go.Proofs.YtobmljclokmbcaaDoor
open Go.RowKit
set_option linter.all false
def kpBad (d k : Int) (len i : Nat) (x : Int) : Bool := decide (k < x) || (decide (0 < i) && (decide (i + 1 < len) && decide (x < d)))
def kpF (d k : Int) (len : Nat) : Nat → List Int → Bool
  | _, [] => true
  | i, x :: r => !kpBad d k len i x && kpF d k len (i + 1) r
def keepsL (d k : Int) (xs : List Int) : Bool := kpF d k xs.length 0 xs
def keepsB (d k : Int) (s : ByteArray) : Bool := fitsR d k && (isWd 2 s && keepsL d k (lens s))
theorem kp_step {d k x : Int} {len i : Nat} {xs : List Int} {b : Bool} (hx : xs[i]? = some x) (h : kpF d k len i (xs.drop i) = b) :
    (kpBad d k len i x = true → b = false) ∧ (kpBad d k len i x = false → kpF d k len (i + 1) (xs.drop (i + 1)) = b) := by
  rw [drop_of_get hx] at h
  generalize List.drop (i + 1) xs = r at *
  constructor
  · intro e; simpa [kpF, e] using h.symm
  · intro e; simpa [kpF, e] using h
theorem kp_end {d k : Int} {len i : Nat} {xs : List Int} {b : Bool} (hi : xs.length ≤ i) (h : kpF d k len i (xs.drop i) = b) : b = true := by
  rw [drop_all xs i hi] at h
  exact h.symm
end Go.Proofs.YtobmljclokmbcaaDoor

namespace Go.Proofs.YtobmljclokmbcaaDoor
open Go.RowKit
set_option linter.all false
theorem filt_step {α : Type} {p : α → Bool} {L acc R : List α} {i : Nat} {x : α} (hx : L[i]? = some x) (h : acc ++ (L.drop i).filter p = R) :
    (p x = true → (acc ++ [x]) ++ (L.drop (i + 1)).filter p = R) ∧ (p x = false → acc ++ (L.drop (i + 1)).filter p = R) := by
  rw [drop_of_get hx, List.filter_cons] at h
  constructor
  · intro e; simpa [e] using h
  · intro e; simpa [e] using h
theorem filt_end {α : Type} {p : α → Bool} {L acc R : List α} {i : Nat} (hi : L.length ≤ i) (h : acc ++ (L.drop i).filter p = R) : acc = R := by
  rw [drop_all L i hi] at h
  simpa using h
end Go.Proofs.YtobmljclokmbcaaDoor

namespace Go.Proofs.YtobmljclokmbcaaDoor
open Go.RowKit
set_option linter.all false
def runP (d k : Int) (s : ByteArray) : Bool := keepsL d k (lens s)
def runWV (d k n : Int) : List ByteArray := if fitsR d k && inR n 0 8 then (allW 2 n.toNat).filter (runP d k) else []
theorem keepsB_word {d k : Int} {n i : Nat} (h : fitsR d k = true) (hn : n ≤ 16) : keepsB d k (wordN 2 n i) = runP d k (wordN 2 n i) := by
  have h2 : isWd ((2 : Nat) : Int) (wordN 2 n i) = true := isWd_word (by omega) (by omega) hn
  have h3 : isWd 2 (wordN 2 n i) = true := h2
  simp [keepsB, h, h3, runP]
theorem runWV_len (d k n : Int) : (runWV d k n).length ≤ 6561 := by
  unfold runWV
  split
  · rename_i h
    simp only [Bool.and_eq_true] at h
    have h1 := inR_true h.2
    have h2 := List.length_filter_le (runP d k) (allW 2 n.toNat)
    rw [allW_len] at h2
    exact Nat.le_trans h2 (pow_le_of (by omega) (by omega))
  · simp
end Go.Proofs.YtobmljclokmbcaaDoor

namespace Go.Proofs.YtobmljclokmbcaaDoor
open Go.RowKit
set_option linter.all false
/- 'out = append(out, y)' for a slice of ints of the call's own, in a seat that has no slice of slices. -/
theorem OInts.inBlk {w : World} {lo n : Nat} {v : Value} {xs : List Int} (h : OInts w lo v n xs) : ∀ k, v.ownBlock = some k → lo ≤ k ∧ k < w.heap.size := h.2.lt
theorem wpList_push_i {ops : Array Oper} {rest : List Oper} {o : Oper} {a : Act} {Q : Exit → Act → World → Prop} (W : World) (y : Int) (hgd : o.guard = none) (s x : Operand)
    (ho : o.op = .call { callee := .builtin .append, args := #[s, x], argTypes := #[38, 38] })
    (lo : Nat) (v : Value) (n : Nat) (xs : List Int) (hs : a.eval s = v) (h : OInts W lo v n xs) (hn : n + 1 ≤ 1099511627776) (hlo : lo ≤ W.heap.size)
    (tb : Nat) (htb : tb = W.heap.size) (hx : a.eval x = .slice (some ⟨tb, 0, none⟩) 1 1)
    (K : ∀ v' w', OInts w' lo v' (n + 1) (xs ++ [y]) → Below lo W w' → wpList Tryd.prog ops Q rest (a.put o.dst v') w') : wpList Tryd.prog ops Q (o :: rest) a (W.alloc (.cells #[.int .i64 y] 3)) := by
  subst htb
  refine wpList_push_int _ hgd s x ho lo v n xs hs (h.alloc _) hn W.heap.size y hx (World.cell?_alloc_new _ _ _ _) (by simp; omega) ?_
  intro v' w' hown hg
  exact K v' w' hown (((Below.refl lo W).alloc hlo _).grown hg (by simp; omega) (fun k hk => (h.inBlk k hk).1))
theorem grown_allocI (w : World) (o : Obj) (row : Option Nat) : w.grownBy (w.alloc o) row := by
  have h := (Below.refl w.heap.size w).alloc (Nat.le_refl _) o
  exact ⟨h.os, h.tape, h.output, h.size, fun k hk _ => h.block k hk⟩
/- The same beside a block g that is not the slice's: it stays. -/
theorem wpList_push_ib {ops : Array Oper} {rest : List Oper} {o : Oper} {a : Act} {Q : Exit → Act → World → Prop} (W : World) (y : Int) (hgd : o.guard = none) (s x : Operand)
    (ho : o.op = .call { callee := .builtin .append, args := #[s, x], argTypes := #[38, 38] })
    (lo : Nat) (v : Value) (n : Nat) (xs : List Int) (hs : a.eval s = v) (h : OInts W lo v n xs) (hn : n + 1 ≤ 1099511627776) (hlo : lo ≤ W.heap.size)
    (g : Nat) (hg : v.ownBlock ≠ some g) (hgs : g < W.heap.size)
    (tb : Nat) (htb : tb = W.heap.size) (hx : a.eval x = .slice (some ⟨tb, 0, none⟩) 1 1)
    (K : ∀ v' w', OInts w' lo v' (n + 1) (xs ++ [y]) → Below lo W w' → v'.ownBlock ≠ some g → w'.heap[g]? = W.heap[g]? → wpList Tryd.prog ops Q rest (a.put o.dst v') w') : wpList Tryd.prog ops Q (o :: rest) a (W.alloc (.cells #[.int .i64 y] 3)) := by
  subst htb
  obtain ⟨i0, hi, hz0, hz1, hz2⟩ := info_int_parts
  refine wpList_plain hgd fun K' hK => ?_
  obtain ⟨v', w', hr, h2, h3, _, h5⟩ := run_append_own_at (P := Tryd.prog) (W.alloc (.cells #[.int .i64 y] 3)) lo 38 o.type 3 i0 (.int .i64 0) 1 8 Tryd.underlying38 hi hz0 hz1 hz2 rfl (by decide) v n _ (h.alloc _).2 ⟨W.heap.size, 0, none⟩ 1 1 [.int .i64 y] rfl
    (by intro j u' hj
        match j, hj with
        | 0, hj =>
          simp at hj
          subst hj
          simpa [Addr.add] using World.cell?_alloc_new _ _ _ _) (by intro u hu; simp at hu; subst hu; rfl) (by unfold maxLen; omega) (by omega) (by simp; omega)
  unfold Oper.wp execOp
  simp only [ho, resolve, invoke, builtin, Sem.run_bind, Sem.run_pure, Result.andThen_ok, List.map_toArray, List.map_cons, List.map_nil, hs, hx, hr]
  have hG := (grown_allocI W (.cells #[.int .i64 y] 3) v.ownBlock).trans h3
  refine hK _ _ (K v' w' ⟨hn, ?_⟩ ((Below.refl lo W).grown hG hlo (fun k hk => (h.inBlk k hk).1)) ?_ (hG.block g hgs (fun e => hg e.symm)))
  · rw [List.map_append]; exact h2
  · rcases h5 with h5 | h5
    · rw [h5]; exact hg
    · rw [h5]; intro e; injection e with e; simp at e; omega
end Go.Proofs.YtobmljclokmbcaaDoor

namespace Go.Proofs.YtobmljclokmbcaaDoor
open Go.RowKit
set_option linter.all false
set_option maxRecDepth 20000 in
set_option maxHeartbeats 3200000 in
theorem sLens_any (s : ByteArray) (w : World) (hs : s.size ≤ 1048576) : Calls Tryd.prog 61 #[.string s] w fun e w' => ∃ v, e = .returned v ∧ OInts w' w.heap.size v (lens s).length (lens s) ∧ Below w.heap.size w w' := by
  have HO := Lib.hid (OInts.empty w w.heap.size (Nat.le_refl _))
  have HB0 := Lib.hid ((Below.refl w.heap.size w).alloc (Nat.le_refl _) (.cells #[] 3))
  go_enter Tryd.func61, Tryd.ntmps61
  go_wp2_with fail
  go_loopw [3, 4, 5] (fun ov nv iv wr => ∃ (i : Nat) (n : Nat) (acc : List Int), i ≤ s.size ∧ n ≤ i ∧ acc.length ≤ i ∧ iv = .int .i64 i ∧ nv = .int .i64 n ∧ OInts wr w.heap.size ov acc.length acc ∧ Hid (acc ++ lensR s i (s.size - i) n = lens s) ∧ Below w.heap.size w wr) (fun _ _ x _ => s.size - (intOf x).toNat)
  case atStart => exact ⟨0, 0, [], Nat.zero_le _, Nat.le_refl _, Nat.le_refl _, rfl, rfl, HO.out, rfl, HB0.out⟩
  case round =>
    obtain ⟨i, n, acc, hi, hn, hal, rfl, rfl, ho, hr, hbl⟩ := hrel
    obtain ⟨aa, ca, rfl, _⟩ := ho.form
    have HOw := Lib.hid ho
    have HB := Lib.hid hbl
    have hsz := hbl.size
    clear ho hbl HO HB0
    by_cases hlt : i < s.size
    · obtain ⟨b, hc⟩ : ∃ b : Nat, s[i].toNat = b := ⟨_, rfl⟩
      have hb : bl s i = b := (bl_get hlt).trans hc
      by_cases h98 : b = 98
      · have e : ((b : Int) == 98) = true := by simp [h98]
        have HN := Lib.hid (lens_b hlt (hb.trans h98) hr.out)
        clear hb hr
        subst h98
        go_wp2_with (refine wpList_push_i wr (n : Int) rfl (.tmp 17) (.tmp 19) rfl w.heap.size _ _ _ rfl HOw.out (by omega) hsz _ rfl rfl ?_; intro v2 w2 ho2 hb2; have HO2 := Lib.hid ho2; have HB2 := Lib.hid hb2; obtain ⟨a2, c2, rfl, _⟩ := ho2.form; clear ho2 hb2)
        go_roundw
        case rel => exact ⟨i + 1, 0, acc ++ [(n : Int)], hlt, Nat.zero_le _, by simp; omega, by go_num, rfl, by simpa using HO2.out, HN.out, HB.out.trans HB2.out⟩
        case measure => simp [intOf]; omega
      · have e : ((b : Int) == 98) = false := by simp; omega
        have HN := Lib.hid (lens_a hlt (by rw [hb]; exact h98) hr.out)
        clear hb hr
        go_wp2_with fail
        go_roundw
        case rel => exact ⟨i + 1, n + 1, acc, hlt, by omega, by omega, by go_num, by go_num, HOw.out, HN.out, HB.out⟩
        case measure => simp [intOf]; omega
    · have HE := Lib.hid (lens_end (by omega) hr.out)
      clear hr
      go_wp2_with (refine wpList_push_i wr (n : Int) rfl (.tmp 23) (.tmp 25) rfl w.heap.size _ _ _ rfl HOw.out (by omega) hsz _ rfl rfl ?_; intro v2 w2 ho2 hb2; have HO2 := Lib.hid ho2; have HB2 := Lib.hid hb2; obtain ⟨a2, c2, rfl, _⟩ := ho2.form; clear ho2 hb2)
      go_ret
      exact ⟨_, rfl, by have h := HO2.out; rw [HE.out] at h; have hl := h.len; rw [hl]; exact h, HB.out.trans HB2.out⟩
end Go.Proofs.YtobmljclokmbcaaDoor

namespace Go.Proofs.YtobmljclokmbcaaDoor
open Go.RowKit
set_option linter.all false
set_option maxHeartbeats 1600000 in
theorem sIsWord_any (k : Int) (s : ByteArray) (w : World) (hs : s.size ≤ 1048576) : Calls Tryd.prog 60 #[.int .i64 k, .string s] w fun e w' => e = .returned (.bool (isWd k s)) ∧ w = w' := by
  go_enter Tryd.func60, Tryd.ntmps60
  go_wp2_with fail
  go_loop [5] (fun x => ∃ i : Nat, i ≤ s.size ∧ x = .int .i64 i ∧ Hid (okW k s i (s.size - i) = okW k s 0 s.size)) (fun x => s.size - (intOf x).toNat)
  case atStart => exact ⟨0, Nat.zero_le _, rfl, rfl⟩
  case round =>
    obtain ⟨i, hi, rfl, hr⟩ := hrel
    by_cases hlt : i < s.size
    · have hr2 := hr.out
      rw [show s.size - i = (s.size - (i + 1)) + 1 by omega] at hr2
      have HST := Lib.hid (okW_step hr2)
      clear hr hr2
      obtain ⟨c, hc⟩ : ∃ c : Nat, s[i].toNat = c := ⟨_, rfl⟩
      have hb : bl s i = c := (bl_get hlt).trans hc
      have hc2 : c < 256 := by rw [← hb]; exact bl_lt s i
      by_cases g1 : 97 ≤ c
      · have d : decide ((c : Int) < 97) = false := decide_eq_false (by omega)
        by_cases g2 : (c : Int) - 97 < k
        · have d2 : decide (k ≤ (c : Int) - 97) = false := decide_eq_false (by omega)
          have HN := Lib.hid (HST.out.2.2 (by rw [hb]; exact g1) (by rw [hb]; exact g2))
          clear hb g1 g2
          go_wp2_with fail
          go_round
          case rel => exact ⟨i + 1, hlt, by go_num, HN.out⟩
          case measure => simp [intOf]; omega
        · have d2 : decide (k ≤ (c : Int) - 97) = true := decide_eq_true (by omega)
          have HF := Lib.hid (HST.out.2.1 (by rw [hb]; exact g2))
          have HR : Hid (isWd k s = false) := by show _ = _; simp [isWd, HF.out]
          clear hb g1 g2
          go_wp2_with fail
          go_ret
          exact ⟨ret_bool HR.out.symm, rfl⟩
      · have d : decide ((c : Int) < 97) = true := decide_eq_true (by omega)
        have HF := Lib.hid (HST.out.1 (by rw [hb]; exact g1))
        have HR : Hid (isWd k s = false) := by show _ = _; simp [isWd, HF.out]
        clear hb g1
        go_wp2_with fail
        go_ret
        exact ⟨ret_bool HR.out.symm, rfl⟩
    · have HT : Hid (okW k s 0 s.size = true) := by show _ = _; rw [← hr.out, show s.size - i = 0 by omega]; rfl
      clear hr
      cases b1 : inR k 1 3
      · have B1 := Lib.hid b1
        have HR : Hid (isWd k s = false) := by show _ = _; simp [isWd, b1]
        clear b1
        go_wp2_with (go_at_call 57; refine (l1In_any _ _ _ _).mono ?_; rw [B1.out]; rintro e w' ⟨rfl, rfl⟩)
        go_ret
        exact ⟨ret_bool HR.out.symm, rfl⟩
      · have B1 := Lib.hid b1
        have HR : Hid (isWd k s = decide (s.size ≤ 16)) := by show _ = _; simp [isWd, b1, HT.out]
        clear b1
        by_cases h16 : s.size ≤ 16
        · have d : decide ((s.size : Int) ≤ 16) = true := decide_eq_true (by omega)
          go_wp2_with (go_at_call 57; refine (l1In_any _ _ _ _).mono ?_; rw [B1.out]; rintro e w' ⟨rfl, rfl⟩)
          go_ret
          exact ⟨ret_bool (by rw [HR.out]; simp [h16]), rfl⟩
        · have d : decide ((s.size : Int) ≤ 16) = false := decide_eq_false (by omega)
          go_wp2_with (go_at_call 57; refine (l1In_any _ _ _ _).mono ?_; rw [B1.out]; rintro e w' ⟨rfl, rfl⟩)
          go_ret
          exact ⟨ret_bool (by rw [HR.out]; simp [h16]), rfl⟩
end Go.Proofs.YtobmljclokmbcaaDoor

namespace Go.Proofs.YtobmljclokmbcaaDoor
open Go.RowKit
set_option linter.all false
set_option maxRecDepth 20000 in
set_option maxHeartbeats 3200000 in
theorem sKeepsRuns_any (d k : Int) (s : ByteArray) (w : World) (hs : s.size ≤ 1048576) : Calls Tryd.prog 18 #[.int .i64 d, .int .i64 k, .string s] w fun e w' => e = .returned (.bool (keepsB d k s)) ∧ Below w.heap.size w w' := by
  cases b1 : fitsR d k
  · have B1 := Lib.hid b1
    have HR : Hid (keepsB d k s = false) := by show _ = _; simp [keepsB, b1]
    clear b1
    go_enter Tryd.func18, Tryd.ntmps18
    go_wp2_with (go_at_call 53; refine (l25Fits_any _ _ _).mono ?_; rw [B1.out]; rintro e w' ⟨rfl, rfl⟩)
    go_ret
    exact ⟨ret_bool HR.out.symm, Below.refl _ _⟩
  have B1 := Lib.hid b1
  cases b2 : isWd 2 s
  · have B2 := Lib.hid b2
    have HR : Hid (keepsB d k s = false) := by show _ = _; simp [keepsB, b2]
    clear b1 b2
    go_enter Tryd.func18, Tryd.ntmps18
    go_wp2_with fail
    refine (l25Fits_any _ _ _).mono ?_
    rw [B1.out]
    rintro e w' ⟨rfl, rfl⟩
    go_wp2_with fail
    refine (sIsWord_any _ _ _ hs).mono ?_
    rw [B2.out]
    rintro e w' ⟨rfl, rfl⟩
    go_wp2_with fail
    go_ret
    exact ⟨ret_bool HR.out.symm, Below.refl _ _⟩
  have B2 := Lib.hid b2
  have HR : Hid (keepsB d k s = keepsL d k (lens s)) := by show _ = _; simp [keepsB, b1, b2]
  clear b1 b2
  go_enter Tryd.func18, Tryd.ntmps18
  go_wp2_with fail
  refine (l25Fits_any _ _ _).mono ?_
  rw [B1.out]
  rintro e w' ⟨rfl, rfl⟩
  go_wp2_with fail
  refine (sIsWord_any _ _ _ hs).mono ?_
  rw [B2.out]
  rintro e w' ⟨rfl, rfl⟩
  go_wp2_with fail
  refine (sLens_any s _ hs).mono ?_
  rintro e w2 ⟨v2, rfl, ho2, hb2⟩
  obtain ⟨a2, c2, rfl, hi2⟩ := ho2.form
  have HI := Lib.hid hi2
  have HB := Lib.hid hb2
  have hmx := hi2.2.1
  clear ho2 hb2 hi2
  obtain ⟨xs, hxs⟩ : ∃ xs, lens s = xs := ⟨_, rfl⟩
  rw [hxs] at HI HR hmx ⊢
  clear hxs
  go_wp2_with fail
  go_loop [8] (fun x => ∃ i : Nat, i ≤ xs.length ∧ x = .int .i64 i ∧ Hid (kpF d k xs.length i (xs.drop i) = keepsL d k xs)) (fun x => xs.length - (intOf x).toNat)
  case atStart => exact ⟨0, Nat.zero_le _, rfl, rfl⟩
  case round =>
    obtain ⟨i, hi, rfl, hr⟩ := hrel
    by_cases hlt : i < xs.length
    · obtain ⟨b, o, x, rfl, hc, hx⟩ := HI.out.at_ hlt
      have HST := Lib.hid (kp_step hx.out hr.out)
      clear hx hr
      by_cases g1 : k < x
      · have d1 : decide (k < x) = true := decide_eq_true g1
        have HF : Hid (keepsB d k s = false) := HR.out.trans (HST.out.1 (by simp [kpBad, g1]))
        clear g1
        go_wp2_with fail
        go_ret
        exact ⟨ret_bool HF.out.symm, HB.out⟩
      · have d1 : decide (k < x) = false := decide_eq_false g1
        by_cases g2 : 0 < i
        · have d2 : decide ((0 : Int) < (i : Int)) = true := decide_eq_true (by omega)
          by_cases g3 : i + 1 < xs.length
          · have d3 : decide ((i : Int) + 1 < (xs.length : Int)) = true := decide_eq_true (by omega)
            by_cases g4 : x < d
            · have d4 : decide (x < d) = true := decide_eq_true g4
              have HF : Hid (keepsB d k s = false) := HR.out.trans (HST.out.1 (by simp [kpBad, g2, g3, g4]))
              clear g1 g4
              go_wp2_with fail
              go_ret
              exact ⟨ret_bool HF.out.symm, HB.out⟩
            · have d4 : decide (x < d) = false := decide_eq_false g4
              have HN := Lib.hid (HST.out.2 (by simp [kpBad, g1, g4]))
              clear g1 g4
              go_wp2_with fail
              go_round
              case rel => exact ⟨i + 1, hlt, by go_num, HN.out⟩
              case measure => simp [intOf]; omega
          · have d3 : decide ((i : Int) + 1 < (xs.length : Int)) = false := decide_eq_false (by omega)
            have HN := Lib.hid (HST.out.2 (by simp [kpBad, g1, g3]))
            clear g1
            go_wp2_with fail
            go_round
            case rel => exact ⟨i + 1, hlt, by go_num, HN.out⟩
            case measure => simp [intOf]; omega
        · have d2 : decide ((0 : Int) < (i : Int)) = false := decide_eq_false (by omega)
          have HN := Lib.hid (HST.out.2 (by simp [kpBad, g1, g2]))
          clear g1
          go_wp2_with fail
          go_round
          case rel => exact ⟨i + 1, hlt, by go_num, HN.out⟩
          case measure => simp [intOf]; omega
    · have HT := Lib.hid (kp_end (by omega) hr.out)
      clear hr
      go_wp2_with fail
      go_ret
      exact ⟨ret_bool (HT.out.symm.trans HR.out.symm), HB.out⟩
end Go.Proofs.YtobmljclokmbcaaDoor

namespace Go.Proofs.YtobmljclokmbcaaDoor
open Go.RowKit
set_option linter.all false
set_option maxRecDepth 20000 in
set_option maxHeartbeats 6400000 in
theorem sAllW_any (k n : Nat) (w : World) (hk : 1 ≤ k) (hk3 : k ≤ 3) (hn : n ≤ 8) :
    Calls Tryd.prog 58 #[.int .i64 k, .int .i64 n] w fun e w' => ∃ v, e = .returned v ∧ OStrs w' w.heap.size v (allW k n).length (allW k n) ∧ Below w.heap.size w w' := by
  have H0 := Lib.hid (OStrs.lit w w.heap.size [⟨#[]⟩] (Nat.le_refl _) (by simp))
  go_enter Tryd.func58, Tryd.ntmps58
  go_wp2_with fail
  go_loopw [5, 6] (fun v x wr => ∃ i : Nat, i ≤ n ∧ x = .int .i64 i ∧ OStrs wr w.heap.size v (k ^ i) (allW k i) ∧ Below w.heap.size w wr) (fun _ x _ => n - (intOf x).toNat)
  case atStart => exact ⟨0, Nat.zero_le _, rfl, by rw [allW_zero]; simpa using H0.out, belowA _ _⟩
  case round =>
    obtain ⟨i, hi, rfl, hown, hbl⟩ := hrel
    obtain ⟨wo, rfl⟩ : ∃ wo : World, wo = wr := ⟨_, rfl⟩
    clear H0
    by_cases hlt : i < n
    · obtain ⟨a5, c5, rfl, hi5⟩ := hown.form
      have HR := Lib.hid hi5
      have HB := Lib.hid hbl
      obtain ⟨M, hM⟩ : ∃ M, k ^ i = M := ⟨_, rfl⟩
      have HM := Lib.hid hM
      have hMb : M ≤ 6561 := by rw [← hM]; exact pow_le_of hk3 (by omega)
      rw [hM] at HR hown ⊢
      have HEm := Lib.hid (OStrs.empty wo wo.heap.size (Nat.le_refl _))
      clear hown hbl hi5 hM
      go_wp2_with fail
      go_loopw [7, 8] (fun v x wx => ∃ j q : Nat, j ≤ M ∧ q = j * k ∧ q ≤ 19683 ∧ x = .int .i64 j ∧ OStrs wx wo.heap.size v q ((allW k (i + 1)).take q) ∧ Below wo.heap.size wo wx) (fun _ x _ => M - (intOf x).toNat)
      case atStart => exact ⟨0, 0, Nat.zero_le _, by simp, Nat.zero_le _, rfl, by simpa using HEm.out, belowA _ _⟩
      case round =>
        obtain ⟨j, q, hj, hq, hqb, rfl, hown, hbl⟩ := hrel
        clear HEm
        by_cases hjt : j < M
        · obtain ⟨b, o, s, rfl, hcw, hs⟩ := HR.out.at_ hjt
          have hsj : s = wordN k i j := Option.some.inj (hs.out.symm.trans (allW_get (by rw [HM.out]; exact hjt)))
          have hss : s.size ≤ 8 := by rw [hsj, wordN_size]; omega
          have HSJ := Lib.hid hsj
          have Hcw := Lib.hid hcw
          have HO := Lib.hid hown
          have HBx := Lib.hid hbl
          have HQ := Lib.hid hq
          clear hcw hs hown hbl hsj hq
          go_wp2_with fail
          go_loopw [7, 9] (fun v x wx => ∃ y z : Nat, y ≤ k ∧ z ≤ q + y ∧ q + y ≤ z ∧ x = .int .i64 y ∧ OStrs wx wo.heap.size v z ((allW k (i + 1)).take z) ∧ Below wo.heap.size wo wx) (fun _ x _ => k - (intOf x).toNat)
          case atStart => exact ⟨0, q, Nat.zero_le _, by omega, by omega, rfl, HO.out, HBx.out⟩
          case round =>
            obtain ⟨y, z, hy, hz1, hz2, rfl, hown, hbl⟩ := hrel
            have hz : Hid (z = q + y) := by show _ = _; omega
            obtain ⟨a7, c7, rfl, _⟩ := hown.form
            by_cases hyt : y < k
            · have hx3 : y < 3 := by omega
              have hget : (allW k (i + 1))[z]? = some (s ++ (⟨#[97, 98, 99]⟩ : ByteArray).extract y (y + 1)) := by
                rw [abc_at hx3, HSJ.out, ← word_snoc hyt, hz.out, HQ.out]
                exact allW_get (idx_lt (by rw [HM.out]; exact hjt) hyt)
              have HG := Lib.hid hget
              have hc0 : wr.drew.cell? ⟨b, o + j, none⟩ = some (.string s) := (hbl.cell (World.block_lt_of_cell? wo _ Hcw.out)).trans Hcw.out
              have HO2 : Hid (OStrs wr.drew wo.heap.size (.slice a7 z c7) z ((allW k (i + 1)).take z)) := hown.drewN 1
              have HB2 : Hid (Below wo.heap.size wo wr.drew) := hbl.drew
              have hzb : z ≤ 19700 := by omega
              clear hget hown hbl
              go_wp2_with fail
              have hw1 : IntKind.i64.wrap ((y : Int) + 1) = (y : Int) + 1 := IntWalk.i64_in _ (by omega)
              have hw2 : (0 : Int) ≤ (y : Int) + 1 := by omega
              have hcs : ¬ (9223372036854775807 < s.size + (min (y + 1) 3 - y)) := by omega
              have hw4 : (y : Int) + 1 ≤ 3 := by omega
              have hw5 : (y : Int) ≤ (y : Int) + 1 := by omega
              have hw3 : ((y : Int) + 1).toNat = y + 1 := by omega
              go_region_law (first
                | (refine step_of_wp rfl (wp_push_str wr.drew _ (.tmp 28) (.tmp 38) rfl wo.heap.size _ _ _ rfl HO2.out (by omega) (by exact HB2.out.size) _ rfl rfl ?_); intro v1 w1 ho1 hb1; have HO3 := Lib.hid ho1; have HB3 := Lib.hid (HB2.out.trans hb1); clear ho1 hb1))
              all_goals (go_wp2_with fail)
              all_goals go_roundw
              all_goals first
                | (have h3 := HO3.out
                   rw [push_take HG.out] at h3
                   exact ⟨y + 1, z + 1, hyt, by omega, by omega, by go_num, h3, HB3.out⟩)
                | (simp [intOf] <;> omega)
            · have e : y = k := by omega
              subst e
              have HO3 := Lib.hid hown
              have HB3 := Lib.hid hbl
              have hqq : z = (j + 1) * y := by rw [Nat.add_mul, Nat.one_mul, hz.out, HQ.out]
              have HQQ := Lib.hid hqq
              have hzb : z ≤ 19683 := by rw [hqq]; exact Nat.le_trans (Nat.mul_le_mul (show j + 1 ≤ 6561 by omega) hk3) (by decide)
              clear hown hbl hqq
              go_wp2_with fail
              go_roundw
              case rel => exact ⟨j + 1, z, hjt, HQQ.out, hzb, by go_num, HO3.out, HB3.out⟩
              case measure => (simp [intOf] <;> omega)
        · have e : j = M := by omega
          subst e
          have he : q = k ^ (i + 1) := by rw [hq, Nat.pow_succ, HM.out]
          rw [List.take_of_length_le (by rw [allW_len, he]; exact Nat.le_refl _), he] at hown
          obtain ⟨a7, c7, rfl, _⟩ := hown.form
          have HO3 := Lib.hid (hown.mono HB.out.size)
          have HB3 := Lib.hid (HB.out.trans (hbl.mono HB.out.size))
          clear hown hbl he hq
          go_wp2_with fail
          go_roundw
          case rel => exact ⟨i + 1, hlt, by go_num, HO3.out, HB3.out⟩
          case measure => (simp [intOf] <;> omega)
    · have e : i = n := by omega
      subst e
      have HO := Lib.hid hown
      have HB := Lib.hid hbl
      clear hown hbl
      go_wp2_with fail
      go_ret
      rw [allW_len]
      exact ⟨_, rfl, HO.out, HB.out⟩
end Go.Proofs.YtobmljclokmbcaaDoor

namespace Go.Proofs.YtobmljclokmbcaaDoor
open Go.RowKit
set_option linter.all false
abbrev Ar := Int × Int × Int
def arV (x : Ar) : Value := .agg #[.int .i64 x.1, .int .i64 x.2.1, .int .i64 x.2.2]
def arCells : List Ar → List Value
  | [] => []
  | x :: r => .int .i64 x.1 :: .int .i64 x.2.1 :: .int .i64 x.2.2 :: arCells r
theorem arCells_len : ∀ xs : List Ar, (arCells xs).length = xs.length * 3
  | [] => rfl
  | x :: r => by simp only [arCells, List.length_cons, arCells_len r]; omega
theorem arCells_app : ∀ (xs ys : List Ar), arCells (xs ++ ys) = arCells xs ++ arCells ys
  | [], _ => rfl
  | x :: r, ys => by simp only [List.cons_append, arCells, arCells_app r ys]
theorem arCells_get : ∀ (xs : List Ar) (i : Nat) (x : Ar), xs[i]? = some x → (arCells xs)[i * 3]? = some (.int .i64 x.1) ∧ (arCells xs)[i * 3 + 1]? = some (.int .i64 x.2.1) ∧ (arCells xs)[i * 3 + 2]? = some (.int .i64 x.2.2)
  | [], _, _, h => by simp at h
  | y :: r, 0, x, h => by simp at h; subst h; exact ⟨rfl, rfl, rfl⟩
  | y :: r, i + 1, x, h => by
    have := arCells_get r i x (by simpa using h)
    rw [show (i + 1) * 3 = i * 3 + 3 by omega, show i * 3 + 3 + 1 = i * 3 + 1 + 3 by omega, show i * 3 + 3 + 2 = i * 3 + 2 + 3 by omega]
    exact this
theorem arCells_set1 : ∀ (xs : List Ar) (i : Nat) (x : Ar) (u : Int), xs[i]? = some x → (arCells xs).set (i * 3) (.int .i64 u) = arCells (xs.set i (u, x.2.1, x.2.2))
  | [], _, _, _, h => by simp at h
  | y :: r, 0, x, u, h => by simp at h; subst h; rfl
  | y :: r, i + 1, x, u, h => by
    have := arCells_set1 r i x u (by simpa using h)
    rw [show (i + 1) * 3 = i * 3 + 1 + 1 + 1 by omega]
    simp only [arCells, List.set_cons_succ, this]
theorem arCells_set2 : ∀ (xs : List Ar) (i : Nat) (x : Ar) (u : Int), xs[i]? = some x → (arCells xs).set (i * 3 + 1) (.int .i64 u) = arCells (xs.set i (x.1, u, x.2.2))
  | [], _, _, _, h => by simp at h
  | y :: r, 0, x, u, h => by simp at h; subst h; rfl
  | y :: r, i + 1, x, u, h => by
    have := arCells_set2 r i x u (by simpa using h)
    rw [show (i + 1) * 3 + 1 = i * 3 + 1 + 1 + 1 + 1 by omega]
    simp only [arCells, List.set_cons_succ, this]
theorem arCells_set3 : ∀ (xs : List Ar) (i : Nat) (x : Ar) (u : Int), xs[i]? = some x → (arCells xs).set (i * 3 + 2) (.int .i64 u) = arCells (xs.set i (x.1, x.2.1, u))
  | [], _, _, _, h => by simp at h
  | y :: r, 0, x, u, h => by simp at h; subst h; rfl
  | y :: r, i + 1, x, u, h => by
    have := arCells_set3 r i x u (by simpa using h)
    rw [show (i + 1) * 3 + 2 = i * 3 + 2 + 1 + 1 + 1 by omega]
    simp only [arCells, List.set_cons_succ, this]

/-- The slice value '.slice ao n cap' reads in w as the list xs of arcs. -/
def Arcs (w : World) (ao : Option Addr) (n : Nat) (xs : List Ar) : Prop :=
  xs.length = n ∧ n ≤ 1099511627776 ∧ ∀ i x, xs[i]? = some x → ∃ b o, ao = some ⟨b, o, none⟩ ∧ w.cell? ⟨b, o + i * 3, none⟩ = some (.int .i64 x.1) ∧ w.cell? ⟨b, o + i * 3 + 1, none⟩ = some (.int .i64 x.2.1) ∧ w.cell? ⟨b, o + i * 3 + 2, none⟩ = some (.int .i64 x.2.2)
theorem Arcs.keep {w w' : World} {ao : Option Addr} {n : Nat} {xs : List Ar} (h : Arcs w ao n xs) (hb : Below w.heap.size w w') : Arcs w' ao n xs := by
  refine ⟨h.1, h.2.1, fun i x hi => ?_⟩
  obtain ⟨b, o, e, h1, h2, h3⟩ := h.2.2 i x hi
  exact ⟨b, o, e, (hb.cell (p := ⟨b, _, none⟩) (World.block_lt_of_cell? w _ h1)).trans h1, (hb.cell (p := ⟨b, _, none⟩) (World.block_lt_of_cell? w _ h2)).trans h2, (hb.cell (p := ⟨b, _, none⟩) (World.block_lt_of_cell? w _ h3)).trans h3⟩
theorem Arcs.drewN {w : World} {ao : Option Addr} {n : Nat} {xs : List Ar} (h : Arcs w ao n xs) (k : Nat) : Arcs (w.drewN k) ao n xs := h
theorem Arcs.at_ {w : World} {ao : Option Addr} {n k : Nat} {xs : List Ar} (h : Arcs w ao n xs) (hk : k < n) :
    ∃ b o x y z, ao = some ⟨b, o, none⟩ ∧ w.cell? ⟨b, o + k * 3, none⟩ = some (.int .i64 x) ∧ w.cell? ⟨b, o + k * 3 + 1, none⟩ = some (.int .i64 y) ∧ w.cell? ⟨b, o + k * 3 + 2, none⟩ = some (.int .i64 z) ∧ Hid (xs[k]? = some (x, y, z)) := by
  have hl : k < xs.length := by rw [h.1]; exact hk
  obtain ⟨b, o, e, h1, h2, h3⟩ := h.2.2 k _ (List.getElem?_eq_getElem hl)
  exact ⟨b, o, _, _, _, e, h1, h2, h3, List.getElem?_eq_getElem hl⟩

/-- The slice value v is the call's own, and holds just the list xs of arcs. -/
def OArcs (w : World) (lo : Nat) (v : Value) (n : Nat) (xs : List Ar) : Prop :=
  n ≤ 1099511627776 ∧ w.ownsRow lo 70 3 v n (arCells xs)
section
variable {w w' : World} {lo n : Nat} {v : Value} {xs : List Ar}
theorem OArcs.len (h : OArcs w lo v n xs) : xs.length = n := by have := h.2.1; rw [arCells_len] at this; omega
theorem OArcs.keep (h : OArcs w lo v n xs) (hb : Below w.heap.size w w') : OArcs w' lo v n xs := ⟨h.1, own_keep h.2 hb⟩
theorem OArcs.grown {row : Option Nat} (h : OArcs w lo v n xs) (hg : w.grownBy w' row) (hne : v.ownBlock = none ∨ v.ownBlock ≠ row) : OArcs w' lo v n xs := ⟨h.1, h.2.kept hg hne⟩
theorem OArcs.alloc (h : OArcs w lo v n xs) (o : Obj) : OArcs (w.alloc o) lo v n xs := ⟨h.1, h.2.alloc o⟩
theorem OArcs.drewN (h : OArcs w lo v n xs) (k : Nat) : OArcs (w.drewN k) lo v n xs := h
theorem OArcs.mono {lo' : Nat} (h : OArcs w lo v n xs) (hl : lo' ≤ lo) : OArcs w lo' v n xs := by
  refine ⟨h.1, h.2.1, ?_⟩
  rcases h.2.2 with h2 | ⟨g, cap, cur, hv, hg, r⟩
  · exact .inl h2
  · exact .inr ⟨g, cap, cur, hv, Nat.le_trans hl hg, r⟩
theorem OArcs.ownlt (h : OArcs w lo v n xs) : ∀ k, v.ownBlock = some k → lo ≤ k ∧ k < w.heap.size := h.2.lt
/-- nil, or a slice at the head of a block. -/
theorem OArcs.form (h : OArcs w lo v n xs) : ∃ ao cap, v = .slice ao n cap ∧ Arcs w ao n xs := by
  have hl := h.len
  rcases h.2.2 with ⟨rfl, rfl⟩ | ⟨g, cap, cur, rfl, hg, hh, hnc, _, _, ht⟩
  · exact ⟨none, 0, rfl, hl, h.1, fun i x hi => by rw [List.eq_nil_of_length_eq_zero hl] at hi; simp at hi⟩
  · refine ⟨some ⟨g, 0, none⟩, cap, rfl, hl, h.1, fun i x hi => ⟨g, 0, rfl, ?_⟩⟩
    obtain ⟨c1, c2, c3⟩ := arCells_get xs i x hi
    have d1 := h.2.cells (g := g) rfl _ _ c1
    have d2 := h.2.cells (g := g) rfl _ _ c2
    have d3 := h.2.cells (g := g) rfl _ _ c3
    rw [Addr.add_lit, Nat.zero_add] at d1 d2 d3
    rw [Nat.zero_add]
    exact ⟨d1, d2, d3⟩
theorem OArcs.two {cap : Nat} {ao : Option Addr} (h : OArcs w lo (.slice ao n cap) n xs) : (ao = none ∧ n = 0) ∨ ∃ g, ao = some ⟨g, 0, none⟩ := by
  rcases h.2.2 with ⟨e, hn⟩ | ⟨g, c, cur, e, _⟩
  · injection e with e1
    exact .inl ⟨e1, hn⟩
  · injection e with e1
    exact .inr ⟨g, e1⟩
theorem OArcs.read {cap : Nat} {ao : Option Addr} (h : OArcs w lo (.slice ao n cap) n xs) : Arcs w ao n xs := by
  obtain ⟨ao', cap', e, hi⟩ := h.form
  injection e with e1
  subst e1
  exact hi
theorem OArcs.capLe {m cap : Nat} {ao : Option Addr} (h : OArcs w lo v n xs) (e : v = .slice ao m cap) : n ≤ cap := by
  rcases h.2.2 with ⟨rfl, rfl⟩ | ⟨g, c, cur, rfl, _, _, hnc, _⟩
  · exact Nat.zero_le _
  · injection e with _ _ e3
    omega
theorem OArcs.within {hi lo2 : Nat} (h : OArcs w lo v n xs) (hw : Within lo2 hi w w') (hl : hi ≤ lo) : OArcs w' lo v n xs := ⟨h.1, own_within h.2 hw hl⟩
theorem OArcs.since (h : OArcs w lo v n xs) (hw : Since lo w.heap.size w w') : OArcs w' lo v n xs := ⟨h.1, own_since h.2 hw⟩
theorem OArcs.none_ (w : World) (lo : Nat) : OArcs w lo (.slice none 0 0) 0 [] := ⟨by omega, by simp [arCells], .inl ⟨rfl, rfl⟩⟩
theorem OArcs.empty (w : World) (lo : Nat) (hlo : lo ≤ w.heap.size) : OArcs (w.alloc (.cells #[] 70)) lo (.slice (some ⟨w.heap.size, 0, none⟩) 0 0) 0 [] := by
  refine ⟨by omega, ?_⟩
  exact World.ownsRow_made (base := lo) (e := 70) (size := 3) w #[] 0 hlo (by unfold maxLen; omega) rfl
end
section
variable {w w' : World} {lo g n cap : Nat} {xs : List Ar}
theorem OArcs.lt (h : OArcs w lo (.slice (some ⟨g, 0, none⟩) n cap) n xs) : lo ≤ g ∧ g < w.heap.size := h.2.lt g rfl
theorem OArcs.frozen (h : OArcs w lo (.slice (some ⟨g, 0, none⟩) n cap) n xs) (k : Nat) : w.frozen? ⟨g, k, none⟩ = false := h.2.frozenAt k
theorem OArcs.cells (h : OArcs w lo (.slice (some ⟨g, 0, none⟩) n cap) n xs) {k : Nat} {x : Ar} (hk : xs[k]? = some x) : w.cell? ⟨g, k * 3, none⟩ = some (.int .i64 x.1) ∧ w.cell? ⟨g, k * 3 + 1, none⟩ = some (.int .i64 x.2.1) ∧ w.cell? ⟨g, k * 3 + 2, none⟩ = some (.int .i64 x.2.2) := by
  obtain ⟨b, o, e, h1, h2, h3⟩ := h.read.2.2 k x hk
  injection e with e
  injection e with e1 e2
  subst e1
  subst e2
  rw [Nat.zero_add] at h1 h2 h3
  exact ⟨h1, h2, h3⟩
theorem OArcs.set1 (h : OArcs w lo (.slice (some ⟨g, 0, none⟩) n cap) n xs) {k : Nat} {x : Ar} (hk : xs[k]? = some x) (u : Int) : OArcs (w.setCell ⟨g, k * 3, none⟩ (.int .i64 u)) lo (.slice (some ⟨g, 0, none⟩) n cap) n (xs.set k (u, x.2.1, x.2.2)) :=
  ⟨h.1, by rw [← arCells_set1 _ _ _ _ hk]; exact (h.2.stored _ _).1⟩
theorem OArcs.set2 (h : OArcs w lo (.slice (some ⟨g, 0, none⟩) n cap) n xs) {k : Nat} {x : Ar} (hk : xs[k]? = some x) (u : Int) : OArcs (w.setCell ⟨g, k * 3 + 1, none⟩ (.int .i64 u)) lo (.slice (some ⟨g, 0, none⟩) n cap) n (xs.set k (x.1, u, x.2.2)) :=
  ⟨h.1, by rw [← arCells_set2 _ _ _ _ hk]; exact (h.2.stored _ _).1⟩
theorem OArcs.set3 (h : OArcs w lo (.slice (some ⟨g, 0, none⟩) n cap) n xs) {k : Nat} {x : Ar} (hk : xs[k]? = some x) (u : Int) : OArcs (w.setCell ⟨g, k * 3 + 2, none⟩ (.int .i64 u)) lo (.slice (some ⟨g, 0, none⟩) n cap) n (xs.set k (x.1, x.2.1, u)) :=
  ⟨h.1, by rw [← arCells_set3 _ _ _ _ hk]; exact (h.2.stored _ _).1⟩
end
theorem info_arc : (Tryd.prog.info? 70).map (fun i => (i.zero, i.size, i.bytes)) = some (some (.agg #[.int .i64 0, .int .i64 0, .int .i64 0]), 3, 24) := by kernel_rfl

theorem arCells_zeros : ∀ n : Nat, arCells (List.replicate n (0, 0, 0)) = List.replicate (n * 3) (.int .i64 0)
  | 0 => rfl
  | n + 1 => by
    rw [show (n + 1) * 3 = n * 3 + 1 + 1 + 1 by omega]
    simp only [List.replicate_succ, arCells, arCells_zeros n]
theorem toList_made3 (n : Nat) : (madeCells #[.int .i64 0, .int .i64 0, .int .i64 0] (n * 3)).toList = arCells (List.replicate n (0, 0, 0)) := by
  rw [arCells_zeros]
  apply List.ext_getElem?
  intro j
  by_cases hj : j < n * 3
  · have h3 : j % 3 = 0 ∨ j % 3 = 1 ∨ j % 3 = 2 := by omega
    rcases h3 with h | h | h <;> simp [madeCells, hj, h]
  · simp [madeCells, hj]
theorem make_arcs (n : Nat) (hn : n ≤ 1099511627776) (w : World) :
    (Instr.makeSlice 30 (.int .i64 (n : Int)) (.int .i64 (n : Int))).run Tryd.prog w = .ok (.slice (some ⟨w.heap.size, 0, none⟩) n n) (w.alloc (.cells (madeCells #[.int .i64 0, .int .i64 0, .int .i64 0] (n * 3)) 70)) := by
  obtain ⟨i, hi, hzz⟩ := Option.map_eq_some_iff.1 info_arc
  simp only [Prod.mk.injEq] at hzz
  obtain ⟨hz, hs, hb⟩ := hzz
  have hr := run_make (P := Tryd.prog) w 30 70 i _ Tryd.underlying30 hi hz .i64 .i64 n n (by omega) (Int.le_refl _) (by rw [hb]; omega) (by omega)
  simp only [Int.toNat_natCast, hs] at hr
  exact hr
theorem OArcs.made (w : World) (n : Nat) (hn : n ≤ 1099511627776) : OArcs (w.alloc (.cells (madeCells #[.int .i64 0, .int .i64 0, .int .i64 0] (n * 3)) 70)) w.heap.size (.slice (some ⟨w.heap.size, 0, none⟩) n n) n (List.replicate n (0, 0, 0)) := by
  refine ⟨hn, ?_⟩
  have h := World.ownsRow_lit (base := w.heap.size) (e := 70) (size := 3) w (madeCells #[.int .i64 0, .int .i64 0, .int .i64 0] (n * 3)) n (Nat.le_refl _) (by unfold maxLen; omega) (by simp [madeCells])
  rw [toList_made3] at h
  exact h
theorem get_set {α : Type} {xs : List α} {k : Nat} {x y : α} (h : xs[k]? = some x) : (xs.set k y)[k]? = some y := by
  obtain ⟨hk, _⟩ := List.getElem?_eq_some_iff.1 h
  simp [hk]
theorem OArcs.put {w : World} {lo g n cap : Nat} {xs : List Ar} (h : OArcs w lo (.slice (some ⟨g, 0, none⟩) n cap) n xs) {k : Nat} {a : Ar} (hk : xs[k]? = some a) (x y z : Int) :
    OArcs (((w.setCell ⟨g, k * 3, none⟩ (.int .i64 x)).setCell ⟨g, k * 3 + 1, none⟩ (.int .i64 y)).setCell ⟨g, k * 3 + 2, none⟩ (.int .i64 z)) lo (.slice (some ⟨g, 0, none⟩) n cap) n (xs.set k (x, y, z)) := by
  have h1 := h.set1 hk x
  have h2 := h1.set2 (get_set hk) y
  rw [List.set_set] at h2
  have h3 := h2.set3 (get_set hk) z
  rw [List.set_set] at h3
  exact h3
theorem Below.put3 {B : Nat} {a w : World} (h : Below B a w) {g : Nat} (hg : B ≤ g) (k : Nat) (u1 u2 u3 : Value) : Below B a (((w.setCell ⟨g, k * 3, none⟩ u1).setCell ⟨g, k * 3 + 1, none⟩ u2).setCell ⟨g, k * 3 + 2, none⟩ u3) :=
  ((h.setCell (p := ⟨g, _, none⟩) hg u1).setCell (p := ⟨g, _, none⟩) hg u2).setCell (p := ⟨g, _, none⟩) hg u3
theorem grown_put3 {a w : World} {g : Nat} (h : a.grownBy w (some g)) (k : Nat) (u1 u2 u3 : Value) : a.grownBy (((w.setCell ⟨g, k * 3, none⟩ u1).setCell ⟨g, k * 3 + 1, none⟩ u2).setCell ⟨g, k * 3 + 2, none⟩ u3) (some g) :=
  only_setCell (only_setCell (only_setCell h (p := ⟨g, _, none⟩) rfl u1) (p := ⟨g, _, none⟩) rfl u2) (p := ⟨g, _, none⟩) rfl u3
/-- The marks: k, k + 1, .. -/
def marksA (k : Int) (n : Nat) : List Ar := (List.range n).map fun i => (k + 3 * (i : Nat), k + 3 * (i : Nat) + 1, k + 3 * (i : Nat) + 1 + 1)
theorem marksA_len (k : Int) (n : Nat) : (marksA k n).length = n := by simp [marksA]
theorem marksA_get {k : Int} {n i : Nat} (h : i < n) : (marksA k n)[i]? = some (k + 3 * (i : Nat), k + 3 * (i : Nat) + 1, k + 3 * (i : Nat) + 1 + 1) := by simp [marksA, h]
theorem OArcs.setFar {w : World} {lo n : Nat} {v : Value} {xs : List Ar} (h : OArcs w lo v n xs) {p : Addr} (hne : v.ownBlock ≠ some p.block) (u : Value) : OArcs (w.setCell p u) lo v n xs :=
  h.grown (only_setCell (World.grownBy.refl w (some p.block)) rfl u) (.inr hne)
theorem own_ne {g n c b : Nat} (h : g ≠ b) : (Value.slice (some ⟨g, 0, none⟩) n c).ownBlock ≠ some b := by
  intro e
  exact h (by injection e)
end Go.Proofs.YtobmljclokmbcaaDoor

namespace Go.Proofs.YtobmljclokmbcaaDoor
open Go.RowKit
set_option linter.all false
def Blk (w : World) (b : Nat) (t : TypeId) (us : Array Value) : Prop := w.heap[b]? = some (.cells us t (0, 0))
section
variable {w w' : World} {b : Nat} {t : TypeId} {us : Array Value}
theorem Blk.lt (h : Blk w b t us) : b < w.heap.size := (Array.getElem?_eq_some_iff.1 h).1
theorem Blk.cell (h : Blk w b t us) (i : Nat) : w.cell? ⟨b, i, none⟩ = us[i]? := cell_of_row w b i us t (0, 0) h
theorem Blk.frozen (h : Blk w b t us) (i : Nat) : w.frozen? ⟨b, i, none⟩ = false := frozen_of_row w b i us t h
theorem Blk.keep (h : Blk w b t us) (hb : Below w.heap.size w w') : Blk w' b t us := (hb.block b h.lt).trans h
theorem Blk.drewN (h : Blk w b t us) (n : Nat) : Blk (w.drewN n) b t us := h
theorem Blk.alloc (h : Blk w b t us) (o : Obj) : Blk (w.alloc o) b t us := h.keep ((Below.refl _ _).alloc (Nat.le_refl _) o)
theorem Blk.new (w : World) (t : TypeId) (us : Array Value) : Blk (w.alloc (.cells us t)) w.heap.size t us := heap_alloc_new w _
theorem Blk.within {lo hi : Nat} (h : Blk w b t us) (hw : Within lo hi w w') (hb : b < lo ∨ hi ≤ b) : Blk w' b t us := (hw.block b h.lt hb).trans h
theorem Blk.grown {row : Option Nat} (h : Blk w b t us) (hg : w.grownBy w' row) (hb : some b ≠ row) : Blk w' b t us := (hg.block b h.lt hb).trans h
theorem Blk.other (h : Blk w b t us) {p : Addr} (hp : b ≠ p.block) (u : Value) : Blk (w.setCell p u) b t us := (heap_setCell_other w p b u hp).trans h
theorem Blk.set (h : Blk w b t us) (i : Nat) (u : Value) : Blk (w.setCell ⟨b, i, none⟩ u) b t (us.setIfInBounds i u) := heap_setCell_same w b i us t u h
end
section
variable {w : World} {b : Nat} {t : TypeId} {u0 u1 u2 : Value}
theorem Blk.c0 (h : Blk w b t #[u0, u1, u2]) : w.cell? ⟨b, 0, none⟩ = some u0 := h.cell 0
theorem Blk.c1 (h : Blk w b t #[u0, u1, u2]) : w.cell? ⟨b, 1, none⟩ = some u1 := h.cell 1
theorem Blk.c2 (h : Blk w b t #[u0, u1, u2]) : w.cell? ⟨b, 2, none⟩ = some u2 := h.cell 2
end
theorem below_lab {B : Nat} {a w : World} (h : Below B a w) {g : Nat} (hg : B ≤ g) (u0 u1 u2 : Value) : Below B a (((w.setCell ⟨g, 0, none⟩ u0).setCell ⟨g, 1, none⟩ u1).setCell ⟨g, 2, none⟩ u2) :=
  ((h.setCell (p := ⟨g, _, none⟩) hg u0).setCell (p := ⟨g, _, none⟩) hg u1).setCell (p := ⟨g, _, none⟩) hg u2
theorem below1 (w : World) (o : Obj) : Below w.heap.size w (w.alloc o) := (Below.refl _ _).alloc (Nat.le_refl _) o
theorem below2 (w : World) (o p : Obj) : Below w.heap.size w ((w.alloc o).alloc p) := (below1 w o).alloc (by simp) p
theorem below3 (w : World) (o p q : Obj) : Below w.heap.size w (((w.alloc o).alloc p).alloc q) := (below2 w o p).alloc (by simp; omega) q
end Go.Proofs.YtobmljclokmbcaaDoor

namespace Go.Proofs.YtobmljclokmbcaaDoor
open Go.RowKit
set_option linter.all false
def arcB (s l : Int) (x : Ar) : Bool := inR x.1 0 s && (inR x.2.1 0 s && inR x.2.2 0 l)
def ltA (x y : Ar) : Bool := if x.1 ≠ y.1 then decide (x.1 < y.1) else if x.2.2 ≠ y.2.2 then decide (x.2.2 < y.2.2) else decide (x.2.1 < y.2.1)
def behind (x : Ar) : Option Ar → Bool
  | none => true
  | some q => ltA q x
def okFrom (s l : Int) : Option Ar → List Ar → Bool
  | _, [] => true
  | p, x :: r => (arcB s l x && behind x p) && okFrom s l (some x) r
def isLab (L S : Int) (xs : List Ar) : Bool := inR L 1 3 && (inR S 1 12 && okFrom (S - 1) (L - 1) none xs)
def prevOf (xs : List Ar) (k : Nat) : Option Ar := if k = 0 then none else xs[k - 1]?
theorem prevOf_succ {xs : List Ar} {k : Nat} {x : Ar} (h : xs[k]? = some x) : prevOf xs (k + 1) = some x := by
  simp [prevOf, h]
theorem prevOf_pos {xs : List Ar} {k : Nat} (h : 0 < k) : prevOf xs k = xs[k - 1]? := by
  rw [prevOf, if_neg (by omega)]
theorem okFrom_step {s l : Int} {xs : List Ar} {k : Nat} {x : Ar} {b : Bool} (hx : xs[k]? = some x) (h : okFrom s l (prevOf xs k) (xs.drop k) = b) :
    (arcB s l x = false → b = false) ∧ (behind x (prevOf xs k) = false → b = false) ∧ (arcB s l x = true → behind x (prevOf xs k) = true → okFrom s l (prevOf xs (k + 1)) (xs.drop (k + 1)) = b) := by
  rw [drop_of_get hx] at h
  rw [prevOf_succ hx]
  generalize List.drop (k + 1) xs = r at *
  refine ⟨fun e => ?_, fun e => ?_, fun e1 e2 => ?_⟩
  · simpa [okFrom, e] using h.symm
  · simpa [okFrom, e] using h.symm
  · simpa [okFrom, e1, e2] using h
theorem okFrom_end {s l : Int} {xs : List Ar} {k : Nat} {b : Bool} (hk : xs.length ≤ k) (h : okFrom s l (prevOf xs k) (xs.drop k) = b) : b = true := by
  rw [drop_all xs k hk] at h
  exact h.symm
theorem isLab_eq {L S : Int} {xs : List Ar} : (okFrom (wrap64 (S - 1)) (wrap64 (L - 1)) none xs && (inR L 1 3 && inR S 1 12)) = isLab L S xs := by
  cases h1 : inR L 1 3
  · simp [isLab, h1]
  cases h2 : inR S 1 12
  · simp [isLab, h2]
  have a := inR_true h1
  have b := inR_true h2
  rw [wrap_id (by omega), wrap_id (by omega)]
  simp [isLab, h1, h2]
theorem arcB_1 {s l x y z : Int} (h : inR x 0 s = false) : arcB s l (x, y, z) = false := by simp [arcB, h]
theorem arcB_2 {s l x y z : Int} (h : inR y 0 s = false) : arcB s l (x, y, z) = false := by simp [arcB, h]
theorem arcB_3 {s l x y z : Int} (h : inR z 0 l = false) : arcB s l (x, y, z) = false := by simp [arcB, h]
theorem arcB_t {s l x y z : Int} (h1 : inR x 0 s = true) (h2 : inR y 0 s = true) (h3 : inR z 0 l = true) : arcB s l (x, y, z) = true := by simp [arcB, h1, h2, h3]
theorem arcB_get {s l x y z : Int} (h : arcB s l (x, y, z) = true) : (0 ≤ x ∧ x ≤ s) ∧ (0 ≤ y ∧ y ≤ s) ∧ (0 ≤ z ∧ z ≤ l) := by
  simp only [arcB, Bool.and_eq_true] at h
  exact ⟨inR_true h.1, inR_true h.2.1, inR_true h.2.2⟩
theorem okFrom_all {s l : Int} : ∀ {xs : List Ar} {p : Option Ar}, okFrom s l p xs = true → ∀ x ∈ xs, arcB s l x = true
  | [], _, _, _, h => by simp at h
  | y :: r, p, h, x, hx => by
    simp only [okFrom, Bool.and_eq_true] at h
    rcases List.mem_cons.1 hx with rfl | hx
    · exact h.1.1
    · exact okFrom_all h.2 x hx
theorem isLab_get {L S : Int} {xs : List Ar} (h : isLab L S xs = true) : (1 ≤ L ∧ L ≤ 3) ∧ (1 ≤ S ∧ S ≤ 12) ∧ okFrom (S - 1) (L - 1) none xs = true := by
  simp only [isLab, Bool.and_eq_true] at h
  exact ⟨inR_true h.1, inR_true h.2.1, h.2.2⟩
theorem ltA_1 {x y : Ar} (h : x.1 ≠ y.1) : ltA x y = decide (x.1 < y.1) := by rw [ltA, if_pos h]
theorem ltA_2 {x y : Ar} (h : x.1 = y.1) (h2 : x.2.2 ≠ y.2.2) : ltA x y = decide (x.2.2 < y.2.2) := by rw [ltA, if_neg (by simp [h]), if_pos h2]
theorem ltA_3 {x y : Ar} (h : x.1 = y.1) (h2 : x.2.2 = y.2.2) : ltA x y = decide (x.2.1 < y.2.1) := by rw [ltA, if_neg (by simp [h]), if_neg (by simp [h2])]
theorem wrapI (n : Int) : IntKind.i64.wrap n = wrap64 n := by rw [IntKind.wrap_i64]; unfold wrap64; rfl
theorem behind_0 (xs : List Ar) (x : Ar) : behind x (prevOf xs 0) = true := rfl
theorem behind_S {xs : List Ar} {j : Nat} {q x : Ar} (h : xs[j]? = some q) : behind x (prevOf xs (j + 1)) = ltA q x := by rw [prevOf_succ h]; rfl
end Go.Proofs.YtobmljclokmbcaaDoor

namespace Go.Proofs.YtobmljclokmbcaaDoor
open Go.RowKit
set_option linter.all false
def ixFrom (p : Int) : Nat → List Ar → List Int
  | _, [] => []
  | k, x :: r => if x.1 = p then (k : Int) :: ixFrom p (k + 1) r else ixFrom p (k + 1) r
def fromL (p : Int) : List Ar → List Ar
  | [] => []
  | x :: r => if x.1 = p then x :: fromL p r else fromL p r
theorem ix_len (p : Int) : ∀ (xs : List Ar) (k : Nat), (ixFrom p k xs).length = (fromL p xs).length
  | [], _ => rfl
  | x :: r, k => by
    by_cases h : x.1 = p <;> simp [ixFrom, fromL, h, ix_len p r (k + 1)]
theorem fromL_le (p : Int) : ∀ (xs : List Ar), (fromL p xs).length ≤ xs.length
  | [] => Nat.le_refl _
  | x :: r => by
    have := fromL_le p r
    by_cases h : x.1 = p <;> simp [fromL, h] <;> omega
theorem ix_step {p : Int} {xs : List Ar} {k : Nat} {x : Ar} {acc R : List Int} (hx : xs[k]? = some x) (h : acc ++ ixFrom p k (xs.drop k) = R) :
    (x.1 = p → (acc ++ [(k : Int)]) ++ ixFrom p (k + 1) (xs.drop (k + 1)) = R) ∧ (x.1 ≠ p → acc ++ ixFrom p (k + 1) (xs.drop (k + 1)) = R) := by
  rw [drop_of_get hx] at h
  generalize List.drop (k + 1) xs = r at *
  constructor
  · intro e; simpa [ixFrom, e] using h
  · intro e; simpa [ixFrom, e] using h
theorem ix_end {p : Int} {xs : List Ar} {k : Nat} {acc R : List Int} (hk : xs.length ≤ k) (h : acc ++ ixFrom p k (xs.drop k) = R) : acc = R := by
  rw [drop_all xs k hk] at h
  simpa [ixFrom] using h
theorem fr_step {p : Int} {xs : List Ar} {k : Nat} {x : Ar} {acc R : List Ar} (hx : xs[k]? = some x) (h : acc ++ fromL p (xs.drop k) = R) :
    (x.1 = p → (acc ++ [x]) ++ fromL p (xs.drop (k + 1)) = R) ∧ (x.1 ≠ p → acc ++ fromL p (xs.drop (k + 1)) = R) := by
  rw [drop_of_get hx] at h
  generalize List.drop (k + 1) xs = r at *
  constructor
  · intro e; simpa [fromL, e] using h
  · intro e; simpa [fromL, e] using h
theorem fr_end {p : Int} {xs : List Ar} {k : Nat} {acc R : List Ar} (hk : xs.length ≤ k) (h : acc ++ fromL p (xs.drop k) = R) : acc = R := by
  rw [drop_all xs k hk] at h
  simpa [fromL] using h
/-- The index that stands at a place names the arc that stands there. -/
theorem ix_get (p : Int) : ∀ (xs : List Ar) (k i : Nat) (a : Ar), (fromL p xs)[i]? = some a → ∃ t : Nat, (ixFrom p k xs)[i]? = some ((k + t : Nat) : Int) ∧ xs[t]? = some a
  | [], _, _, _, h => by simp [fromL] at h
  | x :: r, k, i, a, h => by
    by_cases hx : x.1 = p
    · rw [fromL, if_pos hx] at h
      rw [ixFrom, if_pos hx]
      match i, h with
      | 0, h => simp at h; subst h; exact ⟨0, by simp, rfl⟩
      | i + 1, h =>
        obtain ⟨t, h1, h2⟩ := ix_get p r (k + 1) i a (by simpa using h)
        exact ⟨t + 1, by simpa [Nat.add_assoc, Nat.add_comm 1] using h1, by simpa using h2⟩
    · rw [fromL, if_neg hx] at h
      rw [ixFrom, if_neg hx]
      obtain ⟨t, h1, h2⟩ := ix_get p r (k + 1) i a h
      exact ⟨t + 1, by simpa [Nat.add_assoc, Nat.add_comm 1] using h1, by simpa using h2⟩
def differ (x : Ar) : Option Ar → Bool
  | none => true
  | some q => !(decide (q.1 = x.1) && decide (q.2.2 = x.2.2))
def resF : Option Ar → List Ar → Bool
  | _, [] => true
  | p, x :: r => differ x p && resF (some x) r
theorem res_step {xs : List Ar} {k : Nat} {x : Ar} {b : Bool} (hx : xs[k]? = some x) (h : resF (prevOf xs k) (xs.drop k) = b) :
    (differ x (prevOf xs k) = false → b = false) ∧ (differ x (prevOf xs k) = true → resF (prevOf xs (k + 1)) (xs.drop (k + 1)) = b) := by
  rw [drop_of_get hx] at h
  rw [prevOf_succ hx]
  generalize List.drop (k + 1) xs = r at *
  refine ⟨fun e => ?_, fun e => ?_⟩
  · simpa [resF, e] using h.symm
  · simpa [resF, e] using h
theorem res_end {xs : List Ar} {k : Nat} {b : Bool} (hk : xs.length ≤ k) (h : resF (prevOf xs k) (xs.drop k) = b) : b = true := by
  rw [drop_all xs k hk] at h
  exact h.symm
theorem res_one (xs : List Ar) : resF (prevOf xs 1) (xs.drop 1) = resF none xs := by
  cases xs with
  | nil => rfl
  | cons x r => simp [resF, prevOf, differ]
theorem differ_0 (xs : List Ar) (x : Ar) : differ x (prevOf xs 0) = true := rfl
theorem differ_S {xs : List Ar} {j : Nat} {q x : Ar} (h : xs[j]? = some q) : differ x (prevOf xs (j + 1)) = !(decide (q.1 = x.1) && decide (q.2.2 = x.2.2)) := by rw [prevOf_succ h]; rfl
def sumsL (S : Nat) (xs : List Ar) : List Int := (List.range S).map fun p => ((fromL (p : Nat) xs).length : Int)
theorem sumsL_len (S : Nat) (xs : List Ar) : (sumsL S xs).length = S := by simp [sumsL]
theorem sumsL_get {S p : Nat} {xs : List Ar} (h : p < S) : (sumsL S xs)[p]? = some ((fromL (p : Nat) xs).length : Int) := by simp [sumsL, h]
def stSums (L S : Int) (xs : List Ar) : List Int := if isLab L S xs then sumsL S.toNat xs else []
def isRes (L S : Int) (xs : List Ar) : Bool := isLab L S xs && resF none xs
def manyF (xs : List Ar) : Nat → Nat → Bool
  | _, 0 => true
  | p, m + 1 => decide (2 ≤ (fromL (p : Nat) xs).length) && manyF xs (p + 1) m
def isEnc (L S : Int) (xs : List Ar) : Bool := isRes L S xs && manyF xs 0 S.toNat
theorem many_step {xs : List Ar} {p m : Nat} {b : Bool} (h : manyF xs p (m + 1) = b) : (¬ 2 ≤ (fromL (p : Nat) xs).length → b = false) ∧ (2 ≤ (fromL (p : Nat) xs).length → manyF xs (p + 1) m = b) := by
  constructor
  · intro e; simpa [manyF, e] using h.symm
  · intro e; simpa [manyF, e] using h
theorem many_get {xs : List Ar} : ∀ {m p q : Nat}, manyF xs p m = true → p ≤ q → q < p + m → 2 ≤ (fromL (q : Nat) xs).length
  | 0, p, q, _, h1, h2 => by omega
  | m + 1, p, q, h, h1, h2 => by
    simp only [manyF, Bool.and_eq_true, decide_eq_true_eq] at h
    by_cases e : p = q
    · subst e; exact h.1
    · exact many_get h.2 (by omega) (by omega)
theorem isEnc_get {L S : Int} {xs : List Ar} (h : isEnc L S xs = true) : isLab L S xs = true ∧ resF none xs = true ∧ ∀ q : Nat, (q : Int) < S → 2 ≤ (fromL (q : Nat) xs).length := by
  simp only [isEnc, isRes, Bool.and_eq_true] at h
  exact ⟨h.1.1, h.1.2, fun q hq => many_get h.2 (Nat.zero_le _) (by omega)⟩
end Go.Proofs.YtobmljclokmbcaaDoor

namespace Go.Proofs.YtobmljclokmbcaaDoor
open Go.RowKit
set_option linter.all false
theorem info_arc_parts : ∃ i, Tryd.prog.info? 70 = some i ∧ i.zero = some (.agg #[.int .i64 0, .int .i64 0, .int .i64 0]) ∧ i.size = 3 ∧ i.bytes = 24 := info_parts info_arc
theorem arcs_oneCell : ∀ (xs : List Ar), ∀ u ∈ arCells xs, u.oneCell' = true
  | [], u, h => by simp [arCells] at h
  | x :: r, u, h => by
    simp only [arCells, List.mem_cons] at h
    rcases h with rfl | rfl | rfl | h
    · rfl
    · rfl
    · rfl
    · exact arcs_oneCell r u h

theorem wp_push_arc {o : Oper} {a : Act} {K0 : Act → World → Prop} {Q : Exit → Act → World → Prop} (W : World) (y : Ar) (s x : Operand)
    (ho : o.op = .call { callee := .builtin .append, args := #[s, x], argTypes := #[30, 30] })
    (lo : Nat) (v : Value) (n : Nat) (xs : List Ar) (hs : a.eval s = v) (h : OArcs W lo v n xs) (hn : n + 1 ≤ 1099511627776) (hlo : lo ≤ W.heap.size)
    (tb : Nat) (htb : tb = W.heap.size) (hx : a.eval x = .slice (some ⟨tb, 0, none⟩) 1 1)
    (K : ∀ v' w', OArcs w' lo v' (n + 1) (xs ++ [y]) → W.grownBy w' v.ownBlock → NewOr W.heap.size v v' → K0 (a.put o.dst v') w') : o.wp Tryd.prog a (W.alloc (.cells #[.int .i64 y.1, .int .i64 y.2.1, .int .i64 y.2.2] 70)) K0 Q := by
  subst htb
  obtain ⟨i0, hi, hz0, hz1, hz2⟩ := info_arc_parts
  have hc : ∀ j u, ([.int .i64 y.1, .int .i64 y.2.1, .int .i64 y.2.2] : List Value)[j]? = some u → (W.alloc (.cells #[.int .i64 y.1, .int .i64 y.2.1, .int .i64 y.2.2] 70)).cell? ((⟨W.heap.size, 0, none⟩ : Addr).add j) = some u := by
    intro j u hj
    rw [Addr.add_lit, Nat.zero_add, (Blk.new W _ _).cell j]
    match j, hj with
    | 0, hj => exact hj
    | 1, hj => exact hj
    | 2, hj => exact hj
    | j + 3, hj => simp at hj
  obtain ⟨v', w', hr, h2, h3, _, h5⟩ := run_append_own_at (P := Tryd.prog) (W.alloc (.cells #[.int .i64 y.1, .int .i64 y.2.1, .int .i64 y.2.2] 70)) lo 30 o.type 70 i0 (.agg #[.int .i64 0, .int .i64 0, .int .i64 0]) 3 24 Tryd.underlying30 hi hz0 hz1 hz2 rfl (by decide) v n _ (h.alloc _).2 ⟨W.heap.size, 0, none⟩ 1 1 [.int .i64 y.1, .int .i64 y.2.1, .int .i64 y.2.2] rfl
    hc (arcs_oneCell [y]) (by unfold maxLen; omega) (by omega) (by simp; omega)
  unfold Oper.wp execOp
  simp only [ho, resolve, invoke, builtin, Sem.run_bind, Sem.run_pure, Result.andThen_ok, List.map_toArray, List.map_cons, List.map_nil, hs, hx, hr]
  refine K v' w' ⟨hn, ?_⟩ ((grown_alloc W _ _).trans h3) ?_
  · rw [arCells_app]; exact h2
  · rcases h5 with h5 | h5
    · exact .inl h5
    · exact .inr ⟨_, h5, by simp⟩

theorem wpList_push_arc {ops : Array Oper} {rest : List Oper} {o : Oper} {a : Act} {Q : Exit → Act → World → Prop} (W : World) (y : Ar) (hgd : o.guard = none) (s x : Operand)
    (ho : o.op = .call { callee := .builtin .append, args := #[s, x], argTypes := #[30, 30] })
    (lo : Nat) (v : Value) (n : Nat) (xs : List Ar) (hs : a.eval s = v) (h : OArcs W lo v n xs) (hn : n + 1 ≤ 1099511627776) (hlo : lo ≤ W.heap.size)
    (tb : Nat) (htb : tb = W.heap.size) (hx : a.eval x = .slice (some ⟨tb, 0, none⟩) 1 1)
    (K : ∀ v' w', OArcs w' lo v' (n + 1) (xs ++ [y]) → W.grownBy w' v.ownBlock → NewOr W.heap.size v v' → wpList Tryd.prog ops Q rest (a.put o.dst v') w') : wpList Tryd.prog ops Q (o :: rest) a (W.alloc (.cells #[.int .i64 y.1, .int .i64 y.2.1, .int .i64 y.2.2] 70)) := by
  refine wpList_plain hgd fun K' hK => ?_
  exact wp_push_arc W y s x ho lo v n xs hs h hn hlo tb htb hx fun v' w' h1 h2 h3 => hK _ _ (K v' w' h1 h2 h3)


set_option maxRecDepth 8000 in
theorem wp_app_arcs {o : Oper} {a : Act} {K0 : Act → World → Prop} {Q : Exit → Act → World → Prop} (w : World) (s x : Operand)
    (ho : o.op = .call { callee := .builtin .append, args := #[s, x], argTypes := #[30, 30] })
    (lo : Nat) (v : Value) (n : Nat) (xs : List Ar) (hs : a.eval s = v) (h : OArcs w lo v n xs)
    (ao : Option Addr) (m c : Nat) (ys : List Ar) (hx : a.eval x = .slice ao m c) (hy : Arcs w ao m ys) (hn : n + m ≤ 1099511627776)
    (hlo : lo ≤ w.heap.size)
    (K : ∀ v' w', OArcs w' lo v' (n + m) (xs ++ ys) → w.grownBy w' v.ownBlock → NewOr w.heap.size v v' → K0 (a.put o.dst v') w') : o.wp Tryd.prog a w K0 Q := by
  obtain ⟨i0, hi, hz0, hz1, hz2⟩ := info_arc_parts
  rcases ao with _ | ad
  · have hm : m = 0 := by
      rcases Nat.eq_zero_or_pos m with h0 | h0
      · exact h0
      · obtain ⟨y, hy'⟩ : ∃ y, ys[0]? = some y := ⟨_, List.getElem?_eq_getElem (by rw [hy.1]; exact h0)⟩
        obtain ⟨b, o', e, _⟩ := hy.2.2 0 y hy'
        cases e
    subst hm
    have hyn : ys = [] := List.eq_nil_of_length_eq_zero hy.1
    subst hyn
    have hrun := run_append_nil_src (ty := o.type) (lo := lo) Tryd.underlying30 hi h.2 c
    unfold Oper.wp execOp
    simp only [ho, resolve, invoke, builtin, Sem.run_bind, Sem.run_pure, Result.andThen_ok, List.map_toArray, List.map_cons, List.map_nil, hs, hx, hrun]
    exact (K v w (by simpa using h) (World.grownBy.refl w _) (.inl rfl))
  · have hcells : ∀ j u, (arCells ys)[j]? = some u → w.cell? (ad.add j) = some u := by
      intro j u hu
      have hj : j < ys.length * 3 := by rw [← arCells_len]; exact (List.getElem?_eq_some_iff.1 hu).1
      obtain ⟨q, hq⟩ : ∃ q, q = j / 3 := ⟨_, rfl⟩
      obtain ⟨y, hy'⟩ : ∃ y, ys[q]? = some y := ⟨_, List.getElem?_eq_getElem (by omega)⟩
      obtain ⟨b, o', e, c1, c2, c3⟩ := hy.2.2 _ y hy'
      obtain ⟨d1, d2, d3⟩ := arCells_get ys _ y hy'
      injection e with e
      subst e
      rw [Addr.add_lit]
      have hj3 : j = q * 3 ∨ j = q * 3 + 1 ∨ j = q * 3 + 2 := by omega
      clear hq
      rcases hj3 with rfl | rfl | rfl
      · rw [← hu, d1]; exact c1
      · rw [← hu, d2]; exact c2
      · rw [← hu, d3]; exact c3
    obtain ⟨v', w', hr, h2, h3, _, h5⟩ := run_append_own_at (P := Tryd.prog) w lo 30 o.type 70 i0 (.agg #[.int .i64 0, .int .i64 0, .int .i64 0]) 3 24 Tryd.underlying30 hi hz0 hz1 hz2 rfl (by decide) v n _ h.2 ad m c (arCells ys) (by rw [arCells_len, hy.1])
      hcells (arcs_oneCell ys) (by unfold maxLen; omega) (by omega) hlo
    unfold Oper.wp execOp
    simp only [ho, resolve, invoke, builtin, Sem.run_bind, Sem.run_pure, Result.andThen_ok, List.map_toArray, List.map_cons, List.map_nil, hs, hx, hr]
    refine K v' w' ⟨hn, ?_⟩ h3 ?_
    · rw [arCells_app]; exact h2
    · rcases h5 with h5 | h5
      · exact .inl h5
      · exact .inr ⟨_, h5, Nat.le_refl _⟩
theorem wpList_app_arcs {ops : Array Oper} {rest : List Oper} {o : Oper} {a : Act} {Q : Exit → Act → World → Prop} (w : World) (hgd : o.guard = none) (s x : Operand)
    (ho : o.op = .call { callee := .builtin .append, args := #[s, x], argTypes := #[30, 30] })
    (lo : Nat) (v : Value) (n : Nat) (xs : List Ar) (hs : a.eval s = v) (h : OArcs w lo v n xs)
    (ao : Option Addr) (m c : Nat) (ys : List Ar) (hx : a.eval x = .slice ao m c) (hy : Arcs w ao m ys) (hn : n + m ≤ 1099511627776)
    (hlo : lo ≤ w.heap.size)
    (K : ∀ v' w', OArcs w' lo v' (n + m) (xs ++ ys) → w.grownBy w' v.ownBlock → NewOr w.heap.size v v' → wpList Tryd.prog ops Q rest (a.put o.dst v') w') : wpList Tryd.prog ops Q (o :: rest) a w := by
  refine wpList_plain hgd fun K' hK => ?_
  exact wp_app_arcs w s x ho lo v n xs hs h ao m c ys hx hy hn hlo fun v' w' h1 h2 h3 => hK _ _ (K v' w' h1 h2 h3)

/-- A labelled graph that grows: its block b, the result's block r. -/
structure Bld (w : World) (lo r b : Nat) (L S : Int) (v : Value) (xs : List Ar) : Prop where
  kb : Blk w b 32 #[.int .i64 L, .int .i64 S, v]
  kr : Blk w r 32 #[.int .i64 0, .int .i64 0, .slice none 0 0]
  o : OArcs w lo v xs.length xs
  nb : v.ownBlock ≠ some b
  nr : v.ownBlock ≠ some r
  ne : r ≠ b
  lb : lo ≤ b
  lr : lo ≤ r
section
variable {w w1 : World} {lo r b k : Nat} {L S : Int} {v v1 : Value} {xs ys : List Ar}
theorem Bld.keep (h : Bld w lo r b L S v xs) (hb : Below w.heap.size w w1) : Bld w1 lo r b L S v xs := ⟨h.kb.keep hb, h.kr.keep hb, h.o.keep hb, h.nb, h.nr, h.ne, h.lb, h.lr⟩
theorem Bld.grownB (h : Bld w lo r b L S v xs) (hg : w.grownBy w1 v.ownBlock) : Blk w1 b 32 #[.int .i64 L, .int .i64 S, v] := h.kb.grown hg (Ne.symm h.nb)
theorem NewOr.away {s : Nat} (hn : NewOr s v v1) {c : Nat} (h : v.ownBlock ≠ some c) (hc : c < s) : v1.ownBlock ≠ some c := by
  intro e
  rcases hn with h1 | ⟨d, h1, h2⟩
  · exact h (h1 ▸ e)
  · rw [h1] at e
    injection e with e
    omega
theorem Bld.pushed (h : Bld w lo r b L S v xs) (ho : OArcs w1 lo v1 (xs.length + k) (xs ++ ys)) (hk : ys.length = k) (hg : w.grownBy w1 v.ownBlock) (hn : NewOr w.heap.size v v1) : Bld (w1.setCell ⟨b, 2, none⟩ v1) lo r b L S v1 (xs ++ ys) := by
  have nb := hn.away h.nb h.kb.lt
  have nr := hn.away h.nr h.kr.lt
  refine ⟨?_, ?_, ?_, nb, nr, h.ne, h.lb, h.lr⟩
  · exact (h.grownB hg).set 2 v1
  · exact (h.kr.grown hg (Ne.symm h.nr)).other h.ne v1
  · have e : (xs ++ ys).length = xs.length + k := by rw [List.length_append, hk]
    rw [e]
    exact ho.setFar nb v1
theorem Bld.belowP {a : World} (h : Bld w lo r b L S v xs) (hb : Below lo a w) (hg : w.grownBy w1 v.ownBlock) (hl : lo ≤ w.heap.size) (u : Value) : Below lo a (w1.setCell ⟨b, 2, none⟩ u) :=
  (hb.grown hg hl fun c hc => (h.o.ownlt c hc).1).setCell (p := ⟨b, 2, none⟩) h.lb u
end
end Go.Proofs.YtobmljclokmbcaaDoor

namespace Go.Proofs.YtobmljclokmbcaaDoor
open Go.RowKit
set_option linter.all false
set_option maxHeartbeats 1600000 in
theorem sBefore_any (x y z a b c : Int) (w : World) : Calls Tryd.prog 97 #[.agg #[.int .i64 x, .int .i64 y, .int .i64 z], .agg #[.int .i64 a, .int .i64 b, .int .i64 c]] w fun e w' => e = .returned (.bool (ltA (x, y, z) (a, b, c))) ∧ Below w.heap.size w w' := by
  by_cases h1 : x = a
  · have e1 : (x != a) = false := by simp [h1]
    by_cases h2 : z = c
    · have e2 : (z != c) = false := by simp [h2]
      have HE := Lib.hid (ltA_3 (x := (x, y, z)) (y := (a, b, c)) h1 h2)
      clear h1 h2
      go_enter Tryd.func97, Tryd.ntmps97
      go_wp2_with fail
      go_ret
      exact ⟨ret_bool HE.out.symm, below2 _ _ _⟩
    · have e2 : (z != c) = true := by simp [h2]
      have HE := Lib.hid (ltA_2 (x := (x, y, z)) (y := (a, b, c)) h1 h2)
      clear h1 h2
      go_enter Tryd.func97, Tryd.ntmps97
      go_wp2_with fail
      go_ret
      exact ⟨ret_bool HE.out.symm, below2 _ _ _⟩
  · have e1 : (x != a) = true := by simp [h1]
    have HE := Lib.hid (ltA_1 (x := (x, y, z)) (y := (a, b, c)) h1)
    clear h1
    go_enter Tryd.func97, Tryd.ntmps97
    go_wp2_with fail
    go_ret
    exact ⟨ret_bool HE.out.symm, below2 _ _ _⟩
end Go.Proofs.YtobmljclokmbcaaDoor

namespace Go.Proofs.YtobmljclokmbcaaDoor
open Go.RowKit
set_option linter.all false
theorem isRange_any (d k : Int) (w : World) : Calls Tryd.prog 48 #[.int .i64 d, .int .i64 k] w fun e w' => e = .returned (.bool (fitsR d k)) ∧ w = w' := by
  by_cases h1 : 0 ≤ d
  · have d1 : decide (0 ≤ d) = true := decide_eq_true h1
    by_cases h2 : d ≤ k
    · have d2 : decide (d ≤ k) = true := decide_eq_true h2
      have HE : Hid (fitsR d k = decide (k ≤ 7)) := by show _ = _; simp [fitsR, h1, h2]
      clear h1 h2
      go_enter Tryd.func48, Tryd.ntmps48
      go_wp2_with fail
      go_ret
      exact ⟨ret_bool HE.out.symm, rfl⟩
    · have d2 : decide (d ≤ k) = false := decide_eq_false h2
      have HE : Hid (fitsR d k = false) := by show _ = _; simp [fitsR, h2]
      clear h1 h2
      go_enter Tryd.func48, Tryd.ntmps48
      go_wp2_with fail
      go_ret
      exact ⟨ret_bool HE.out.symm, rfl⟩
  · have d1 : decide (0 ≤ d) = false := decide_eq_false h1
    have HE : Hid (fitsR d k = false) := by show _ = _; simp [fitsR, h1]
    clear h1
    go_enter Tryd.func48, Tryd.ntmps48
    go_wp2_with fail
    go_ret
    exact ⟨ret_bool HE.out.symm, rfl⟩
end Go.Proofs.YtobmljclokmbcaaDoor

namespace Go.Proofs.YtobmljclokmbcaaDoor
open Go.RowKit
set_option linter.all false
def runA (d k : Nat) : Nat → List Ar
  | 0 => []
  | n + 1 => runA d k n ++ ((if n < k then [((n : Int), (n : Int) + 1, 0)] else []) ++ (if d ≤ n then [((n : Int), 0, 1)] else []))
def runX (d k : Int) : List Ar := if fitsR d k then runA d.toNat k.toNat (k.toNat + 1) else []
def runS (d k : Int) : Int := if fitsR d k then k + 1 else 0
def runL (d k : Int) : Int := if fitsR d k then 2 else 0
theorem runA_len (d k : Nat) : ∀ n, (runA d k n).length ≤ 2 * n
  | 0 => Nat.le_refl _
  | n + 1 => by
    have := runA_len d k n
    simp only [runA, List.length_append]
    by_cases h1 : n < k <;> by_cases h2 : d ≤ n <;> simp [h1, h2] <;> omega
theorem runA_two {d k n : Nat} (h1 : n < k) (h2 : d ≤ n) : runA d k (n + 1) = (runA d k n ++ [((n : Int), (n : Int) + 1, 0)]) ++ [((n : Int), 0, 1)] := by simp [runA, h1, h2]
theorem runA_one {d k n : Nat} (h1 : n < k) (h2 : ¬ d ≤ n) : runA d k (n + 1) = runA d k n ++ [((n : Int), (n : Int) + 1, 0)] := by simp [runA, h1, h2]
theorem runA_last {d k n : Nat} (h1 : ¬ n < k) (h2 : d ≤ n) : runA d k (n + 1) = runA d k n ++ [((n : Int), 0, 1)] := by simp [runA, h1, h2]
end Go.Proofs.YtobmljclokmbcaaDoor

namespace Go.Proofs.YtobmljclokmbcaaDoor
open Go.RowKit
set_option linter.all false
def mulM (a b : List (List Int)) : Option (List (List Int)) := if isMat a && (isMat b && (decide (a.length = b.length) && isMat (mulT a b b.length))) then some (mulT a b b.length) else none
theorem mulM_none1 {a b : List (List Int)} (h : isMat a = false) : mulM a b = none := by simp [mulM, h]
theorem mulM_none2 {a b : List (List Int)} (h : isMat b = false) : mulM a b = none := by simp [mulM, h]
theorem mulM_none3 {a b : List (List Int)} (h : a.length ≠ b.length) : mulM a b = none := by simp [mulM, h]
theorem mulM_none4 {a b : List (List Int)} (h : isMat (mulT a b b.length) = false) : mulM a b = none := by simp [mulM, h]
theorem mulM_some {a b : List (List Int)} (h1 : isMat a = true) (h2 : isMat b = true) (h3 : a.length = b.length) (h4 : isMat (mulT a b b.length) = true) : mulM a b = some (mulT a b b.length) := by
  unfold mulM; rw [h1, h2, h4]; simp [h3]
theorem mulM_mat {a b c : List (List Int)} (h : mulM a b = some c) : isMat c = true ∧ c.length = b.length := by
  unfold mulM at h
  split at h
  · rename_i h1
    injection h with h
    subst h
    simp only [Bool.and_eq_true, decide_eq_true_eq] at h1
    exact ⟨h1.2.2.2, by rw [mulT_len]; exact h1.2.2.1⟩
  · cases h
end Go.Proofs.YtobmljclokmbcaaDoor

namespace Go.Proofs.YtobmljclokmbcaaDoor
open Go.RowKit
set_option linter.all false
def iterM (m : List (List Int)) : Nat → List (List Int) → Option (List (List Int))
  | 0, acc => some acc
  | k + 1, acc => match mulM acc m with
    | none => none
    | some p => iterM m k p
def powM (m : List (List Int)) (n : Int) : Option (List (List Int)) := if isMat m && inR n 0 30 then iterM m n.toNat (oneT m.length) else none
theorem iterM_none {m acc : List (List Int)} {k : Nat} (h : mulM acc m = none) : iterM m (k + 1) acc = none := by simp [iterM, h]
theorem iterM_some {m acc p : List (List Int)} {k : Nat} (h : mulM acc m = some p) : iterM m (k + 1) acc = iterM m k p := by simp [iterM, h]
theorem powM_none1 {m : List (List Int)} {n : Int} (h : isMat m = false) : powM m n = none := by simp [powM, h]
theorem powM_none2 {m : List (List Int)} {n : Int} (h : inR n 0 30 = false) : powM m n = none := by simp [powM, h]
theorem powM_iter {m : List (List Int)} {n : Int} (h1 : isMat m = true) (h2 : inR n 0 30 = true) : powM m n = iterM m n.toNat (oneT m.length) := by simp [powM, h1, h2]
theorem oneT_mat {n : Nat} (h1 : 1 ≤ n) (h9 : n ≤ 9) : isMat (oneT n) = true := by
  have h : inR (oneT n).length 1 9 = true := inR_mk (by rw [oneT_len]; omega)
  unfold isMat
  rw [h, Bool.and_true, oneT_len]
  simp only [tabIn, oneT, List.all_map, List.all_eq_true, List.mem_range]
  intro i _
  simp only [Function.comp, oneRow_len, decide_true, Bool.true_and, allIn, List.all_eq_true]
  intro x hx
  rcases List.mem_or_eq_of_mem_set hx with hx | hx
  · have := List.eq_of_mem_replicate hx
    subst this
    decide
  · subst hx
    decide
theorem iterM_mat {m : List (List Int)} : ∀ (k : Nat) (acc p : List (List Int)), isMat acc = true → acc.length = m.length → iterM m k acc = some p → isMat p = true ∧ p.length = m.length
  | 0, acc, p, h1, h2, h => by
    injection h with h
    subst h
    exact ⟨h1, h2⟩
  | k + 1, acc, p, _, _, h => by
    cases hq : mulM acc m with
    | none => rw [iterM_none hq] at h; cases h
    | some q =>
      rw [iterM_some hq] at h
      have := mulM_mat hq
      exact iterM_mat k q p this.1 this.2 h
theorem powM_mat {m p : List (List Int)} {n : Int} (h : powM m n = some p) : isMat m = true ∧ isMat p = true ∧ p.length = m.length := by
  cases h1 : isMat m with
  | false => rw [powM_none1 h1] at h; cases h
  | true =>
    cases h2 : inR n 0 30 with
    | false => rw [powM_none2 h2] at h; cases h
    | true =>
      rw [powM_iter h1 h2] at h
      have hl := isMat_len h1
      have := iterM_mat _ _ _ (oneT_mat hl.1 hl.2) (oneT_len _) h
      exact ⟨rfl, this⟩
end Go.Proofs.YtobmljclokmbcaaDoor

namespace Go.Proofs.YtobmljclokmbcaaDoor
open Go.RowKit
set_option linter.all false
def trc : Nat → Int → List (List Int) → Int
  | _, a, [] => a
  | k, a, r :: rs => trc (k + 1) (wrap64 (a + r.getD k 0)) rs
def closed (m : List (List Int)) (n : Int) : Int :=
  if inR n 1 30 then (match powM m n with
    | none => -1
    | some p => trc 0 0 p) else -1
theorem closed_n {m : List (List Int)} {n : Int} (h : inR n 1 30 = false) : closed m n = -1 := by simp [closed, h]
theorem closed_none {m : List (List Int)} {n : Int} (h : powM m n = none) : closed m n = -1 := by simp [closed, h]
theorem closed_some {m p : List (List Int)} {n : Int} (h1 : inR n 1 30 = true) (h : powM m n = some p) : closed m n = trc 0 0 p := by simp [closed, h, h1]
theorem trc_step {p : List (List Int)} {k : Nat} {a R x : Int} {r : List Int} (hk : p[k]? = some r) (hx : r[k]? = some x) (h : trc k a (p.drop k) = R) : trc (k + 1) (wrap64 (a + x)) (p.drop (k + 1)) = R := by
  rw [drop_of_get hk] at h
  simpa [trc, List.getD, hx] using h
end Go.Proofs.YtobmljclokmbcaaDoor

namespace Go.Proofs.YtobmljclokmbcaaDoor
open Go.RowKit
set_option linter.all false
def mb : Nat → Nat → Nat → Int → Int
  | 0, _, _, o => o
  | f + 1, n, p, o => if p ≤ n then (if n % p = 0 then (if n / p % p = 0 then 0 else mb f (n / p) (p + 1) (-o)) else mb f n (p + 1) o) else o
def moeb (n : Int) : Int := if inR n 1 1000 then mb 999 n.toNat 2 1 else 0
theorem mb_stop {f n p : Nat} {o : Int} (h : n < p) : mb f n p o = o := by
  cases f with
  | zero => rfl
  | succ f => simp [mb, show ¬ p ≤ n by omega]
theorem mb_step {n p : Nat} {o M : Int} (hn : n ≤ 1000) (hp : p ≤ n) (h : Hid (mb (1001 - p) n p o = M)) :
    (n % p ≠ 0 → Hid (mb (1001 - (p + 1)) n (p + 1) o = M)) ∧ (n % p = 0 → n / p % p = 0 → M = 0) ∧ (n % p = 0 → n / p % p ≠ 0 → Hid (mb (1001 - (p + 1)) (n / p) (p + 1) (-o) = M)) := by
  have e : 1001 - p = (1001 - (p + 1)) + 1 := by omega
  have h := h.out
  rw [e] at h
  simp only [mb, if_pos hp] at h
  refine ⟨fun h1 => ?_, fun h1 h2 => ?_, fun h1 h2 => ?_⟩
  · rw [if_neg h1] at h; exact h
  · rw [if_pos h1, if_pos h2] at h; exact h.symm
  · rw [if_pos h1, if_neg h2] at h; exact h
theorem modI (n p : Nat) : (n : Int) % (p : Int) = ((n % p : Nat) : Int) := by simp
theorem divmodI (n p : Nat) : (n : Int) / (p : Int) % (p : Int) = ((n / p % p : Nat) : Int) := by simp
theorem natz (k : Nat) : (((k : Nat) : Int) == 0) = decide (k = 0) := by
  by_cases h : k = 0
  · subst h; rfl
  · simp [h]
theorem modI_z {n p : Nat} (h : n % p = 0) : ((n : Int) % (p : Int) != 0) = false := by rw [modI, bne, natz, h]; rfl
theorem modI_nz {n p : Nat} (h : n % p ≠ 0) : ((n : Int) % (p : Int) != 0) = true := by rw [modI, bne, natz, decide_eq_false h]; rfl
theorem modE_z {n p : Nat} (h : n % p = 0) : ((n : Int) % (p : Int) == 0) = true := by rw [modI, natz, h]; rfl
theorem modE_nz {n p : Nat} (h : n % p ≠ 0) : ((n : Int) % (p : Int) == 0) = false := by rw [modI, natz, decide_eq_false h]
theorem divmodI_z {n p : Nat} (h : n / p % p = 0) : ((n : Int) / (p : Int) % (p : Int) == 0) = true := by rw [divmodI, natz, h]; rfl
theorem divmodI_nz {n p : Nat} (h : n / p % p ≠ 0) : ((n : Int) / (p : Int) % (p : Int) == 0) = false := by rw [divmodI, natz, decide_eq_false h]
theorem divI (n p : Nat) : (n : Int) / (p : Int) = ((n / p : Nat) : Int) := by simp
theorem divI_bounds (n p : Nat) : 0 ≤ (n : Int) / (p : Int) ∧ (n : Int) / (p : Int) ≤ n := by
  rw [divI]
  exact ⟨Int.natCast_nonneg _, Int.ofNat_le.2 (Nat.div_le_self n p)⟩
end Go.Proofs.YtobmljclokmbcaaDoor

namespace Go.Proofs.YtobmljclokmbcaaDoor
open Go.RowKit
set_option linter.all false
def lpLoop (m : List (List Int)) (n : Nat) : Nat → Nat → Int → Int
  | 0, _, s => s
  | f + 1, d, s => lpLoop m n f (d + 1) (if n % d = 0 then wrap64 (s + wrap64 (moeb ((n : Int) / (d : Int)) * closed m d)) else s)
def lp (m : List (List Int)) (n : Int) : Int := if 12 < n then -1 else if closed m n < 0 then -1 else lpLoop m n.toNat n.toNat 1 0
theorem lp_step {m : List (List Int)} {n d : Nat} {s R : Int} (hd : d ≤ n) (h : Hid (lpLoop m n (n + 1 - d) d s = R)) :
    (n % d = 0 → Hid (lpLoop m n (n + 1 - (d + 1)) (d + 1) (wrap64 (s + wrap64 (moeb ((n : Int) / (d : Int)) * closed m d))) = R)) ∧ (n % d ≠ 0 → Hid (lpLoop m n (n + 1 - (d + 1)) (d + 1) s = R)) := by
  have h := h.out
  rw [show n + 1 - d = (n + 1 - (d + 1)) + 1 by omega] at h
  simp only [lpLoop] at h
  constructor
  · intro e; rw [if_pos e] at h; exact h
  · intro e; rw [if_neg e] at h; exact h
theorem closed_range {m : List (List Int)} {n : Int} (h : ¬ closed m n < 0) : 1 ≤ n ∧ n ≤ 30 := by
  cases h1 : inR n 1 30
  · rw [closed_n h1] at h; omega
  · exact inR_true h1
end Go.Proofs.YtobmljclokmbcaaDoor

namespace Go.Proofs.YtobmljclokmbcaaDoor
open Go.RowKit
set_option linter.all false
def orbL (m : List (List Int)) : Nat → Nat → List Int → List Int
  | 0, _, acc => acc
  | c + 1, k, acc => if lp m k < 0 then [] else orbL m c (k + 1) (acc ++ [lp m k])
def orbV (m : List (List Int)) (n : Int) : List Int := if inR n 1 10 then orbL m n.toNat 1 [] else []
theorem orbL_len (m : List (List Int)) : ∀ (c k : Nat) (acc : List Int), orbL m c k acc = [] ∨ (orbL m c k acc).length = acc.length + c
  | 0, _, acc => .inr rfl
  | c + 1, k, acc => by
    unfold orbL
    split
    · exact .inl rfl
    · rcases orbL_len m c (k + 1) (acc ++ [lp m k]) with h | h
      · exact .inl h
      · right; rw [h]; simp; omega
theorem orbV_len (m : List (List Int)) (n : Int) : orbV m n = [] ∨ (orbV m n).length = n.toNat := by
  unfold orbV
  split
  · have := orbL_len m n.toNat 1 []
    simpa using this
  · exact .inl rfl
theorem orb_step {m : List (List Int)} {n k : Nat} {ys R : List Int} (hk : k ≤ n) (h : Hid (orbL m (n + 1 - k) k ys = R)) : (lp m k < 0 → R = []) ∧ (¬ lp m k < 0 → Hid (orbL m (n + 1 - (k + 1)) (k + 1) (ys ++ [lp m k]) = R)) := by
  have h := h.out
  rw [show n + 1 - k = (n + 1 - (k + 1)) + 1 by omega] at h
  simp only [orbL] at h
  constructor
  · intro e; rw [if_pos e] at h; exact h.symm
  · intro e; rw [if_neg e] at h; exact h
def fitL : List Int → List Int → Bool
  | x :: xs, y :: ys => if y < x then false else fitL xs ys
  | _, _ => true
def fits (a b : List (List Int)) (n : Int) : Bool := fitL (orbV a n) (orbV b n) && (decide (0 < (orbV a n).length) && decide (0 < (orbV b n).length))
theorem fitL_step {xs ys : List Int} {k : Nat} {x y : Int} {R : Bool} (hx : xs[k]? = some x) (hy : ys[k]? = some y) (h : fitL (xs.drop k) (ys.drop k) = R) : (y < x → R = false) ∧ (¬ y < x → fitL (xs.drop (k + 1)) (ys.drop (k + 1)) = R) := by
  rw [drop_of_get hx, drop_of_get hy] at h
  simp only [fitL] at h
  constructor
  · intro e; rw [if_pos e] at h; exact h.symm
  · intro e; rw [if_neg e] at h; exact h
theorem fitL_end {xs ys : List Int} {k : Nat} {R : Bool} (hk : xs.length ≤ k ∨ ys.length ≤ k) (h : fitL (xs.drop k) (ys.drop k) = R) : R = true := by
  rcases hk with hk | hk
  · rw [drop_all xs k hk] at h; simpa [fitL] using h.symm
  · rw [drop_all ys k hk] at h
    cases hx : xs.drop k <;> rw [hx] at h <;> simpa [fitL] using h.symm
def fgI : Nat → List Int → List Int → Int
  | k, x :: xs, y :: ys => if y < x then (k : Int) else fgI (k + 1) xs ys
  | _, _, _ => -1
theorem fgI_neg : ∀ (xs ys : List Int) (k : Nat), decide (fgI k xs ys < 0) = fitL xs ys
  | [], ys, k => by cases ys <;> rfl
  | x :: xs, [], k => rfl
  | x :: xs, y :: ys, k => by
    unfold fgI fitL
    split
    · have : ¬ ((k : Int) < 0) := by omega
      simp [this]
    · exact fgI_neg xs ys (k + 1)
theorem fgI_step {xs ys : List Int} {k : Nat} {x y R : Int} (hx : xs[k]? = some x) (hy : ys[k]? = some y) (h : fgI k (xs.drop k) (ys.drop k) = R) : (y < x → R = (k : Int)) ∧ (¬ y < x → fgI (k + 1) (xs.drop (k + 1)) (ys.drop (k + 1)) = R) := by
  rw [drop_of_get hx, drop_of_get hy] at h
  simp only [fgI] at h
  constructor
  · intro e; rw [if_pos e] at h; exact h.symm
  · intro e; rw [if_neg e] at h; exact h
theorem fgI_end {xs ys : List Int} {k : Nat} {R : Int} (hk : xs.length ≤ k) (h : fgI k (xs.drop k) (ys.drop k) = R) : R = -1 := by
  rw [drop_all xs k hk] at h
  simpa [fgI] using h.symm
end Go.Proofs.YtobmljclokmbcaaDoor

namespace Go.Proofs.YtobmljclokmbcaaDoor
open Go.RowKit
set_option linter.all false
/-- The paths of a length from a vertex to itself. -/
def rooted (m : List (List Int)) (i n : Int) : Int :=
  if isMat m && (inR i 0 (m.length - 1) && inR n 1 30) then (match powM m n with
    | none => -1
    | some p => (p.getD i.toNat []).getD i.toNat 0) else -1
theorem rooted_mat {m : List (List Int)} {i n : Int} (h : isMat m = false) : rooted m i n = -1 := by simp [rooted, h]
theorem rooted_i {m : List (List Int)} {i n : Int} (h : inR i 0 (m.length - 1) = false) : rooted m i n = -1 := by simp [rooted, h]
theorem rooted_n {m : List (List Int)} {i n : Int} (h : inR n 1 30 = false) : rooted m i n = -1 := by simp [rooted, h]
theorem rooted_none {m : List (List Int)} {i n : Int} (h : powM m n = none) : rooted m i n = -1 := by simp [rooted, h]
theorem rooted_some {m p r : List (List Int)} {i : Nat} {n x : Int} {q : List Int} (h1 : isMat m = true) (h2 : inR (i : Int) 0 (m.length - 1) = true) (h3 : inR n 1 30 = true) (h : powM m n = some p) (hq : p[i]? = some q) (hx : q[i]? = some x) : rooted m i n = x := by
  simp [rooted, h1, h2, h3, h, List.getD, hq, hx]
end Go.Proofs.YtobmljclokmbcaaDoor

namespace Go.Proofs.YtobmljclokmbcaaDoor
open Go.RowKit
set_option linter.all false
def Sm : Nat → (Nat → Int) → Int
  | 0, _ => 0
  | n + 1, f => Sm n f + f n
theorem Sm_congr : ∀ (n : Nat) (f g : Nat → Int), (∀ j, j < n → f j = g j) → Sm n f = Sm n g
  | 0, _, _, _ => rfl
  | n + 1, f, g, h => by
    unfold Sm
    rw [Sm_congr n f g (fun j hj => h j (by omega)), h n (by omega)]
theorem Sm_add : ∀ (n : Nat) (f g : Nat → Int), Sm n (fun j => f j + g j) = Sm n f + Sm n g
  | 0, _, _ => rfl
  | n + 1, f, g => by
    unfold Sm
    rw [Sm_add n f g]
    dsimp only
    omega
theorem Sm_mul : ∀ (n : Nat) (c : Int) (f : Nat → Int), Sm n (fun j => c * f j) = c * Sm n f
  | 0, c, _ => by simp [Sm]
  | n + 1, c, f => by
    unfold Sm
    rw [Sm_mul n c f, Int.mul_add]
theorem Sm_zero : ∀ (n : Nat), Sm n (fun _ => 0) = 0
  | 0 => rfl
  | n + 1 => by unfold Sm; rw [Sm_zero n]; rfl
theorem Sm_comm : ∀ (n m : Nat) (f : Nat → Nat → Int), Sm n (fun j => Sm m (fun t => f j t)) = Sm m (fun t => Sm n (fun j => f j t))
  | 0, m, f => by simp only [Sm]; rw [Sm_zero]
  | n + 1, m, f => by
    show Sm n (fun j => Sm m (fun t => f j t)) + Sm m (fun t => f n t) = Sm m (fun t => Sm n (fun j => f j t) + f n t)
    rw [Sm_add, Sm_comm n m f]
theorem Sm_first : ∀ (n : Nat) (f : Nat → Int), Sm (n + 1) f = f 0 + Sm n (fun j => f (j + 1))
  | 0, f => by simp [Sm]
  | n + 1, f => by
    show Sm (n + 1) f + f (n + 1) = f 0 + (Sm n (fun j => f (j + 1)) + f (n + 1))
    rw [Sm_first n f]
    omega
theorem Sm_one : ∀ (n i : Nat) (g : Nat → Int), i < n → Sm n (fun j => (if j = i then 1 else 0) * g j) = g i
  | 0, i, g, h => by omega
  | n + 1, i, g, h => by
    unfold Sm
    by_cases e : n = i
    · subst e
      have : Sm n (fun j => (if j = n then 1 else 0) * g j) = Sm n (fun _ => 0) := Sm_congr n _ _ (fun j hj => by rw [if_neg (by omega)]; simp)
      rw [this, Sm_zero]
      dsimp only
      rw [if_pos rfl]
      omega
    · rw [Sm_one n i g (by omega)]
      dsimp only
      rw [if_neg e]
      omega
section
variable (N i : Nat) (A : Nat → Nat → Int)
/-- The row of i in the power k. -/
def TT : Nat → Nat → Int
  | 0, j => if j = i then 1 else 0
  | k + 1, l => Sm N (fun j => TT k j * A j l)
/-- Paths of k + 1 arcs from i that have not yet come back ahead of their end. -/
def RR : Nat → Nat → Int
  | 0, j => A i j
  | k + 1, l => Sm N (fun j => (if j = i then 0 else RR k j) * A j l)
def FF (k : Nat) : Int := RR N i A k i
theorem TT_one (hi : i < N) (l : Nat) : TT N i A 1 l = A i l := Sm_one N i (fun j => A j l) hi
theorem RR_split (hi : i < N) (k l : Nat) : Sm N (fun j => RR N i A k j * A j l) = RR N i A (k + 1) l + FF N i A k * A i l := by
  have h1 : Sm N (fun j => RR N i A k j * A j l) = Sm N (fun j => (if j = i then 0 else RR N i A k j) * A j l + (if j = i then 1 else 0) * (RR N i A k i * A j l)) := by
    refine Sm_congr N _ _ (fun j _ => ?_)
    by_cases e : j = i
    · subst e; simp
    · simp [e]
  rw [h1, Sm_add, Sm_one N i (fun j => RR N i A k i * A j l) hi]
  rfl
/-- All rooted paths are sums over the place of their first return. -/
theorem renew (hi : i < N) : ∀ (k l : Nat), TT N i A (k + 1) l = RR N i A k l + Sm k (fun t => FF N i A t * TT N i A (k - t) l)
  | 0, l => by
    rw [TT_one N i A hi l]
    simp [Sm, RR]
  | k + 1, l => by
    have ih := renew hi k
    show Sm N (fun j => TT N i A (k + 1) j * A j l) = _
    have h1 : Sm N (fun j => TT N i A (k + 1) j * A j l) = Sm N (fun j => RR N i A k j * A j l + Sm k (fun t => FF N i A t * (TT N i A (k - t) j * A j l))) := by
      refine Sm_congr N _ _ (fun j _ => ?_)
      rw [ih j, Int.add_mul]
      congr 1
      rw [Int.mul_comm, ← Sm_mul]
      refine Sm_congr k _ _ (fun t _ => ?_)
      rw [Int.mul_left_comm, Int.mul_comm (A j l)]
    rw [h1, Sm_add, RR_split N i A hi k l, Sm_comm]
    have h2 : Sm k (fun t => Sm N (fun j => FF N i A t * (TT N i A (k - t) j * A j l))) = Sm k (fun t => FF N i A t * TT N i A (k + 1 - t) l) := by
      refine Sm_congr k _ _ (fun t ht => ?_)
      rw [Sm_mul, show k + 1 - t = (k - t) + 1 by omega]
      rfl
    rw [h2]
    show _ = RR N i A (k + 1) l + (Sm k (fun t => FF N i A t * TT N i A (k + 1 - t) l) + FF N i A k * TT N i A (k + 1 - k) l)
    rw [show k + 1 - k = 1 by omega, TT_one N i A hi l]
    omega
end
/-- Two numbers that a machine word does not tell apart. -/
def Cg (x y : Int) : Prop := ∃ k : Int, x = y + k * 18446744073709551616
theorem Cg.refl (x : Int) : Cg x x := ⟨0, by omega⟩
theorem Cg.of_eq {x y : Int} (h : x = y) : Cg x y := h ▸ Cg.refl x
theorem Cg.symm {x y : Int} (h : Cg x y) : Cg y x := by obtain ⟨k, h⟩ := h; exact ⟨-k, by omega⟩
theorem Cg.trans {x y z : Int} (h : Cg x y) (g : Cg y z) : Cg x z := by
  obtain ⟨k, h⟩ := h
  obtain ⟨l, g⟩ := g
  exact ⟨k + l, by omega⟩
theorem Cg.add {x y a b : Int} (h : Cg x y) (g : Cg a b) : Cg (x + a) (y + b) := by
  obtain ⟨k, h⟩ := h
  obtain ⟨l, g⟩ := g
  exact ⟨k + l, by omega⟩
theorem Cg.sub {x y a b : Int} (h : Cg x y) (g : Cg a b) : Cg (x - a) (y - b) := by
  obtain ⟨k, h⟩ := h
  obtain ⟨l, g⟩ := g
  exact ⟨k - l, by omega⟩
theorem Cg.mul {x y a b : Int} (h : Cg x y) (g : Cg a b) : Cg (x * a) (y * b) := by
  obtain ⟨k, rfl⟩ := h
  obtain ⟨l, rfl⟩ := g
  refine ⟨k * b + y * l + k * l * 18446744073709551616, ?_⟩
  generalize 18446744073709551616 = M
  simp only [Int.mul_add, Int.add_mul, Int.mul_assoc, Int.mul_comm, Int.mul_left_comm]
  omega
theorem Cg.wrap (x : Int) : Cg (wrap64 x) x := by
  unfold wrap64
  refine ⟨-((x + 9223372036854775808) / 18446744073709551616), ?_⟩
  omega
theorem Cg.eq {x y : Int} (h : Cg x y) : wrap64 x = wrap64 y := by
  obtain ⟨k, rfl⟩ := h
  unfold wrap64
  omega
theorem Cg.same {x y : Int} (h : Cg x y) (hx : wrap64 x = x) (hy : wrap64 y = y) : x = y := by rw [← hx, ← hy]; exact h.eq
theorem Sm_Cg : ∀ (n : Nat) (f g : Nat → Int), (∀ j, j < n → Cg (f j) (g j)) → Cg (Sm n f) (Sm n g)
  | 0, _, _, _ => Cg.refl _
  | n + 1, f, g, h => (Sm_Cg n f g (fun j hj => h j (by omega))).add (h n (by omega))
theorem wdot_Cg : ∀ (r v : List Int) (a : Int), r.length = v.length → Cg (wdot a r v) (a + Sm r.length (fun j => r.getD j 0 * v.getD j 0))
  | [], [], a, _ => by simp [wdot, Sm]; exact Cg.refl _
  | x :: r, y :: v, a, h => by
    have ih := wdot_Cg r v (wrap64 (a + wrap64 (x * y))) (by simpa using h)
    show Cg (wdot (wrap64 (a + wrap64 (x * y))) r v) _
    refine ih.trans ?_
    rw [List.length_cons, Sm_first]
    have h1 : Cg (wrap64 (a + wrap64 (x * y))) (a + x * y) := (Cg.wrap _).trans ((Cg.refl a).add (Cg.wrap _))
    have h2 := h1.add (Cg.refl (Sm r.length (fun j => r.getD j 0 * v.getD j 0)))
    refine h2.trans (Cg.of_eq ?_)
    simp only [List.getD_cons_zero, List.getD_cons_succ]
    omega
end Go.Proofs.YtobmljclokmbcaaDoor

namespace Go.Proofs.YtobmljclokmbcaaDoor
open Go.RowKit
set_option linter.all false
def accF (d : Nat) : List Int → List Int → Nat → Int → Int
  | s :: S, f :: F, p, a => accF d S F (p + 1) (wrap64 (a + (if d ≤ p then s else 0) + f))
  | _, _, _, a => a
def cntR (d k : Nat) : Nat → List Int → List Int → Int
  | 0, S, F => wrap64 (S.sum + F.sum)
  | n + 1, S, F => cntR d k n (accF d S F 0 0 :: S.take k) (0 :: F.take k)
def zerosL (k : Nat) : List Int := List.replicate (k + 1) 0
def oneL (k : Nat) : List Int := 1 :: List.replicate k 0
def countR (d k n : Int) : Int := if fitsR d k && inR n 0 20 then cntR d.toNat k.toNat n.toNat (zerosL k.toNat) (oneL k.toNat) else -1
def Wr (L : List Int) : Prop := ∀ x ∈ L, wrap64 x = x
def nextL (k : Nat) (A : List Int) (p : Nat) (a : Int) : List Int := a :: (A.take (min p k) ++ List.replicate (k - p) 0)
theorem wrap_wrap (z : Int) : wrap64 (wrap64 z) = wrap64 z := by unfold wrap64; omega
theorem accF_step {d p : Nat} {S F : List Int} {s f a R : Int} (hs : S[p]? = some s) (hf : F[p]? = some f) (h : accF d (S.drop p) (F.drop p) p a = R) :
    accF d (S.drop (p + 1)) (F.drop (p + 1)) (p + 1) (wrap64 (a + (if d ≤ p then s else 0) + f)) = R := by
  rw [drop_of_get hs, drop_of_get hf] at h
  exact h
theorem accF_end {d p : Nat} {S F : List Int} {a R : Int} (hp : S.length ≤ p) (h : accF d (S.drop p) (F.drop p) p a = R) : a = R := by
  rw [drop_all S p hp] at h
  exact h
theorem acc_yes {d p : Nat} {a s f : Int} (h : d ≤ p) : wrap64 (wrap64 (a + s) + f) = wrap64 (a + (if d ≤ p then s else 0) + f) ∧ wrap64 (wrap64 (a + f) + s) = wrap64 (a + (if d ≤ p then s else 0) + f) := by
  rw [if_pos h, wrap_add, wrap_add]
  exact ⟨rfl, by congr 1; omega⟩
theorem acc_no {d p : Nat} {a s f : Int} (h : ¬ d ≤ p) : wrap64 (a + f) = wrap64 (a + (if d ≤ p then s else 0) + f) := by
  rw [if_neg h]; congr 1; omega
theorem nl_len {k p : Nat} {A : List Int} {a : Int} (hA : A.length = k + 1) (hp : p ≤ k + 1) : (nextL k A p a).length = k + 1 := by
  simp [nextL, hA]; omega
theorem nl_setS {k p : Nat} {A : List Int} {a x : Int} (hA : A.length = k + 1) (hp : p < k) (hx : A[p]? = some x) : (nextL k A p a).set (p + 1) x = nextL k A (p + 1) a := by
  unfold nextL
  rw [List.set_cons_succ, show k - p = (k - (p + 1)) + 1 by omega, List.replicate_succ, Nat.min_eq_left (by omega), Nat.min_eq_left (by omega), set_mid (take_len (by omega)), fill_shut hx]
theorem nl_skip {k p : Nat} {A : List Int} {a : Int} (hp : ¬ p < k) : nextL k A (p + 1) a = nextL k A p a := by
  unfold nextL
  rw [Nat.min_eq_right (by omega), Nat.min_eq_right (by omega), show k - p = 0 by omega, show k - (p + 1) = 0 by omega]
theorem nl_get0 (k : Nat) (A : List Int) (p : Nat) (a : Int) : (nextL k A p a).getD 0 0 = a := rfl
theorem nl_set0 (k : Nat) (A : List Int) (p : Nat) (a b : Int) : (nextL k A p a).set 0 b = nextL k A p b := rfl
theorem nl_getS {k p : Nat} {A : List Int} {a : Int} (hA : A.length = k + 1) (hp : p < k) : (nextL k A p a).getD (p + 1) 0 = 0 := by
  have e : (A.take (min p k) ++ List.replicate (k - p) (0 : Int))[p]? = some 0 := by
    have hl := take_len (k := p) (M := A) (by omega)
    rw [Nat.min_eq_left (by omega), List.getElem?_append_right (by omega), hl, Nat.sub_self, List.getElem?_replicate, if_pos (by omega)]
  unfold nextL
  rw [List.getD_cons_succ, List.getD, e]
  rfl
theorem nl_end (k : Nat) (A : List Int) (a : Int) : nextL k A (k + 1) a = a :: A.take k := by
  unfold nextL
  rw [Nat.min_eq_right (by omega), show k - (k + 1) = 0 by omega]
  simp
theorem nl_start (k : Nat) (A : List Int) : nextL k A 0 0 = List.replicate (k + 1) 0 := by
  simp [nextL, List.replicate_succ]
theorem Wr.get {L : List Int} (h : Wr L) {p : Nat} {x : Int} (hx : L[p]? = some x) : wrap64 x = x := h x (List.mem_of_getElem? hx)
theorem Wr.cons {L : List Int} {k : Nat} {a : Int} (h : Wr L) (ha : wrap64 a = a) : Wr (a :: L.take k) := by
  intro x hx
  rcases List.mem_cons.1 hx with rfl | hx
  · exact ha
  · exact h x (List.mem_of_mem_take hx)
theorem wr0 : wrap64 0 = 0 := by unfold wrap64; omega
/-- Four rows of the call's own, in blocks of their own. -/
structure Quad (w : World) (lo m g1 g2 g3 g4 : Nat) (A B C D : List Int) : Prop where
  o1 : OInts w lo (.slice (some ⟨g1, 0, none⟩) m m) m A
  o2 : OInts w lo (.slice (some ⟨g2, 0, none⟩) m m) m B
  o3 : OInts w lo (.slice (some ⟨g3, 0, none⟩) m m) m C
  o4 : OInts w lo (.slice (some ⟨g4, 0, none⟩) m m) m D
  ne : g1 ≠ g3 ∧ g1 ≠ g4 ∧ g2 ≠ g3 ∧ g2 ≠ g4 ∧ g3 ≠ g4
theorem OInts.setFar {w : World} {lo g g' n c j : Nat} {xs : List Int} (h : OInts w lo (.slice (some ⟨g, 0, none⟩) n c) n xs) (hne : g ≠ g') (u : Value) : OInts (w.setCell ⟨g', j, none⟩ u) lo (.slice (some ⟨g, 0, none⟩) n c) n xs :=
  h.grown (only_setCell (World.grownBy.refl w (some g')) rfl u) (.inr (by simp [Value.ownBlock]; exact hne))
section
variable {w : World} {lo m g1 g2 g3 g4 : Nat} {A B C D : List Int}
theorem Quad.drewN (h : Quad w lo m g1 g2 g3 g4 A B C D) (n : Nat) : Quad (w.drewN n) lo m g1 g2 g3 g4 A B C D := ⟨h.o1, h.o2, h.o3, h.o4, h.ne⟩
theorem Quad.set3 (h : Quad w lo m g1 g2 g3 g4 A B C D) (j : Nat) (x : Int) : Quad (w.setCell ⟨g3, j, none⟩ (.int .i64 x)) lo m g1 g2 g3 g4 A B (C.set j x) D :=
  ⟨h.o1.setFar h.ne.1 _, h.o2.setFar h.ne.2.2.1 _, h.o3.set j x, h.o4.setFar (Ne.symm h.ne.2.2.2.2) _, h.ne⟩
theorem Quad.set4 (h : Quad w lo m g1 g2 g3 g4 A B C D) (j : Nat) (x : Int) : Quad (w.setCell ⟨g4, j, none⟩ (.int .i64 x)) lo m g1 g2 g3 g4 A B C (D.set j x) :=
  ⟨h.o1.setFar h.ne.2.1 _, h.o2.setFar h.ne.2.2.2.1 _, h.o3.setFar h.ne.2.2.2.2 _, h.o4.set j x, h.ne⟩
end
theorem zeros_wr (k : Nat) : Wr (zerosL k) := by
  intro x hx
  have := (List.mem_replicate.1 hx).2
  subst this
  exact wr0
theorem one_wr (k : Nat) : Wr (oneL k) := by
  intro x hx
  rcases List.mem_cons.1 hx with rfl | hx
  · unfold wrap64; omega
  · have := (List.mem_replicate.1 hx).2
    subst this
    exact wr0
theorem sums_step {A B : List Int} {p : Nat} {x1 x2 y : Int} (h1 : A[p]? = some x1) (h2 : B[p]? = some x2) (h : y = wrap64 ((A.take p).sum + (B.take p).sum)) :
    wrap64 (wrap64 (y + x1) + x2) = wrap64 ((A.take (p + 1)).sum + (B.take (p + 1)).sum) := by
  subst h
  rw [wrap_add, ← push_take h1, ← push_take h2, List.sum_append, List.sum_append]
  simp only [List.sum_cons, List.sum_nil]
  unfold wrap64
  omega
theorem wp_at {P : Program} {c : Code} {Q : Exit → Act → World → Prop} {a : Act} {W : World} (R : World → Prop) (hR : R W) (h : ∀ W, R W → c.wp P Q a W) : c.wp P Q a W := h W hR
end Go.Proofs.YtobmljclokmbcaaDoor

namespace Go.Proofs.YtobmljclokmbcaaDoor
open Go.RowKit
set_option linter.all false
/- The sizes of the pieces between the letters b are the runs. -/
def lensL : List UInt8 → Int → List Int
  | [], n => [n]
  | b :: l, n => if b = 98 then n :: lensL l 0 else lensL l (n + 1)
theorem lensL_none : ∀ (l : List UInt8) (n : Int), (∀ k : Nat, l[k]? ≠ some 98) → lensL l n = [n + l.length]
  | [], n, _ => by simp [lensL]
  | b :: l, n, h => by
    have hb : b ≠ 98 := fun e => h 0 (by simp [e])
    rw [lensL, if_neg hb, lensL_none l (n + 1) (fun k => by have := h (k + 1); simpa using this)]
    simp
    omega
theorem lensL_hit : ∀ (i : Nat) (l : List UInt8) (n : Int), l[i]? = some 98 → (∀ k : Nat, k < i → l[k]? ≠ some 98) → lensL l n = (n + i) :: lensL (l.drop (i + 1)) 0
  | 0, [], n, h, _ => by simp at h
  | 0, b :: l, n, h, _ => by
    simp at h
    subst h
    simp [lensL]
  | i + 1, [], n, h, _ => by simp at h
  | i + 1, b :: l, n, h, h2 => by
    have hb : b ≠ 98 := fun e => h2 0 (by omega) (by simp [e])
    rw [lensL, if_neg hb, lensL_hit i l (n + 1) (by simpa using h) (fun k hk => by have := h2 (k + 1) (by omega); simpa using this)]
    simp
    omega
theorem bl_toList {s : ByteArray} {i : Nat} (h : i < s.size) : s.data.toList[i]? = some s[i] := by
  rw [Array.getElem?_toList]
  exact Array.getElem?_eq_getElem h
theorem lensR_L (s : ByteArray) : ∀ (m i : Nat) (n : Int), i + m = s.size → lensR s i m n = lensL (s.data.toList.drop i) n
  | 0, i, n, h => by
    rw [List.drop_eq_nil_of_le (by show s.size ≤ i; omega)]
    rfl
  | m + 1, i, n, h => by
    have hi : i < s.size := by omega
    rw [drop_of_get (bl_toList hi)]
    have e : (bl s i = 98) ↔ (s[i] = 98) := by
      rw [bl_get hi]
      constructor
      · intro h; exact UInt8.toNat.inj h
      · intro h; rw [h]; rfl
    by_cases h98 : bl s i = 98
    · rw [lensR, if_pos h98, lensL, if_pos (e.1 h98), lensR_L s m (i + 1) 0 (by omega)]
    · rw [lensR, if_neg h98, lensL, if_neg (fun h => h98 (e.2 h)), lensR_L s m (i + 1) (n + 1) (by omega)]
theorem pieces : ∀ (k : Nat) (s : ByteArray), Lib.countB s ⟨#[98]⟩ = k → (Lib.splitB ⟨#[98]⟩ 0 k s).map (fun p => (p.size : Int)) = lensL s.data.toList 0
  | k, s, hk => by
    rcases Lib.indexB_cases s ⟨#[98]⟩ with h | ⟨i, h, hle⟩
    · rw [Lib.splitB_miss _ _ _ _ h]
      have h1 : Lib.indexByte s.data.toList 98 = -1 := by rw [← Lib.index_one]; exact h
      rw [lensL_none _ _ (Lib.indexByte_none h1)]
      show [(s.size : Int)] = [0 + ((s.size : Nat) : Int)]
      rw [Int.zero_add]
    · have h1 : Lib.indexByte s.data.toList 98 = (i : Int) := by rw [← Lib.index_one]; exact h
      obtain ⟨h2, h3⟩ := Lib.indexByte_some h1
      have hc := Lib.countB_hit s ⟨#[98]⟩ i (by decide) h
      have hsz : i + 1 ≤ s.size := hle
      match k, hk with
      | 0, hk => omega
      | k + 1, hk =>
        have hk2 : Lib.countB (s.extract (i + 1) s.size) ⟨#[98]⟩ = k := by
          have : (⟨#[98]⟩ : ByteArray).size = 1 := rfl
          rw [this] at hc
          omega
        rw [Lib.splitB_hit _ _ _ _ i h, List.map_cons]
        have ih := pieces k (s.extract (i + 1) s.size) hk2
        have hext : (s.extract (i + 1) s.size).data.toList = s.data.toList.drop (i + 1) := by
          rw [ByteArray.data_extract, Array.toList_extract, List.extract_eq_drop_take]
          exact List.take_of_length_le (by rw [List.length_drop]; exact Nat.le_refl _)
        rw [hext] at ih
        rw [lensL_hit i _ 0 h2 h3]
        congr 1
        · simp [ByteArray.size_extract]
          omega
theorem pieces_lens (s : ByteArray) : (Lib.splitB ⟨#[98]⟩ 0 (Lib.countB s ⟨#[98]⟩) s).map (fun p => (p.size : Int)) = lens s := by
  rw [pieces _ s rfl, lens, lensR_L s s.size 0 0 (by omega)]
  rfl
end Go.Proofs.YtobmljclokmbcaaDoor

namespace Go.Proofs.YtobmljclokmbcaaDoor
open Go.RowKit
set_option linter.all false
/- impl.runs: the sizes of the pieces of strings.Split. -/
/-- The library's own variable holds a number. -/
def MaxL (w : World) : Prop := ∃ m, w.cell? ⟨0, 0, none⟩ = some (.int .i64 m)
theorem maxL_of {w : World} (h : w.ShapedOpen Tryd.prog) : MaxL w := Tryd.laysM146.s1_3 w h
theorem MaxL.keep {w w' : World} (h : MaxL w) (hb : Below w.heap.size w w') : MaxL w' := by
  obtain ⟨m, h⟩ := h
  exact ⟨m, (hb.cell (World.block_lt_of_cell? w _ h)).trans h⟩
theorem lensB_at {α : Type} (f : α → Int) {R acc : List Int} {L : List α} {i : Nat} {x : α} (hx : L[i]? = some x) (h : acc ++ (L.drop i).map f = R) : (acc ++ [f x]) ++ (L.drop (i + 1)).map f = R := by
  rw [drop_of_get hx] at h
  simpa using h
set_option maxRecDepth 20000 in
set_option maxHeartbeats 3200000 in
theorem iRuns_any (s : ByteArray) (w : World) (hs : s.size ≤ 1048576) (hm : MaxL w) : Calls Tryd.prog 56 #[.string s] w fun e w' => ∃ v, e = .returned v ∧ OInts w' w.heap.size v (lens s).length (lens s) ∧ Below w.heap.size w w' := by
  have HO := Lib.hid (OInts.empty w w.heap.size (Nat.le_refl _))
  have HB0 := Lib.hid ((Below.refl w.heap.size w).alloc (Nat.le_refl _) (.cells #[] 3))
  obtain ⟨m, hm1⟩ := hm.keep HB0.out
  have C := Tryd.strings_Split s ⟨#[98]⟩ m _ (by omega) hm1 (by decide)
  have hp := pieces_lens s
  have hlen := Lib.splitB_all ⟨#[98]⟩ (by decide) 0 _ s rfl
  have hcl := Lib.countB_le ⟨#[98]⟩ (by decide) s.size s (Nat.le_refl _)
  obtain ⟨c, hc⟩ : ∃ c, Lib.countB s ⟨#[98]⟩ = c := ⟨_, rfl⟩
  rw [hc] at C hp hlen hcl
  obtain ⟨L, hL⟩ : ∃ L, Lib.splitB ⟨#[98]⟩ 0 c s = L := ⟨_, rfl⟩
  rw [hL] at C hp hlen
  have hN : Hid (L.length = c + 1) := hlen
  have HP := Lib.hid hp
  clear hp hlen hc hL hm1 hm
  go_enter Tryd.func56, Tryd.ntmps56
  go_wp2_with fail
  refine C.mono ?_
  rintro e w' ⟨rfl, rfl⟩
  clear C
  obtain ⟨w2, hw2⟩ : ∃ w2, (w.alloc (.cells #[] 3)).alloc (.cells (L.map Value.string).toArray 9) = w2 := ⟨_, rfl⟩
  have HB2 : Hid (Below w.heap.size w w2) := by subst hw2; exact HB0.out.alloc (by simp) _
  have HO2 : Hid (OInts w2 w.heap.size (.slice (some ⟨w.heap.size, 0, none⟩) 0 0) 0 []) := by subst hw2; exact HO.out.alloc _
  have hsz2 : w2.heap.size = w.heap.size + 2 := by subst hw2; simp
  have HC : Hid (w2.heap[w.heap.size + 1]? = some (.cells (L.map Value.string).toArray 9)) := by
    subst hw2
    show _ = _
    have := heap_alloc_new (w.alloc (.cells #[] 3)) (.cells (L.map Value.string).toArray 9)
    simpa using this
  rw [hw2]
  clear hw2 HB0 HO
  go_wp2_with fail
  go_loopw [3, 5, 10] (fun ov pv iv wr => ∃ (i : Nat) (acc : List Int), i ≤ c + 1 ∧ acc.length = i ∧ iv = .int .i64 i ∧ OInts wr w.heap.size ov i acc ∧ Hid (acc ++ (L.drop i).map (fun p => (p.size : Int)) = lens s) ∧ Below w.heap.size w wr ∧ ov.ownBlock ≠ some (w.heap.size + 1) ∧ w.heap.size + 2 ≤ wr.heap.size ∧ Hid (wr.heap[w.heap.size + 1]? = some (.cells (L.map Value.string).toArray 9))) (fun _ _ x _ => c + 1 - (intOf x).toNat)
  case atStart => exact ⟨0, [], Nat.zero_le _, rfl, rfl, HO2.out, HP.out, HB2.out, by simp [Value.ownBlock], by omega, HC⟩
  case round =>
    obtain ⟨i, acc, hi, hal, rfl, ho, hr, hbl, hne, hsz, hcl2⟩ := hrel
    obtain ⟨aa, ca, rfl, _⟩ := ho.form
    have HOw := Lib.hid ho
    have HB := Lib.hid hbl
    have HNE := Lib.hid hne
    clear ho hbl hne HO2 HB2 HC
    by_cases hlt : i < c + 1
    · obtain ⟨x, hx⟩ : ∃ x, L[i]? = some x := ⟨_, List.getElem?_eq_getElem (by have := hN.out; omega)⟩
      have HC1 : wr.cell? ⟨w.heap.size + 1, i, none⟩ = some (.string x) := by
        simp [World.cell?, hcl2.out, hx]
      have HN := Lib.hid (lensB_at (fun p : ByteArray => (p.size : Int)) hx hr.out)
      clear hx hr
      go_wp2_with (refine wpList_push_ib wr (x.size : Int) rfl (.tmp 14) (.tmp 17) rfl w.heap.size _ _ _ rfl HOw.out (by omega) (by omega) (w.heap.size + 1) HNE.out (by omega) _ rfl rfl ?_; intro v2 w3 ho2 hb2 hne2 hcl3; have HO2 := Lib.hid ho2; have HB2 := Lib.hid hb2; have HNE2 := Lib.hid hne2; have HC2 := Lib.hid (hcl3.trans hcl2.out); obtain ⟨a2, c2, rfl, _⟩ := ho2.form; clear ho2 hb2 hne2 hcl3)
      go_roundw
      case rel => exact ⟨i + 1, acc ++ [(x.size : Int)], hlt, by simp; omega, by go_num, HO2.out, HN.out, HB.out.trans HB2.out, HNE2.out, by have := HB2.out.size; omega, HC2⟩
      case measure => simp [intOf]; omega
    · have HE : Hid (acc = lens s) := by
        show _ = _
        have h := hr.out
        rw [drop_all L i (by have := hN.out; omega)] at h
        simpa using h
      clear hr
      go_wp2_with fail
      go_ret
      exact ⟨_, rfl, by have h := HOw.out; rw [HE.out] at h; have hl := h.len; rw [hl]; exact h, HB.out⟩
end Go.Proofs.YtobmljclokmbcaaDoor

namespace Go.Proofs.YtobmljclokmbcaaDoor
open Go.RowKit
set_option linter.all false
theorem isLetters_any (k : Int) (w : World) : Calls Tryd.prog 91 #[.int .i64 k] w fun e w' => e = .returned (.bool (inR k 1 3)) ∧ w = w' := by
  by_cases h1 : 1 ≤ k
  · have d1 : decide (1 ≤ k) = true := decide_eq_true h1
    have HE : Hid (inR k 1 3 = decide (k ≤ 3)) := by show _ = _; simp [inR, h1]
    clear h1
    go_enter Tryd.func91, Tryd.ntmps91
    go_wp2_with fail
    go_ret
    exact ⟨ret_bool HE.out.symm, rfl⟩
  · have d1 : decide (1 ≤ k) = false := decide_eq_false h1
    have HE : Hid (inR k 1 3 = false) := by show _ = _; simp [inR, h1]
    clear h1
    go_enter Tryd.func91, Tryd.ntmps91
    go_wp2_with fail
    go_ret
    exact ⟨ret_bool HE.out.symm, rfl⟩
end Go.Proofs.YtobmljclokmbcaaDoor

namespace Go.Proofs.YtobmljclokmbcaaDoor
open Go.RowKit
set_option linter.all false
set_option maxHeartbeats 1600000 in
theorem areLetters_any (k : Int) (s : ByteArray) (w : World) (hs : s.size ≤ 1048576) : Calls Tryd.prog 92 #[.int .i64 k, .string s] w fun e w' => e = .returned (.bool (okW k s 0 s.size)) ∧ w = w' := by
  go_enter Tryd.func92, Tryd.ntmps92
  go_wp2_with fail
  go_loop [8] (fun x => ∃ i : Nat, i ≤ s.size ∧ x = .int .i64 i ∧ Hid (okW k s i (s.size - i) = okW k s 0 s.size)) (fun x => s.size - (intOf x).toNat)
  case atStart => exact ⟨0, Nat.zero_le _, rfl, rfl⟩
  case round =>
    obtain ⟨i, hi, rfl, hr⟩ := hrel
    by_cases hlt : i < s.size
    · have hr2 := hr.out
      rw [show s.size - i = (s.size - (i + 1)) + 1 by omega] at hr2
      have HST := Lib.hid (okW_step hr2)
      clear hr hr2
      obtain ⟨c, hc⟩ : ∃ c : Nat, s[i].toNat = c := ⟨_, rfl⟩
      have hb : bl s i = c := (bl_get hlt).trans hc
      have hc2 : c < 256 := by rw [← hb]; exact bl_lt s i
      by_cases g1 : 97 ≤ c
      · have d : decide ((c : Int) < 97) = false := decide_eq_false (by omega)
        have hsub : IntKind.u8.wrap ((c : Int) - 97) = (c : Int) - 97 := by rw [IntKind.wrap_u8]; omega
        by_cases g2 : (c : Int) - 97 < k
        · have d2 : decide (k ≤ (c : Int) - 97) = false := decide_eq_false (by omega)
          have HN := Lib.hid (HST.out.2.2 (by rw [hb]; exact g1) (by rw [hb]; exact g2))
          clear hb g1 g2
          go_wp2_with fail
          go_round
          case rel => exact ⟨i + 1, hlt, by go_num, HN.out⟩
          case measure => simp [intOf]; omega
        · have d2 : decide (k ≤ (c : Int) - 97) = true := decide_eq_true (by omega)
          have HF := Lib.hid (HST.out.2.1 (by rw [hb]; exact g2))
          clear hb g1 g2
          go_wp2_with fail
          go_ret
          exact ⟨ret_bool HF.out.symm, rfl⟩
      · have d : decide ((c : Int) < 97) = true := decide_eq_true (by omega)
        have HF := Lib.hid (HST.out.1 (by rw [hb]; exact g1))
        clear hb g1
        go_wp2_with fail
        go_ret
        exact ⟨ret_bool HF.out.symm, rfl⟩
    · have HT : Hid (okW k s 0 s.size = true) := by show _ = _; rw [← hr.out, show s.size - i = 0 by omega]; rfl
      clear hr
      go_wp2_with fail
      go_ret
      exact ⟨ret_bool HT.out.symm, rfl⟩
set_option maxHeartbeats 1600000 in
theorem iIsWord_any (k : Int) (s : ByteArray) (w : World) (hs : s.size ≤ 1048576) : Calls Tryd.prog 59 #[.int .i64 k, .string s] w fun e w' => e = .returned (.bool (isWd k s)) ∧ w = w' := by
  cases b1 : inR k 1 3
  · have B1 := Lib.hid b1
    have HR : Hid (isWd k s = false) := by show _ = _; simp [isWd, b1]
    clear b1
    go_enter Tryd.func59, Tryd.ntmps59
    go_wp2_with (go_at_call 91; refine (isLetters_any _ _).mono ?_; rw [B1.out]; rintro e w' ⟨rfl, rfl⟩)
    go_ret
    exact ⟨ret_bool HR.out.symm, rfl⟩
  · have B1 := Lib.hid b1
    by_cases h16 : s.size ≤ 16
    · have HR : Hid (isWd k s = okW k s 0 s.size) := by show _ = _; simp [isWd, b1, h16]
      have d : decide ((s.size : Int) ≤ 16) = true := decide_eq_true (by omega)
      clear b1
      go_enter Tryd.func59, Tryd.ntmps59
      go_wp2_with fail
      refine (isLetters_any _ _).mono ?_
      rw [B1.out]
      rintro e w' ⟨rfl, rfl⟩
      go_wp2_with fail
      refine (areLetters_any _ _ _ hs).mono ?_
      rintro e w' ⟨rfl, rfl⟩
      go_wp2_with fail
      go_ret
      exact ⟨ret_bool HR.out.symm, rfl⟩
    · have HR : Hid (isWd k s = false) := by show _ = _; simp [isWd, h16]
      have d : decide ((s.size : Int) ≤ 16) = false := decide_eq_false (by omega)
      clear b1
      go_enter Tryd.func59, Tryd.ntmps59
      go_wp2_with (go_at_call 91; refine (isLetters_any _ _).mono ?_; rw [B1.out]; rintro e w' ⟨rfl, rfl⟩)
      go_ret
      exact ⟨ret_bool HR.out.symm, rfl⟩
end Go.Proofs.YtobmljclokmbcaaDoor

namespace Go.Proofs.YtobmljclokmbcaaDoor
open Go.RowKit
set_option linter.all false
set_option maxRecDepth 20000 in
set_option maxHeartbeats 3200000 in
theorem iKeeps_any (d k : Int) (s : ByteArray) (w : World) (hs : s.size ≤ 1048576) (hm : MaxL w) : Calls Tryd.prog 51 #[.int .i64 d, .int .i64 k, .string s] w fun e w' => e = .returned (.bool (keepsL d k (lens s))) ∧ Below w.heap.size w w' := by
  go_enter Tryd.func51, Tryd.ntmps51
  go_wp2_with fail
  refine (iRuns_any s _ hs hm).mono ?_
  rintro e w2 ⟨v2, rfl, ho2, hb2⟩
  obtain ⟨a2, c2, rfl, hi2⟩ := ho2.form
  have HI := Lib.hid hi2
  have HB := Lib.hid hb2
  have hmx := hi2.2.1
  clear ho2 hb2 hi2
  obtain ⟨xs, hxs⟩ : ∃ xs, lens s = xs := ⟨_, rfl⟩
  have HR : Hid (keepsL d k (lens s) = keepsL d k xs) := by show _ = _; rw [hxs]
  rw [hxs] at HI hmx ⊢
  clear hxs
  go_wp2_with fail
  go_loop [14] (fun x => ∃ i : Nat, i ≤ xs.length ∧ x = .int .i64 i ∧ Hid (kpF d k xs.length i (xs.drop i) = keepsL d k xs)) (fun x => xs.length - (intOf x).toNat)
  case atStart => exact ⟨0, Nat.zero_le _, rfl, rfl⟩
  case round =>
    obtain ⟨i, hi, rfl, hr⟩ := hrel
    by_cases hlt : i < xs.length
    · obtain ⟨b, o, x, rfl, hc, hx⟩ := HI.out.at_ hlt
      have HST := Lib.hid (kp_step hx.out hr.out)
      clear hx hr
      by_cases g1 : k < x
      · have d1 : decide (k < x) = true := decide_eq_true g1
        have HF : Hid (keepsL d k xs = false) := (HST.out.1 (by simp [kpBad, g1]))
        clear g1
        go_wp2_with fail
        go_ret
        exact ⟨ret_bool (HF.out.symm.trans HR.out.symm), HB.out⟩
      · have d1 : decide (k < x) = false := decide_eq_false g1
        by_cases g2 : 0 < i
        · have d2 : decide ((0 : Int) < (i : Int)) = true := decide_eq_true (by omega)
          by_cases g3 : i + 1 < xs.length
          · have d3 : decide ((i : Int) < (xs.length : Int) - 1) = true := decide_eq_true (by omega)
            by_cases g4 : x < d
            · have d4 : decide (x < d) = true := decide_eq_true g4
              have HF : Hid (keepsL d k xs = false) := (HST.out.1 (by simp [kpBad, g2, g3, g4]))
              clear g1 g4
              go_wp2_with fail
              go_ret
              exact ⟨ret_bool (HF.out.symm.trans HR.out.symm), HB.out⟩
            · have d4 : decide (x < d) = false := decide_eq_false g4
              have HN := Lib.hid (HST.out.2 (by simp [kpBad, g1, g4]))
              clear g1 g4
              go_wp2_with fail
              go_round
              case rel => exact ⟨i + 1, hlt, by go_num, HN.out⟩
              case measure => simp [intOf]; omega
          · have d3 : decide ((i : Int) < (xs.length : Int) - 1) = false := decide_eq_false (by omega)
            have HN := Lib.hid (HST.out.2 (by simp [kpBad, g1, g3]))
            clear g1
            go_wp2_with fail
            go_round
            case rel => exact ⟨i + 1, hlt, by go_num, HN.out⟩
            case measure => simp [intOf]; omega
        · have d2 : decide ((0 : Int) < (i : Int)) = false := decide_eq_false (by omega)
          have HN := Lib.hid (HST.out.2 (by simp [kpBad, g1, g2]))
          clear g1
          go_wp2_with fail
          go_round
          case rel => exact ⟨i + 1, hlt, by go_num, HN.out⟩
          case measure => simp [intOf]; omega
    · have HT := Lib.hid (kp_end (by omega) hr.out)
      clear hr
      go_wp2_with fail
      go_ret
      exact ⟨ret_bool (HT.out.symm.trans HR.out.symm), HB.out⟩

set_option maxHeartbeats 1600000 in
theorem iKeepsRuns_any (d k : Int) (s : ByteArray) (w : World) (hs : s.size ≤ 1048576) (hm : MaxL w) : Calls Tryd.prog 17 #[.int .i64 d, .int .i64 k, .string s] w fun e w' => e = .returned (.bool (keepsB d k s)) ∧ Below w.heap.size w w' := by
  cases b1 : fitsR d k
  · have B1 := Lib.hid b1
    have HR : Hid (keepsB d k s = false) := by show _ = _; simp [keepsB, b1]
    clear b1
    go_enter Tryd.func17, Tryd.ntmps17
    go_wp2_with fail
    refine (isRange_any _ _ _).mono ?_
    rw [B1.out]
    rintro e w' ⟨rfl, rfl⟩
    go_wp2_with fail
    go_ret
    exact ⟨ret_bool HR.out.symm, Below.refl _ _⟩
  have B1 := Lib.hid b1
  cases b2 : isWd 2 s
  · have B2 := Lib.hid b2
    have HR : Hid (keepsB d k s = false) := by show _ = _; simp [keepsB, b2]
    clear b1 b2
    go_enter Tryd.func17, Tryd.ntmps17
    go_wp2_with fail
    refine (isRange_any _ _ _).mono ?_
    rw [B1.out]
    rintro e w' ⟨rfl, rfl⟩
    go_wp2_with fail
    refine (iIsWord_any _ _ _ hs).mono ?_
    rw [B2.out]
    rintro e w' ⟨rfl, rfl⟩
    go_wp2_with fail
    go_ret
    exact ⟨ret_bool HR.out.symm, Below.refl _ _⟩
  have B2 := Lib.hid b2
  have HR : Hid (keepsB d k s = keepsL d k (lens s)) := by show _ = _; simp [keepsB, b1, b2]
  clear b1 b2
  go_enter Tryd.func17, Tryd.ntmps17
  go_wp2_with fail
  refine (isRange_any _ _ _).mono ?_
  rw [B1.out]
  rintro e w' ⟨rfl, rfl⟩
  go_wp2_with fail
  refine (iIsWord_any _ _ _ hs).mono ?_
  rw [B2.out]
  rintro e w' ⟨rfl, rfl⟩
  go_wp2_with fail
  refine (iKeeps_any _ _ _ _ hs hm).mono ?_
  rintro e w' ⟨rfl, hb⟩
  have HB := Lib.hid hb
  clear hb
  go_wp2_with fail
  go_ret
  exact ⟨ret_bool HR.out.symm, HB.out⟩
end Go.Proofs.YtobmljclokmbcaaDoor

namespace Go.Proofs.YtobmljclokmbcaaDoor
open Go.RowKit
set_option linter.all false
def splitR (d k : Int) (s : ByteArray) : List Int := if keepsB d k s then lens s else []
theorem iSplitRuns_any (d k : Int) (s : ByteArray) (w : World) (hs : s.size ≤ 1048576) (hm : MaxL w) : Calls Tryd.prog 14 #[.int .i64 d, .int .i64 k, .string s] w fun e w' => ∃ v, e = .returned v ∧ OInts w' w.heap.size v (splitR d k s).length (splitR d k s) ∧ Below w.heap.size w w' := by
  have HM := Lib.hid hm
  clear hm
  cases b1 : keepsB d k s
  · have B1 := Lib.hid b1
    have HR : Hid (splitR d k s = []) := by show _ = _; simp [splitR, b1]
    clear b1
    go_enter Tryd.func14, Tryd.ntmps14
    go_wp2_with fail
    refine (iKeepsRuns_any _ _ _ _ hs HM.out).mono ?_
    rw [B1.out]
    rintro e w' ⟨rfl, hb⟩
    have HB := Lib.hid hb
    clear hb
    go_wp2_with fail
    go_ret
    exact ⟨_, rfl, by rw [HR.out]; exact ⟨by decide, by simp, .inl ⟨rfl, rfl⟩⟩, HB.out⟩
  have B1 := Lib.hid b1
  have HR : Hid (splitR d k s = lens s) := by show _ = _; simp [splitR, b1]
  clear b1
  go_enter Tryd.func14, Tryd.ntmps14
  go_wp2_with fail
  refine (iKeepsRuns_any _ _ _ _ hs HM.out).mono ?_
  rw [B1.out]
  rintro e w1 ⟨rfl, hb⟩
  have HB := Lib.hid hb
  clear hb
  go_wp2_with fail
  refine (iRuns_any s _ hs (HM.out.keep HB.out)).mono ?_
  rintro e w2 ⟨v2, rfl, ho2, hb2⟩
  have HO := Lib.hid (ho2.mono HB.out.size)
  have HB2 := Lib.hid hb2
  obtain ⟨a2, c2, rfl, _⟩ := ho2.form
  clear ho2 hb2
  go_wp2_with fail
  go_ret
  exact ⟨_, rfl, by rw [HR.out]; exact HO.out, step2 HB.out HB2.out⟩
theorem sSplitRuns_any (d k : Int) (s : ByteArray) (w : World) (hs : s.size ≤ 1048576) : Calls Tryd.prog 26 #[.int .i64 d, .int .i64 k, .string s] w fun e w' => ∃ v, e = .returned v ∧ OInts w' w.heap.size v (splitR d k s).length (splitR d k s) ∧ Below w.heap.size w w' := by
  cases b1 : keepsB d k s
  · have B1 := Lib.hid b1
    have HR : Hid (splitR d k s = []) := by show _ = _; simp [splitR, b1]
    clear b1
    go_enter Tryd.func26, Tryd.ntmps26
    go_wp2_with fail
    refine (sKeepsRuns_any _ _ _ _ hs).mono ?_
    rw [B1.out]
    rintro e w' ⟨rfl, hb⟩
    have HB := Lib.hid hb
    have HO := Lib.hid ((OInts.empty w' w'.heap.size (Nat.le_refl _)).mono HB.out.size)
    have HB2 := Lib.hid ((Below.refl w'.heap.size w').alloc (Nat.le_refl _) (.cells #[] 3))
    clear hb
    go_wp2_with fail
    go_ret
    exact ⟨_, rfl, by rw [HR.out]; exact HO.out, step2 HB.out HB2.out⟩
  have B1 := Lib.hid b1
  have HR : Hid (splitR d k s = lens s) := by show _ = _; simp [splitR, b1]
  clear b1
  go_enter Tryd.func26, Tryd.ntmps26
  go_wp2_with fail
  refine (sKeepsRuns_any _ _ _ _ hs).mono ?_
  rw [B1.out]
  rintro e w1 ⟨rfl, hb⟩
  have HB := Lib.hid hb
  clear hb
  go_wp2_with fail
  refine (sLens_any s _ hs).mono ?_
  rintro e w2 ⟨v2, rfl, ho2, hb2⟩
  have HO := Lib.hid (ho2.mono HB.out.size)
  have HB2 := Lib.hid hb2
  obtain ⟨a2, c2, rfl, _⟩ := ho2.form
  clear ho2 hb2
  go_wp2_with fail
  go_ret
  exact ⟨_, rfl, by rw [HR.out]; exact HO.out, step2 HB.out HB2.out⟩
end Go.Proofs.YtobmljclokmbcaaDoor

namespace Go.Proofs.YtobmljclokmbcaaDoor
open Go.RowKit
set_option linter.all false
set_option maxHeartbeats 800000 in
theorem sameTexts_same (ao : Option Addr) (n cap : Nat) (ao' : Option Addr) (n' cap' : Nat) (ss : List ByteArray) (w : World) (h : Strs w ao n ss) (h' : Strs w ao' n' ss) :
    Calls Tryd.prog 15 #[.slice ao n cap, .slice ao' n' cap'] w fun e w' => e = .returned (.bool true) ∧ Drew w w' := by
  have hn := h.1
  have hn' := h'.1
  have hm := h.2.1
  obtain rfl : n' = n := by omega
  have H := Lib.hid h
  have H' := Lib.hid h'
  have hl1 : ((n' : Int) != (n' : Int)) = false := by simp
  clear h h' hn hn'
  go_enter Tryd.func15, Tryd.ntmps15
  go_wp2_with fail
  go_loopw [5] (fun i wr => ∃ k : Nat, k ≤ n' ∧ i = .int .i64 k ∧ Drew w wr) (fun i _ => n' - (intOf i).toNat)
  case atStart => exact ⟨0, Nat.zero_le _, rfl, Drew.refl w⟩
  case round =>
    obtain ⟨k, hk, rfl, ⟨m, rfl⟩⟩ := hrel
    by_cases hlt : k < n'
    · obtain ⟨b, o, s, rfl, hc, hs⟩ := H.out.at_ hlt
      obtain ⟨b', o', s', rfl, hc', hs'⟩ := H'.out.at_ hlt
      obtain rfl : s' = s := Option.some.inj (hs'.out.symm.trans hs.out)
      clear hs hs'
      go_wp2_with fail
      go_quiet (fail)
      go_wp2_with fail
      go_roundw
      case rel => exact ⟨k + 1, hlt, by go_num, (by first | exact Drew.refl _ | exact Drew.mk _ _ | exact (Drew.mk _ _).drewN _)⟩
      case measure => simp [intOf]; omega
    · go_wp2_with fail
      go_ret
      exact ⟨rfl, (by first | exact Drew.refl _ | exact Drew.mk _ _ | exact (Drew.mk _ _).drewN _)⟩
end Go.Proofs.YtobmljclokmbcaaDoor

namespace Go.Proofs.YtobmljclokmbcaaDoor
open Go.RowKit
set_option linter.all false
def Rows (T : List (List Int)) (m : Nat) : Prop := T.length = m ∧ ∀ r ∈ T, r.length = m
def bump (T : List (List Int)) (a b : Nat) : List (List Int) := T.set a ((T.getD a []).set b (wrap64 ((T.getD a []).getD b 0 + 1)))
def matT : List (List Int) → List Ar → List (List Int)
  | T, [] => T
  | T, x :: r => matT (bump T x.1.toNat x.2.1.toNat) r
theorem rows_get {T : List (List Int)} {m a : Nat} (h : Rows T m) (ha : a < m) : T[a]? = some (T.getD a []) ∧ (T.getD a []).length = m := by
  have hl : a < T.length := by rw [h.1]; exact ha
  have h1 : T[a]? = some T[a] := List.getElem?_eq_getElem hl
  have h2 : T.getD a [] = T[a] := by simp [List.getD, h1]
  exact ⟨by rw [h2]; exact h1, by rw [h2]; exact h.2 _ (List.getElem_mem _)⟩
theorem rows_bump {T : List (List Int)} {m a b : Nat} (h : Rows T m) (ha : a < m) : Rows (bump T a b) m := by
  refine ⟨by simp [bump, h.1], fun r hr => ?_⟩
  rcases List.mem_or_eq_of_mem_set hr with h1 | h1
  · exact h.2 r h1
  · rw [h1, List.length_set]; exact (rows_get h ha).2
theorem rows_zero (m : Nat) : Rows (List.replicate m (List.replicate m 0)) m := ⟨by simp, fun r hr => by rw [(List.mem_replicate.1 hr).2]; simp⟩
theorem mat_step {T R : List (List Int)} {xs : List Ar} {k a b : Nat} {z : Int} (hx : xs[k]? = some ((a : Int), (b : Int), z)) (h : matT T (xs.drop k) = R) : matT (bump T a b) (xs.drop (k + 1)) = R := by
  rw [drop_of_get hx] at h
  exact h
theorem mat_end {T R : List (List Int)} {xs : List Ar} {k : Nat} (hk : xs.length ≤ k) (h : matT T (xs.drop k) = R) : T = R := by
  rw [drop_all xs k hk] at h
  exact h
def matOk (L S : Int) (xs : List Ar) : Bool := isLab L S xs && decide (S ≤ 9)
def matV (L S : Int) (xs : List Ar) : List (List Int) := if matOk L S xs then matT (List.replicate S.toNat (List.replicate S.toNat 0)) xs else []
theorem matT_rows {m : Nat} {s l : Int} (hs : s < m) : ∀ {xs : List Ar} {T : List (List Int)}, (∀ x ∈ xs, arcB s l x = true) → Rows T m → Rows (matT T xs) m
  | [], _, _, h => h
  | (x, y, z) :: r, T, hx, h => by
    have h1 := arcB_get (hx _ (List.mem_cons_self ..))
    show Rows (matT (bump T x.toNat y.toNat) r) m
    refine matT_rows hs (fun q hq => hx q (List.mem_cons_of_mem _ hq)) (rows_bump h (by omega))
theorem matV_rows {L S : Int} {xs : List Ar} (h : matOk L S xs = true) : Rows (matV L S xs) S.toNat ∧ S.toNat ≤ 9 := by
  rw [matV, if_pos h]
  simp only [matOk, Bool.and_eq_true, decide_eq_true_eq] at h
  obtain ⟨_, hS, hok⟩ := isLab_get h.1
  exact ⟨matT_rows (s := S - 1) (l := L - 1) (by omega) (okFrom_all hok) (rows_zero _), by omega⟩
end Go.Proofs.YtobmljclokmbcaaDoor

namespace Go.Proofs.YtobmljclokmbcaaDoor
open Go.RowKit
set_option linter.all false
def runMV (d k : Int) : List (List Int) := matV (runL d k) (runS d k) (runX d k)
def runMO (d k : Int) : Bool := matOk (runL d k) (runS d k) (runX d k)
end Go.Proofs.YtobmljclokmbcaaDoor

namespace Go.Proofs.YtobmljclokmbcaaDoor
open Go.RowKit
set_option linter.all false
set_option maxHeartbeats 1600000 in
theorem sL4Zero_any (n c : Nat) (w : World) (hn : n ≤ 1048576) (hc : c ≤ 1048576) :
    Calls Tryd.prog 89 #[.int .i64 n, .int .i64 c] w fun e w' => ∃ v, e = .returned v ∧ OIntss w' w.heap.size v n (List.replicate n (List.replicate c 0)) ∧ Below w.heap.size w w' := by
  have hmk := make_ints c (by omega)
  go_enter Tryd.func89, Tryd.ntmps89
  go_wp2
  go_loopw [5, 6] (fun v i wr => ∃ k : Nat, k ≤ n ∧ i = .int .i64 k ∧ OIntss wr w.heap.size v k (List.replicate k (List.replicate c 0)) ∧ Below w.heap.size w wr) (fun _ i _ => n - (intOf i).toNat)
  case atStart => exact ⟨0, Nat.zero_le _, rfl, OIntss.empty w _ (Nat.le_refl _), (Below.refl _ _).alloc (Nat.le_refl _) _⟩
  case round =>
    obtain ⟨k, hk, rfl, hown, hb⟩ := hrel
    by_cases hlt : k < n
    · have Hown := Lib.hid hown
      have Hb := Lib.hid hb
      clear hown hb
      go_wp2_with (first | (at_builtin; refine wpList_push_fresh _ _ wr rfl _ _ rfl w.heap.size _ k _ rfl Hown.out (by omega) Hb.out.size ((Below.refl _ _).alloc (Nat.le_refl _) _) c _ (OInts.made wr c (by omega)) _ ?ctb rfl ?_))
      case ctb => simp
      intro v' w' hown' hbel _
      rw [rep_push] at hown'
      have hb' := Hb.out.trans hbel
      go_wp2_with fail
      go_roundw
      case rel => exact ⟨k + 1, hlt, by go_num, hown', hb'⟩
      case measure => simp [intOf]; omega
    · go_wp2
      go_ret
      have : k = n := by omega
      subst this
      exact ⟨_, rfl, hown, hb⟩
end Go.Proofs.YtobmljclokmbcaaDoor

namespace Go.Proofs.YtobmljclokmbcaaDoor
open Go.RowKit
set_option linter.all false
set_option maxHeartbeats 1600000 in
theorem iZeros_any (n : Nat) (w : World) (hn : n ≤ 1048576) :
    Calls Tryd.prog 88 #[.int .i64 n] w fun e w' => ∃ v, e = .returned v ∧ OIntss w' w.heap.size v n (List.replicate n (List.replicate n 0)) ∧ Below w.heap.size w w' := by
  have hmk := make_ints n (by omega)
  go_enter Tryd.func88, Tryd.ntmps88
  go_wp2
  go_loopw [3, 6] (fun v i wr => ∃ k : Nat, k ≤ n ∧ i = .int .i64 k ∧ OIntss wr w.heap.size v k (List.replicate k (List.replicate n 0)) ∧ Below w.heap.size w wr) (fun _ i _ => n - (intOf i).toNat)
  case atStart => exact ⟨0, Nat.zero_le _, rfl, OIntss.empty w _ (Nat.le_refl _), (Below.refl _ _).alloc (Nat.le_refl _) _⟩
  case round =>
    obtain ⟨k, hk, rfl, hown, hb⟩ := hrel
    by_cases hlt : k < n
    · have Hown := Lib.hid hown
      have Hb := Lib.hid hb
      clear hown hb
      go_wp2_with (first | (at_builtin; refine wpList_push_fresh _ _ wr rfl _ _ rfl w.heap.size _ k _ rfl Hown.out (by omega) Hb.out.size ((Below.refl _ _).alloc (Nat.le_refl _) _) n _ (OInts.made wr n (by omega)) _ ?ctb rfl ?_))
      case ctb => simp
      intro v' w' hown' hbel _
      rw [rep_push] at hown'
      have hb' := Hb.out.trans hbel
      go_wp2_with fail
      go_roundw
      case rel => exact ⟨k + 1, hlt, by go_num, hown', hb'⟩
      case measure => simp [intOf]; omega
    · go_wp2
      go_ret
      have : k = n := by omega
      subst this
      exact ⟨_, rfl, hown, hb⟩
end Go.Proofs.YtobmljclokmbcaaDoor

namespace Go.Proofs.YtobmljclokmbcaaDoor
open Go.RowKit
set_option linter.all false
set_option maxHeartbeats 3200000 in
theorem sMinor_any (p : Option Addr) (n c : Nat) (t : List (List Int)) (i j m : Nat) (w : World) (h : Intss w p n t) (hr : RowsLen t m) (hj : j < m) (hm : m ≤ 1048576) (hn : n ≤ 1048576) :
    Calls Tryd.prog 104 #[.slice p n c, .int .i64 i, .int .i64 j] w fun e w' => ∃ v, e = .returned v ∧ OIntss w' w.heap.size v (minorT t i j).length (minorT t i j) ∧ Below w.heap.size w w' := by
  have H := Lib.hid h
  have HL : Hid (t.length = n) := h.1
  have HR := Lib.hid hr
  clear h hr
  go_enter Tryd.func104, Tryd.ntmps104
  go_wp2_with fail
  go_loopw [7, 8] (fun v x wr => ∃ k : Nat, k ≤ n ∧ x = .int .i64 k ∧ OIntss wr w.heap.size v (minorTo t i j k).length (minorTo t i j k) ∧ Below w.heap.size w wr) (fun _ x _ => n - (intOf x).toNat)
  case atStart => exact ⟨0, Nat.zero_le _, rfl, by rw [minorTo_zero]; exact OIntss.empty w _ (Nat.le_refl _), (Below.refl _ _).alloc (Nat.le_refl _) _⟩
  case round =>
    obtain ⟨k, hk, rfl, hown, hbl⟩ := hrel
    obtain ⟨wo, rfl⟩ : ∃ wo : World, wo = wr := ⟨_, rfl⟩
    by_cases hlt : k < n
    · obtain ⟨b1, o1, a1, c1, r, rfl, hca, hrow, hget, hcap⟩ := H.out.cap_ hlt
      have h1 := (hbl.cell (World.block_lt_of_cell? w _ hca)).trans hca
      have hrl : r.length = m := HR.out _ _ hget.out
      by_cases hki : k = i
      · subst hki
        have e : minorTo t k j (k + 1) = minorTo t k j k := minorTo_skip (by have := HL.out; omega)
        rw [← e] at hown
        have Hown := Lib.hid hown
        have Hbl := Lib.hid hbl
        have hne : ((k : Int) == (k : Int)) = true := by simp
        clear hown hbl hca hrow hrl e
        go_wp2_with fail
        go_roundw
        case rel => exact ⟨k + 1, hlt, by go_num, Hown.out, Hbl.out⟩
        case measure => simp [intOf]; omega
      · have hne : ((k : Int) == (i : Int)) = false := by simp; omega
        have e : minorTo t i j (k + 1) = minorTo t i j k ++ [cut j r] := minorTo_step hget.out hki
        have Hown := Lib.hid hown
        have Hbl := Lib.hid hbl
        have hjr2 : j ≤ r.length := by omega
        have hjr3 : j + 1 ≤ r.length := by omega
        have hjc : j ≤ c1 := by omega
        have Hrow := Lib.hid hrow
        have E := Lib.hid e
        have HRL := Lib.hid hrl
        clear hown hbl hca hki hrow e hrl
        obtain ⟨A2, hA2⟩ : ∃ A2, (if c1 = j + 1 then a1 else a1.map (·.add (j + 1))) = A2 := ⟨_, rfl⟩
        have Hd : Hid (Ints wo A2 (r.length - (j + 1)) (r.drop (j + 1))) := by rw [← hA2]; exact (Hrow.out.keep (Hbl.out.mono (Nat.le_refl _))).drop hjr3 hcap
        have Ht : Hid (Ints wo a1 j (r.take j)) := (Hrow.out.keep (Hbl.out.mono (Nat.le_refl _))).take hjr2
        have hs1 := slice_to a1 r.length c1 j hjc
        have hs2 := slice_from a1 r.length c1 j hjr3
        rw [hA2] at hs2
        have HA2 := Lib.hid hA2
        have hw0 : Below wo.heap.size wo (wo.alloc (.cells #[] 3)) := (Below.refl _ _).alloc (Nat.le_refl _) _
        have Hw0 := Lib.hid hw0
        have ho0 : Hid (OInts (wo.alloc (.cells #[] 3)) wo.heap.size (.slice (some ⟨wo.heap.size, 0, none⟩) 0 0) 0 []) := OInts.empty wo wo.heap.size (Nat.le_refl _)
        have hjm : j ≤ 1048576 := by omega
        have hrm : r.length ≤ 1048576 := by have := HRL.out; omega
        have hjr4 : j + 1 ≤ r.length := hjr3
        have hml := minorTo_len (t := t) (i := i) (j := j) (k := k)
        have H1 := Lib.hid h1
        have h10 := (hw0.cell (World.block_lt_of_cell? wo _ h1)).trans h1
        clear h1 hcap hA2 hjc hjr2 hjr3 hw0
        go_wp2_with (first
          | (at_builtin; refine wpList_app_ints _ rfl (.tmp 20) (.tmp 26) rfl wo.heap.size _ 0 [] rfl ho0.out a1 j _ (r.take j) rfl (Ht.out.keep Hw0.out) (by omega) (by exact Hw0.out.size) ?_; intro v1 w1 ho1 hg1; rw [Nat.zero_add, List.nil_append] at ho1; obtain ⟨ao1, cap1, rfl, _⟩ := ho1.form; have Ho1 := Lib.hid ho1; have Hb1 : Hid (Below wo.heap.size wo w1) := Hw0.out.grown hg1 Hw0.out.size (fun k hk => (ho0.out.ownlt k hk).1); have h1' := (Hb1.out.cell (World.block_lt_of_cell? wo _ H1.out)).trans H1.out; clear ho1 hg1)
          | (at_builtin; refine wpList_app_ints _ rfl (.tmp 29) (.tmp 36) rfl wo.heap.size _ _ _ rfl Ho1.out A2 _ _ (r.drop (j + 1)) rfl (Hd.out.keep Hb1.out) (by omega) (by exact Hb1.out.size) ?_; intro v2 w2 ho2 hg2; obtain ⟨ao2, cap2, rfl, _⟩ := ho2.form; have Ho2 := Lib.hid ho2; have Hb2 : Hid (Below wo.heap.size wo w2) := Hb1.out.grown hg2 Hb1.out.size (fun k hk => (Ho1.out.ownlt k hk).1); clear ho2 hg2)
          | (at_builtin; refine wpList_push_fresh _ _ wo rfl (.tmp 28) (.tmp 38) rfl w.heap.size _ _ _ rfl Hown.out (by omega) Hbl.out.size Hb2.out _ _ Ho2.out _ (by rfl) rfl ?_; intro v3 w3 ho3 hb3 _; have Ho3 := Lib.hid ho3; have Hb3 := Lib.hid hb3; clear ho3 hb3))
        go_roundw
        case rel =>
          refine ⟨k + 1, hlt, by go_num, ?_, Hbl.out.trans Hb3.out⟩
          have h9 := Ho3.out
          rw [E.out, List.length_append]
          exact h9
        case measure => simp [intOf]; omega
    · go_wp2_with fail
      go_ret
      rw [minorTo_end (by have := HL.out; omega)] at hown
      exact ⟨_, rfl, hown, hbl⟩
end Go.Proofs.YtobmljclokmbcaaDoor

namespace Go.Proofs.YtobmljclokmbcaaDoor
open Go.RowKit
set_option linter.all false
theorem sMinor0_any (p : Option Addr) (n c : Nat) (t : List (List Int)) (j m : Nat) (w : World) (h : Intss w p n t) (hr : RowsLen t m) (hj : j < m) (hm : m ≤ 1048576) (hn : n ≤ 1048576) :
    Calls Tryd.prog 104 #[.slice p n c, .int .i64 0, .int .i64 j] w fun e w' => ∃ v, e = .returned v ∧ OIntss w' w.heap.size v (minorT t 0 j).length (minorT t 0 j) ∧ Below w.heap.size w w' := by
  have := sMinor_any p n c t 0 j m w h hr hj hm hn
  simpa using this

set_option maxHeartbeats 1600000 in
theorem sDet_any (m : Nat) : ∀ (p : Option Addr) (n c : Nat) (t : List (List Int)) (w : World), n = m → m ≤ 9 → Intss w p n t → RowsLen t m →
    Calls Tryd.prog 78 #[.slice p n c] w fun e w' => e = .returned (.int .i64 (det m t)) ∧ Below w.heap.size w w' := by
  induction m with
  | zero =>
    intro p n c t w hn _ _ _
    subst hn
    go_enter Tryd.func78, Tryd.ntmps78
    go_wp2_with fail
    go_ret
    exact ⟨rfl, Below.refl _ _⟩
  | succ m ih =>
    intro p n c t w hn hm h hr
    subst hn
    have HL : Hid (t.length = m + 1) := h.1
    obtain ⟨b0, o0, a0, c0, r0, rfl, hc0, hrow0, hget0⟩ := h.at_ (k := 0) (by omega)
    rw [Nat.add_zero] at hc0
    have HR0 : Hid (r0.length = m + 1) := hr _ _ hget0.out
    have hl1 : r0.length ≤ m + 1 := by have := HR0.out; omega
    have hl2 : m + 1 ≤ r0.length := by have := HR0.out; omega
    have HD : Hid (det (m + 1) t = dloop (det m) t r0 0 0 1) := by
      show det (m + 1) t = _
      have e : t.getD 0 [] = r0 := by rw [List.getD, hget0.out]; rfl
      unfold det
      rw [e]
    have hne : ((m : Int) + 1 == 0) = false := by simp; omega
    have hn0 : 0 < m + 1 := by omega
    have H := Lib.hid h
    have HRL := Lib.hid hr
    have Hrow := Lib.hid hrow0
    have IH := Lib.hid ih
    have Hc0 := Lib.hid hc0
    clear h hr hrow0 ih hc0
    go_enter Tryd.func78, Tryd.ntmps78
    go_wp2_with fail
    go_loopw [3, 4, 5] (fun s g i wr => ∃ (j : Nat) (sv gv : Int), j ≤ m + 1 ∧ i = .int .i64 j ∧ s = .int .i64 sv ∧ g = .int .i64 gv ∧ -1 ≤ gv ∧ gv ≤ 1 ∧ Below w.heap.size w wr ∧ Hid (dloop (det m) t (r0.drop j) j sv gv = det (m + 1) t)) (fun _ _ i _ => (m + 1) - (intOf i).toNat)
    case atStart => exact ⟨0, 0, 1, Nat.zero_le _, rfl, rfl, rfl, by omega, by omega, Below.refl _ _, HD.out.symm⟩
    case round =>
      obtain ⟨j, sv, gv, hj, rfl, rfl, rfl, hg1, hg2, hbl, hd⟩ := hrel
      have hc0' := (hbl.cell (World.block_lt_of_cell? w _ Hc0.out)).trans Hc0.out
      by_cases hlt : j < m + 1
      · obtain ⟨b1, o1, x, rfl, hcx, hgetx⟩ := Hrow.out.at_ (k := j) (by omega)
        have hcx' := (hbl.cell (World.block_lt_of_cell? w _ hcx)).trans hcx
        have hjr : j < r0.length := by omega
        by_cases hx0 : x = 0
        · subst hx0
          have hd1 : Hid _ := dloop_zero hgetx.out hd.out
          clear hcx hd
          go_wp2_with fail
          go_roundw
          case rel => exact ⟨j + 1, sv, -gv, hlt, by go_num, rfl, rfl, by omega, by omega, hbl, hd1⟩
          case measure => simp [intOf]; omega
        · have hd1 : Hid _ := dloop_step hgetx.out hx0 hd.out
          have hne2 : (x != 0) = true := by simp [hx0]
          have Hbl := Lib.hid hbl.drew
          have Hcx0 := Lib.hid hcx
          clear hbl hcx hd hx0
          have HML : Hid ((minorT t 0 j).length = m) := by show (minorT t 0 j).length = m; rw [minorT_len (by have := HL.out; omega), HL.out]; omega
          go_wp2_with fail
          go_region_held3 (fun w' => w'.cell? ⟨b0, o0, none⟩ = some (.slice (some ⟨b1, o1, none⟩) r0.length c0) ∧ w'.cell? ⟨b1, o1 + j, none⟩ = some (.int .i64 x)) (first | go_keep | exact ⟨q1, q2⟩ | exact ⟨q3, q4⟩) (first
            | (go_at_call 104; refine (sMinor0_any _ _ _ t j (m + 1) _ (H.out.keep (Hbl.out.mono (Nat.le_refl _))) HRL.out (by omega) (by omega) (by omega)).mono ?_; rintro e w1 ⟨v1, rfl, ho1, hb1⟩; obtain ⟨ao1, cap1, rfl, hi1⟩ := ho1.form; have Hi1 := Lib.hid hi1; have Hb1 := Lib.hid (Hbl.out.trans (hb1.mono Hbl.out.size)); have q1 := (Hb1.out.cell (World.block_lt_of_cell? w _ Hc0.out)).trans Hc0.out; have q2 := (Hb1.out.cell (World.block_lt_of_cell? w _ Hcx0.out)).trans Hcx0.out; clear ho1 hb1 hi1)
            | (go_at_call 78; refine (IH.out _ _ _ (minorT t 0 j) _ HML.out (by omega) Hi1.out (minorT_rowsLen HRL.out (by omega))).mono ?_; rintro e w2 ⟨rfl, hb2⟩; have Hb2 := Lib.hid (Hb1.out.trans (hb2.mono Hb1.out.size)); have q3 := (Hb2.out.cell (World.block_lt_of_cell? w _ Hc0.out)).trans Hc0.out; have q4 := (Hb2.out.cell (World.block_lt_of_cell? w _ Hcx0.out)).trans Hcx0.out; clear hb2))
          go_wp2_with fail
          go_roundw
          case rel => exact ⟨j + 1, _, -gv, hlt, by go_num, rfl, rfl, by omega, by omega, Hb2.out, by simp only [wrap_i64_eq]; exact hd1⟩
          case measure => simp [intOf]; omega
      · go_wp2_with fail
        go_ret
        exact ⟨ret_int (dloop_end (by omega) hd.out), hbl⟩
end Go.Proofs.YtobmljclokmbcaaDoor

namespace Go.Proofs.YtobmljclokmbcaaDoor
open Go.RowKit
set_option linter.all false
set_option maxHeartbeats 800000 in
theorem sIsMatrix_any (ao : Option Addr) (n cap : Nat) (xss : List (List Int)) (w : World) (h : Intss w ao n xss) :
    Calls Tryd.prog 117 #[.slice ao n cap] w fun e w' => e = .returned (.bool (isMat xss)) ∧ w = w' := by
  have hm := h.2.1
  have HL := Lib.hid h.1
  have hg : Hid (isMat xss = (tabIn n 0 1000000 xss && inR n 1 9)) := by show isMat xss = _; unfold isMat; rw [h.1]
  have H := Lib.hid h
  clear h
  go_enter Tryd.func117, Tryd.ntmps117
  go_wp2
  go_loop [3] (fun i => ∃ k : Nat, k ≤ n ∧ i = .int .i64 k ∧ Hid (tabIn n 0 1000000 (xss.drop k) = tabIn n 0 1000000 xss)) (fun i => n - (intOf i).toNat)
  case atStart => exact ⟨0, Nat.zero_le _, rfl, rfl⟩
  case round =>
    obtain ⟨k, hk, rfl, hr⟩ := hrel
    by_cases hlt : k < n
    · obtain ⟨b, o, ai, ci, r, rfl, hcell, hrow, hget⟩ := H.out.at_ hlt
      clear H
      have Hst := Lib.hid (tabIn_step hget.out hr.out)
      have Hrow := Lib.hid hrow
      clear hrow hr
      by_cases hrl : r.length = n
      · have hne : ((r.length : Int) != (n : Int)) = false := by simp [hrl]
        have HRL := Lib.hid hrl
        clear hrl
        go_wp2
        go_loop [4] (fun i => ∃ j : Nat, j ≤ n ∧ i = .int .i64 j ∧ Hid (allIn 0 1000000 (r.drop j) = allIn 0 1000000 r)) (fun i => n - (intOf i).toNat)
        case atStart => exact ⟨0, Nat.zero_le _, rfl, rfl⟩
        case round =>
          obtain ⟨j, hj, rfl, hrj⟩ := hrel
          by_cases hjn : j < n
          · obtain ⟨b', o', x, rfl, hcell', hget'⟩ := Hrow.out.at_ (k := j) (by have := HRL.out; omega)
            clear Hrow
            have hjr : j < r.length := by have := HRL.out; omega
            have Hsj := Lib.hid (allIn_step hget'.out hrj.out)
            clear hrj
            cases hi : inR x 0 1000000
            · have hr1 : Hid _ := Hst.out.2.1 (Hsj.out.2 hi)
              clear Hst Hsj
              go_wp2_with (first | (go_at_call 57; refine (l1In_any _ _ _ _).mono ?_; rintro e w' ⟨rfl, rfl⟩))
              go_ret
              exact ⟨ret_bool (by rw [hg.out, hr1.out]; rfl), rfl⟩
            · have hr1 : Hid _ := Hsj.out.1 hi
              clear Hst Hsj
              go_wp2_with (first | (go_at_call 57; refine (l1In_any _ _ _ _).mono ?_; rintro e w' ⟨rfl, rfl⟩))
              go_round
              case rel => exact ⟨j + 1, hjn, by go_num, hr1⟩
              case measure => simp [intOf]; omega
          · have hr1 : Hid _ := Hst.out.2.2 HRL.out (by have := hrj.out; rw [drop_all r j (by have := HRL.out; omega)] at this; exact this.symm)
            clear Hst hrj Hrow
            go_wp2
            go_round
            case rel => exact ⟨k + 1, hlt, by go_num, hr1⟩
            case measure => simp [intOf]; omega
      · have hne : ((r.length : Int) != (n : Int)) = true := by simp; omega
        have hr1 : Hid _ := Hst.out.1 hrl
        clear Hst hrl
        go_wp2
        go_ret
        exact ⟨ret_bool (by rw [hg.out, hr1.out]; rfl), rfl⟩
    · rw [drop_all xss k (by have := HL.out; omega)] at hr
      have hr1 : Hid _ := hr.out.symm
      clear hr H
      go_wp2_with (first | (go_at_call 57; refine (l1In_any _ _ _ _).mono ?_; rintro e w' ⟨rfl, rfl⟩))
      go_ret
      exact ⟨ret_bool (by rw [hg.out, hr1.out]; rfl), rfl⟩
end Go.Proofs.YtobmljclokmbcaaDoor

namespace Go.Proofs.YtobmljclokmbcaaDoor
open Go.RowKit
set_option linter.all false
set_option maxHeartbeats 1600000 in
theorem sIsSmall_any (ao : Option Addr) (n cap : Nat) (xss : List (List Int)) (w : World) (h : Intss w ao n xss) :
    Calls Tryd.prog 95 #[.slice ao n cap] w fun e w' => e = .returned (.bool (isSmallM xss)) ∧ w = w' := by
  have hm := h.2.1
  have HL := Lib.hid h.1
  have H := Lib.hid h
  have hg0 : Hid (isSmallM xss = (isMat xss && (!decide (4 < n) && le9T xss))) := by show isSmallM xss = _; unfold isSmallM; rw [h.1]
  clear h
  go_enter Tryd.func95, Tryd.ntmps95
  go_wp2
  go_loop [3] (fun i => ∃ k : Nat, k ≤ n ∧ i = .int .i64 k ∧ Hid (le9T (xss.drop k) = le9T xss)) (fun i => n - (intOf i).toNat)
  case atStart => exact ⟨0, Nat.zero_le _, rfl, rfl⟩
  case round =>
    obtain ⟨k, hk, rfl, hr⟩ := hrel
    by_cases hlt : k < n
    · obtain ⟨b, o, ai, ci, r, rfl, hcell, hrow, hget⟩ := H.out.at_ hlt
      have hrb := hrow.2.1
      have Hst := Lib.hid (le9T_step hget.out hr.out)
      have Hrow := Lib.hid hrow
      clear hrow hr H
      go_wp2_with fail
      go_loop [4] (fun i => ∃ j : Nat, j ≤ r.length ∧ i = .int .i64 j ∧ Hid (le9 (r.drop j) = le9 r)) (fun i => r.length - (intOf i).toNat)
      case atStart => exact ⟨0, Nat.zero_le _, rfl, rfl⟩
      case round =>
        obtain ⟨j, hj, rfl, hrj⟩ := hrel
        by_cases hjn : j < r.length
        · obtain ⟨b', o', x, rfl, hcell', hget'⟩ := Hrow.out.at_ hjn
          have Hsj := Lib.hid (le9_step hget'.out hrj.out)
          clear hrj Hrow
          by_cases h9 : 9 < x
          · have hr1 : Hid _ := Hst.out.1 (Hsj.out.1 h9)
            clear Hst Hsj
            go_wp2_with fail
            go_ret
            exact ⟨ret_bool (by rw [hg0.out, hr1.out]; simp), rfl⟩
          · have hr1 : Hid _ := Hsj.out.2 h9
            clear Hst Hsj
            go_wp2_with fail
            go_round
            case rel => exact ⟨j + 1, hjn, by go_num, hr1⟩
            case measure => simp [intOf]; omega
        · have hr1 : Hid _ := Hst.out.2 (by have := hrj.out; rw [drop_all r j (by omega)] at this; exact this.symm)
          clear Hst hrj Hrow
          go_wp2_with fail
          go_round
          case rel => exact ⟨k + 1, hlt, by go_num, hr1⟩
          case measure => simp [intOf]; omega
    · rw [drop_all xss k (by have := HL.out; omega)] at hr
      have hr1 : Hid _ := hr.out.symm
      clear hr
      cases hmat : isMat xss
      · have hg : Hid (isSmallM xss = false) := by show isSmallM xss = _; rw [hg0.out, hmat]; rfl
        go_wp2_with (first | (go_at_call 117; refine (sIsMatrix_any _ _ _ xss _ H.out).mono ?_; rintro e w' ⟨rfl, rfl⟩))
        go_ret
        exact ⟨ret_bool hg.out.symm, rfl⟩
      · have hg : Hid (isSmallM xss = decide ((n : Int) ≤ 4)) := by
          show isSmallM xss = _
          rw [hg0.out, hmat, hr1.out]
          by_cases h4 : n ≤ 4
          · have e1 : ¬ 4 < n := by omega
            have e2 : (n : Int) ≤ 4 := by omega
            simp [e1, e2, le9T]
          · have e1 : 4 < n := by omega
            have e2 : ¬ (n : Int) ≤ 4 := by omega
            simp [e1, e2]
        go_wp2_with (first | (go_at_call 117; refine (sIsMatrix_any _ _ _ xss _ H.out).mono ?_; rintro e w' ⟨rfl, rfl⟩))
        go_ret
        exact ⟨ret_bool hg.out.symm, rfl⟩
end Go.Proofs.YtobmljclokmbcaaDoor

namespace Go.Proofs.YtobmljclokmbcaaDoor
open Go.RowKit
set_option linter.all false
def runBound (d k : Int) : Int := if runMO d k && !decide (3 < k) then floorG (runMV d k) 100 else -1
end Go.Proofs.YtobmljclokmbcaaDoor

namespace Go.Proofs.YtobmljclokmbcaaDoor
open Go.RowKit
set_option linter.all false
set_option maxHeartbeats 3200000 in
theorem iLess_any (p : Option Addr) (n c : Nat) (t : List (List Int)) (q d : Int) (w : World) (h : Intss w p n t) (hr : RowsLen t n) (hn : n ≤ 1048576) (hq1 : -1000000 ≤ q) (hq2 : q ≤ 1000000) (hd1 : -1000000 ≤ d) (hd2 : d ≤ 1000000) :
    Calls Tryd.prog 115 #[.slice p n c, .int .i64 q, .int .i64 d] w fun e w' => ∃ v, e = .returned v ∧ OIntss w' w.heap.size v n (lessT q d t) ∧ Below w.heap.size w w' := by
  have H := Lib.hid h
  have HR := Lib.hid hr
  have HL : Hid (t.length = n) := h.1
  clear h hr
  go_enter Tryd.func115, Tryd.ntmps115
  go_wp2_with fail
  refine (iZeros_any n _ hn).mono ?_
  rintro e w1 ⟨v, rfl, hown, hbl⟩
  obtain ⟨ao, cap, rfl, _⟩ := hown.form
  go_wp2_with fail
  go_loopw [17] (fun i wr => ∃ k : Nat, k ≤ n ∧ i = .int .i64 k ∧ OIntss wr w.heap.size (.slice ao n cap) n ((lessT q d t).take k ++ List.replicate (n - k) (List.replicate n 0)) ∧ Below w.heap.size w wr) (fun i _ => n - (intOf i).toNat)
  case atStart => exact ⟨0, Nat.zero_le _, rfl, by rw [fill_start]; exact hown, hbl⟩
  case round =>
    obtain ⟨i, hi, rfl, hown, hbl⟩ := hrel
    obtain ⟨wo, rfl⟩ : ∃ wo : World, wo = wr := ⟨_, rfl⟩
    by_cases hlt : i < n
    · obtain ⟨b1, o1, a1, c1, r, rfl, hca, hrow, hget⟩ := H.out.at_ hlt
      have HRL : Hid (r.length = n) := HR.out _ _ hget.out
      have hrl1 : r.length ≤ n := by have := HRL.out; omega
      have hrl2 : n ≤ r.length := by have := HRL.out; omega
      have HMG := Lib.hid (lessT_get (q := q) (d := d) hget.out)
      rw [fill_open hlt] at hown
      have HAl : Hid (((lessT q d t).take i).length = i) := take_len (by rw [lessT_len]; have := HL.out; omega)
      obtain ⟨g, cap', e⟩ := hown.head (by omega)
      injection e with e1 e2 e3
      subst e1
      clear e2 e3 cap'
      have h1 := (hbl.cell (World.block_lt_of_cell? w _ hca)).trans hca
      have Hrow := Lib.hid hrow
      have Hown := Lib.hid hown
      have Hbl := Lib.hid hbl
      clear hown hbl hrow hca
      go_wp2_with fail
      clear h1
      go_loopw [24] (fun i' wx => ∃ j : Nat, j ≤ r.length ∧ i' = .int .i64 j ∧ OIntss wx w.heap.size (.slice (some ⟨g, 0, none⟩) n cap) n ((lessT q d t).take i ++ ((negRow d r).take j ++ List.replicate (n - j) 0) :: List.replicate (n - (i + 1)) (List.replicate n 0)) ∧ Below w.heap.size w wx) (fun i _ => r.length - (intOf i).toNat)
      case atStart => exact ⟨0, Nat.zero_le _, rfl, by rw [fill_start]; exact Hown.out, Hbl.out⟩
      case round =>
        obtain ⟨j, hj, rfl, hown, hbl⟩ := hrel
        clear Hown Hbl
        by_cases hjn : j < r.length
        · obtain ⟨b3, o3, x, rfl, hcx, hgetx⟩ := Hrow.out.at_ hjn
          have hjn' : j < n := by omega
          rw [fill_open hjn'] at hown
          have HBl : Hid (((negRow d r).take j).length = j) := take_len (by rw [negRow_len]; omega)
          have HG := Lib.hid (negRow_get (d := d) hgetx.out)
          have h3 := (hbl.cell (World.block_lt_of_cell? w _ hcx)).trans hcx
          obtain ⟨gk, ck, h5, ho, hne, hlo⟩ := hown.rowAt (at_mid HAl.out) (by simp; omega)
          have hset := hown.setIn (at_mid HAl.out) h5 ho j (wrap64 (-d * x))
          rw [set_mid HAl.out, set_mid HBl.out, fill_shut HG.out] at hset
          have hlen : ((negRow d r).take j ++ 0 :: List.replicate (n - (j + 1)) 0).length = n := by
            rw [List.length_append, HBl.out]; simp; omega
          rw [hlen] at h5 ho
          have h6 := ho.cell j hjn'
          have h7 := ho.frozen j
          have hb' := hbl.setCell (p := ⟨gk, j, none⟩) hlo (.int .i64 (wrap64 (-d * x)))
          have Hset := Lib.hid hset
          have Hb' := Lib.hid hb'
          clear hset hb' ho hown hbl hlen hcx
          go_wp2_with fail
          go_roundw
          case rel => exact ⟨j + 1, hjn, by go_num, Hset.out, Hb'.out⟩
          case measure => simp [intOf]; omega
        · have hjn' : j = n := by omega
          subst hjn'
          rw [fill_end (by rw [negRow_len]; exact HRL.out)] at hown
          have hxi : (negRow d r)[i]? = some ((negRow d r).getD i 0) := by
            have hl : i < (negRow d r).length := by rw [negRow_len]; omega
            simp [List.getD, hl]
          have HX := Lib.hid hxi
          obtain ⟨gk, ck, h5, ho, hne, hlo⟩ := hown.rowAt (at_mid HAl.out) (by rw [negRow_len]; omega)
          have hset := hown.setIn (at_mid HAl.out) h5 ho i (wrap64 ((negRow d r).getD i 0 + q))
          rw [set_mid HAl.out] at hset
          have hset' := (congrArg (OIntss _ w.heap.size _ j) (fill_shut HMG.out)) ▸ hset
          rw [negRow_len, HRL.out] at h5 ho
          have h6 := ho.cell i (by omega)
          have h7 := ho.frozen i
          have hb' := hbl.setCell (p := ⟨gk, i, none⟩) hlo (.int .i64 (wrap64 ((negRow d r).getD i 0 + q)))
          have Hset := Lib.hid hset'
          have Hb' := Lib.hid hb'
          clear hset hset' hb' ho hown hbl hxi
          generalize (negRow d r).getD i 0 = z at *
          go_wp2_with fail
          go_roundw
          case rel => exact ⟨i + 1, hlt, by go_num, Hset.out, Hb'.out⟩
          case measure => simp [intOf]; omega
    · go_wp2_with fail
      go_ret
      have : i = n := by omega
      subst this
      rw [fill_end (by rw [lessT_len]; exact HL.out)] at hown
      exact ⟨_, rfl, hown, hbl⟩
end Go.Proofs.YtobmljclokmbcaaDoor

namespace Go.Proofs.YtobmljclokmbcaaDoor
open Go.RowKit
set_option linter.all false
set_option maxHeartbeats 3200000 in
theorem iWithout_any (p : Option Addr) (n c : Nat) (t : List (List Int)) (i j m : Nat) (w : World) (h : Intss w p n t) (hr : RowsLen t m) (hj : j < m) (hm : m ≤ 1048576) (hn : n ≤ 1048576) :
    Calls Tryd.prog 120 #[.slice p n c, .int .i64 i, .int .i64 j] w fun e w' => ∃ v, e = .returned v ∧ OIntss w' w.heap.size v (minorT t i j).length (minorT t i j) ∧ Below w.heap.size w w' := by
  have H := Lib.hid h
  have HL : Hid (t.length = n) := h.1
  have HR := Lib.hid hr
  clear h hr
  go_enter Tryd.func120, Tryd.ntmps120
  go_wp2_with fail
  go_loopw [7, 13] (fun v x wr => ∃ k : Nat, k ≤ n ∧ x = .int .i64 k ∧ OIntss wr w.heap.size v (minorTo t i j k).length (minorTo t i j k) ∧ Below w.heap.size w wr) (fun _ x _ => n - (intOf x).toNat)
  case atStart => exact ⟨0, Nat.zero_le _, rfl, by rw [minorTo_zero]; exact OIntss.empty w _ (Nat.le_refl _), (Below.refl _ _).alloc (Nat.le_refl _) _⟩
  case round =>
    obtain ⟨k, hk, rfl, hown, hbl⟩ := hrel
    obtain ⟨wo, rfl⟩ : ∃ wo : World, wo = wr := ⟨_, rfl⟩
    by_cases hlt : k < n
    · obtain ⟨b1, o1, a1, c1, r, rfl, hca, hrow, hget, hcap⟩ := H.out.cap_ hlt
      have h1 := (hbl.cell (World.block_lt_of_cell? w _ hca)).trans hca
      have hrl : r.length = m := HR.out _ _ hget.out
      by_cases hki : k = i
      · subst hki
        have e : minorTo t k j (k + 1) = minorTo t k j k := minorTo_skip (by have := HL.out; omega)
        rw [← e] at hown
        have Hown := Lib.hid hown
        have Hbl := Lib.hid hbl
        have hne : ((k : Int) != (k : Int)) = false := by simp
        clear hown hbl hca hrow hrl e
        go_wp2_with fail
        go_roundw
        case rel => exact ⟨k + 1, hlt, by go_num, Hown.out, Hbl.out⟩
        case measure => simp [intOf]; omega
      · have hne : ((k : Int) != (i : Int)) = true := by simp; omega
        have e : minorTo t i j (k + 1) = minorTo t i j k ++ [cut j r] := minorTo_step hget.out hki
        have Hown := Lib.hid hown
        have Hbl := Lib.hid hbl
        have hjr : j < r.length := by omega
        have hjr2 : j ≤ r.length := by omega
        have hjr3 : j + 1 ≤ r.length := by omega
        have hjc : j ≤ c1 := by omega
        have hjc3 : j + 1 ≤ c1 := by omega
        have hw1 : IntKind.i64.wrap ((j : Int) + 1) = (j : Int) + 1 := IntWalk.i64_in _ (by omega)
        have hw2 : 0 ≤ (j : Int) + 1 := by omega
        have hw3 : ((j : Int) + 1).toNat = j + 1 := by omega
        have Hrow := Lib.hid hrow
        have E := Lib.hid e
        have HRL := Lib.hid hrl
        clear hown hbl hca hki hrow e hrl
        have Hcap := Lib.hid hcap
        obtain ⟨A2, hA2⟩ : ∃ A2, (if c1 = j + 1 then a1 else a1.map (·.add (j + 1))) = A2 := ⟨_, rfl⟩
        have Hd : Hid (Ints wo A2 (r.length - (j + 1)) (r.drop (j + 1))) := by rw [← hA2]; exact (Hrow.out.keep (Hbl.out.mono (Nat.le_refl _))).drop hjr3 hcap
        have Ht : Hid (Ints wo a1 j (r.take j)) := (Hrow.out.keep (Hbl.out.mono (Nat.le_refl _))).take hjr2
        have hs1 := slice_to a1 r.length c1 j hjc
        have hs2 := slice_from a1 r.length c1 j hjr3
        rw [hA2] at hs2
        have HA2 := Lib.hid hA2
        clear hcap hA2 hjc hjc3 hjr hjr2 hjr3
        go_wp2_with fail
        have hw0 : Below wo.heap.size wo (wo.alloc (.cells #[] 3)).drew := ((Below.refl _ _).alloc (Nat.le_refl _) _).drew
        have Hw0 := Lib.hid hw0
        have ho0 : Hid (OInts (wo.alloc (.cells #[] 3)).drew wo.heap.size (.slice (some ⟨wo.heap.size, 0, none⟩) 0 0) 0 []) := (OInts.empty wo wo.heap.size (Nat.le_refl _)).drewN 1
        have hjm : j ≤ 1048576 := by omega
        have hrm : r.length ≤ 1048576 := by have := HRL.out; omega
        have hjr4 : j + 1 ≤ r.length := by have := HRL.out; omega
        have hml := minorTo_len (t := t) (i := i) (j := j) (k := k)
        clear hw0
        go_region_law (first
          | (refine step_of_wp rfl (wp_app_ints _ (.tmp 22) (.tmp 25) rfl wo.heap.size _ 0 [] rfl ho0.out a1 j _ (r.take j) rfl (Ht.out.keep Hw0.out) (by omega) (by exact Hw0.out.size) ?_); intro v1 w1 ho1 hg1; rw [Nat.zero_add, List.nil_append] at ho1; have Ho1 := Lib.hid ho1; have Hb1 : Hid (Below wo.heap.size wo w1) := Hw0.out.grown hg1 Hw0.out.size (fun k hk => (ho0.out.ownlt k hk).1); clear ho1 hg1)
          | (refine step_of_wp rfl (wp_app_ints _ (.tmp 26) (.tmp 30) rfl wo.heap.size _ _ _ rfl Ho1.out A2 _ _ (r.drop (j + 1)) rfl (Hd.out.keep Hb1.out) (by omega) (by exact Hb1.out.size) ?_); intro v2 w2 ho2 hg2; obtain ⟨ao2, cap2, rfl, _⟩ := ho2.form; have Ho2 := Lib.hid ho2; have Hb2 : Hid (Below wo.heap.size wo w2) := Hb1.out.grown hg2 Hb1.out.size (fun k hk => (Ho1.out.ownlt k hk).1); clear ho2 hg2)
          | (refine step_of_wp rfl (wp_push_fresh _ _ wo (.tmp 21) (.tmp 32) rfl w.heap.size _ _ _ rfl Hown.out (by omega) Hbl.out.size Hb2.out _ _ Ho2.out _ (by rfl) rfl ?_); intro v3 w3 ho3 hb3 _; have Ho3 := Lib.hid ho3; have Hb3 := Lib.hid hb3; clear ho3 hb3))
        go_wp2_with fail
        go_roundw
        case rel =>
          refine ⟨k + 1, hlt, by go_num, ?_, Hbl.out.trans Hb3.out⟩
          have h9 := Ho3.out
          rw [E.out, List.length_append]
          exact h9
        case measure => simp [intOf]; omega
    · go_wp2_with fail
      go_ret
      rw [minorTo_end (by have := HL.out; omega)] at hown
      exact ⟨_, rfl, hown, hbl⟩
end Go.Proofs.YtobmljclokmbcaaDoor

namespace Go.Proofs.YtobmljclokmbcaaDoor
open Go.RowKit
set_option linter.all false
theorem iWithout0_any (p : Option Addr) (n c : Nat) (t : List (List Int)) (j m : Nat) (w : World) (h : Intss w p n t) (hr : RowsLen t m) (hj : j < m) (hm : m ≤ 1048576) (hn : n ≤ 1048576) :
    Calls Tryd.prog 120 #[.slice p n c, .int .i64 0, .int .i64 j] w fun e w' => ∃ v, e = .returned v ∧ OIntss w' w.heap.size v (minorT t 0 j).length (minorT t 0 j) ∧ Below w.heap.size w w' := by
  have := iWithout_any p n c t 0 j m w h hr hj hm hn
  simpa using this

set_option maxHeartbeats 1600000 in
theorem iDet_any (m : Nat) : ∀ (p : Option Addr) (n c : Nat) (t : List (List Int)) (w : World), n = m → m ≤ 9 → Intss w p n t → RowsLen t m →
    Calls Tryd.prog 102 #[.slice p n c] w fun e w' => e = .returned (.int .i64 (det m t)) ∧ Below w.heap.size w w' := by
  induction m with
  | zero =>
    intro p n c t w hn _ _ _
    subst hn
    go_enter Tryd.func102, Tryd.ntmps102
    go_wp2_with fail
    go_ret
    exact ⟨rfl, Below.refl _ _⟩
  | succ m ih =>
    intro p n c t w hn hm h hr
    subst hn
    have HL : Hid (t.length = m + 1) := h.1
    obtain ⟨b0, o0, a0, c0, r0, rfl, hc0, hrow0, hget0⟩ := h.at_ (k := 0) (by omega)
    rw [Nat.add_zero] at hc0
    have HR0 : Hid (r0.length = m + 1) := hr _ _ hget0.out
    have hl1 : r0.length ≤ m + 1 := by have := HR0.out; omega
    have hl2 : m + 1 ≤ r0.length := by have := HR0.out; omega
    have HD : Hid (det (m + 1) t = dloop (det m) t r0 0 0 1) := by
      show det (m + 1) t = _
      have e : t.getD 0 [] = r0 := by rw [List.getD, hget0.out]; rfl
      unfold det
      rw [e]
    have hne : ((m : Int) + 1 == 0) = false := by simp; omega
    have H := Lib.hid h
    have HRL := Lib.hid hr
    have Hrow := Lib.hid hrow0
    have IH := Lib.hid ih
    clear h hr hrow0 ih
    go_enter Tryd.func102, Tryd.ntmps102
    go_wp2_with fail
    go_loopw [3, 4, 14] (fun s g i wr => ∃ (j : Nat) (sv gv : Int), j ≤ r0.length ∧ i = .int .i64 j ∧ s = .int .i64 sv ∧ g = .int .i64 gv ∧ -1 ≤ gv ∧ gv ≤ 1 ∧ Below w.heap.size w wr ∧ Hid (dloop (det m) t (r0.drop j) j sv gv = det (m + 1) t)) (fun _ _ i _ => (m + 1) - (intOf i).toNat)
    case atStart => exact ⟨0, 0, 1, Nat.zero_le _, rfl, rfl, rfl, by omega, by omega, Below.refl _ _, HD.out.symm⟩
    case round =>
      obtain ⟨j, sv, gv, hj, rfl, rfl, rfl, hg1, hg2, hbl, hd⟩ := hrel
      by_cases hlt : j < r0.length
      · obtain ⟨b1, o1, x, rfl, hcx, hgetx⟩ := Hrow.out.at_ hlt
        have hcx' := (hbl.cell (World.block_lt_of_cell? w _ hcx)).trans hcx
        by_cases hx0 : x = 0
        · subst hx0
          have hd1 : Hid _ := dloop_zero hgetx.out hd.out
          clear hcx hd
          go_wp2_with fail
          go_roundw
          case rel => exact ⟨j + 1, sv, -gv, hlt, by go_num, rfl, rfl, by omega, by omega, hbl, hd1⟩
          case measure => simp [intOf]; omega
        · have hd1 : Hid _ := dloop_step hgetx.out hx0 hd.out
          have hne2 : (x != 0) = true := by simp [hx0]
          clear hcx hd hx0
          have Hbl := Lib.hid hbl
          clear hbl
          go_wp2_with fail
          refine (iWithout0_any _ _ _ t j (m + 1) _ (H.out.keep (Hbl.out.mono (Nat.le_refl _))) HRL.out (by omega) (by omega) (by omega)).mono ?_
          rintro e w1 ⟨v1, rfl, ho1, hb1⟩
          obtain ⟨ao1, cap1, rfl, hi1⟩ := ho1.form
          have hml : (minorT t 0 j).length = m := by rw [minorT_len (by have := HL.out; omega), HL.out]; omega
          have Hi1 := Lib.hid hi1
          have Hb1 := Lib.hid (Hbl.out.trans (hb1.mono Hbl.out.size))
          have HML := Lib.hid hml
          clear ho1 hb1 hi1 hml
          go_wp2_with fail
          refine (IH.out _ _ _ (minorT t 0 j) _ HML.out (by omega) Hi1.out (minorT_rowsLen HRL.out (by omega))).mono ?_
          rintro e w2 ⟨rfl, hb2⟩
          have Hb2 := Lib.hid (Hb1.out.trans (hb2.mono Hb1.out.size))
          clear hb2
          go_wp2_with fail
          go_roundw
          case rel => exact ⟨j + 1, _, -gv, hlt, by go_num, rfl, rfl, by omega, by omega, Hb2.out, hd1⟩
          case measure => simp [intOf]; omega
      · go_wp2_with fail
        go_ret
        exact ⟨ret_int (dloop_end (by omega) hd.out), hbl⟩
end Go.Proofs.YtobmljclokmbcaaDoor

namespace Go.Proofs.YtobmljclokmbcaaDoor
open Go.RowKit
set_option linter.all false
set_option maxRecDepth 20000 in
set_option maxHeartbeats 6400000 in
theorem iBelow_any (p : Option Addr) (n c : Nat) (m : List (List Int)) (q d : Int) (w : World) (h : Intss w p n m) (hsm : isSmallM m = true) (hq : 0 ≤ q) (hq2 : q ≤ 4000) (hd : 1 ≤ d) (hd2 : d ≤ 100) :
    Calls Tryd.prog 94 #[.slice p n c, .int .i64 q, .int .i64 d] w fun e w' => e = .returned (.bool (belowM m q d)) ∧ Below w.heap.size w w' := by
  have hm := isSmallM_mat hsm
  have HL : Hid (m.length = n) := h.1
  have HR := Lib.hid (isMat_rowsLen hm.1 HL.out)
  have hn4 : n ≤ 4 := by have := HL.out; omega
  have H := Lib.hid h
  have HTR := Lib.hid (lessT_rowsLen (q := q) (d := d) HR.out)
  have HD : Hid (belF (lessT q d m) 0 (n - 0) = belowM m q d) := by show _ = _; unfold belowM; rw [HL.out]; rfl
  clear h hsm hm
  go_enter Tryd.func94, Tryd.ntmps94
  go_wp2_with fail
  refine (iLess_any _ _ _ m q d _ H.out HR.out (by omega) (by omega) (by omega) (by omega) (by omega)).mono ?_
  rintro e w1 ⟨v1, rfl, ho1, hb1⟩
  obtain ⟨ao1, cap1, rfl, hi1⟩ := ho1.form
  have hcap := Intss.capLe ho1 rfl
  have HI := Lib.hid hi1
  have HB := Lib.hid hb1
  clear ho1 hi1 hb1
  go_wp2_with fail
  go_loopw [8] (fun x wr => ∃ k : Nat, k ≤ n ∧ x = .int .i64 ((k : Int) + 1) ∧ Hid (belF (lessT q d m) k (n - k) = belowM m q d) ∧ Below w.heap.size w wr ∧ Below w1.heap.size w1 wr) (fun x _ => n + 1 - (intOf x).toNat)
  case atStart => exact ⟨0, Nat.zero_le _, rfl, HD.out, HB.out, Below.refl _ _⟩
  case round =>
    obtain ⟨k, hk, rfl, hr, hbl, hb1⟩ := hrel
    have Hbl := Lib.hid hbl
    have Hb1 := Lib.hid hb1
    clear hbl hb1 HD
    by_cases hlt : k < n
    · have HST := Lib.hid (bel_step hlt rfl hr.out)
      have hcast : ((k : Int) + 1) = ((k + 1 : Nat) : Int) := by omega
      clear hr
      obtain ⟨z, hz⟩ : ∃ z, det (k + 1) (partT (lessT q d m) (k + 1)) = z := ⟨_, rfl⟩
      have HZ := Lib.hid hz
      rw [hz] at HST
      clear hz
      have HC := fun W (hW : Below w1.heap.size w1 W) => iFirstN_any ao1 n cap1 (lessT q d m) (k + 1) n W (HI.out.keep hW) HTR.out (by omega) (by omega) hcap (by omega)
      rw [← hcast] at HC
      have HC := Lib.hid HC
      clear hcast
      by_cases hz0 : 0 < z
      · have hd0 : decide (z ≤ 0) = false := decide_eq_false (by omega)
        have HN := Lib.hid (HST.out.1 hz0)
        clear HST
        go_wp2_with fail
        refine (HC.out _ Hb1.out).mono ?_
        rintro e w2 ⟨a2, c2, rfl, hi2, hb2⟩
        have HI2 := Lib.hid hi2
        have HB2 := Lib.hid hb2
        clear hi2 hb2
        go_wp2_with fail
        refine (iDet_any (k + 1) _ _ _ (partT (lessT q d m) (k + 1)) _ (by omega) (by omega) (by exact_mod_cast HI2.out) (partT_rowsLen _ _)).mono ?_
        rw [HZ.out]
        rintro e w3 ⟨rfl, hb3⟩
        have HB3 := Lib.hid (step2 HB2.out hb3)
        clear hb3
        go_wp2_with fail
        go_roundw
        case rel => exact ⟨k + 1, hlt, by go_num, HN.out, Hbl.out.trans (HB3.out.mono Hbl.out.size), step2 Hb1.out HB3.out⟩
        case measure => simp [intOf]; omega
      · have hd0 : decide (z ≤ 0) = true := decide_eq_true (by omega)
        have HN := Lib.hid (HST.out.2 hz0)
        clear HST
        go_wp2_with fail
        refine (HC.out _ Hb1.out).mono ?_
        rintro e w2 ⟨a2, c2, rfl, hi2, hb2⟩
        have HI2 := Lib.hid hi2
        have HB2 := Lib.hid hb2
        clear hi2 hb2
        go_wp2_with fail
        refine (iDet_any (k + 1) _ _ _ (partT (lessT q d m) (k + 1)) _ (by omega) (by omega) (by exact_mod_cast HI2.out) (partT_rowsLen _ _)).mono ?_
        rw [HZ.out]
        rintro e w3 ⟨rfl, hb3⟩
        have HB3 := Lib.hid (step2 HB2.out hb3)
        clear hb3
        go_wp2_with fail
        go_ret
        exact ⟨ret_bool HN.out.symm, Hbl.out.trans (HB3.out.mono Hbl.out.size)⟩
    · have HN : Hid (belowM m q d = true) := by
        show _ = _
        rw [← hr.out, show n - k = 0 by omega]; rfl
      clear hr
      go_wp2_with fail
      go_ret
      exact ⟨ret_bool HN.out.symm, Hbl.out⟩
end Go.Proofs.YtobmljclokmbcaaDoor

namespace Go.Proofs.YtobmljclokmbcaaDoor
open Go.RowKit
set_option linter.all false
set_option maxHeartbeats 800000 in
theorem iIsMatrix_any (ao : Option Addr) (n cap : Nat) (xss : List (List Int)) (w : World) (h : Intss w ao n xss) :
    Calls Tryd.prog 114 #[.slice ao n cap] w fun e w' => e = .returned (.bool (isMat xss)) ∧ w = w' := by
  have hm := h.2.1
  have HL := Lib.hid h.1
  have H := Lib.hid h
  have hg0 : Hid (isMat xss = (tabIn n 0 1000000 xss && inR n 1 9)) := by show isMat xss = _; unfold isMat; rw [h.1]
  clear h
  by_cases h1 : n < 1
  · have hg : Hid (isMat xss = false) := by show isMat xss = _; rw [hg0.out, inR_no (.inl (by omega))]; simp
    have hd : decide ((n : Int) < 1) = true := by simp; omega
    clear H hg0
    go_enter Tryd.func114, Tryd.ntmps114
    go_wp2
    go_ret
    exact ⟨ret_bool hg.out.symm, rfl⟩
  · by_cases h9 : 9 < n
    · have hg : Hid (isMat xss = false) := by show isMat xss = _; rw [hg0.out, inR_no (.inr (by omega))]; simp
      have hd : decide ((n : Int) < 1) = false := by simp; omega
      clear H hg0
      go_enter Tryd.func114, Tryd.ntmps114
      go_wp2
      go_ret
      exact ⟨ret_bool hg.out.symm, rfl⟩
    · have hg : Hid (isMat xss = tabIn n 0 1000000 xss) := by show isMat xss = _; rw [hg0.out, inR_mk ⟨by omega, by omega⟩]; simp
      have hd : decide ((n : Int) < 1) = false := by simp; omega
      clear hg0
      go_enter Tryd.func114, Tryd.ntmps114
      go_wp2
      go_loop [17] (fun i => ∃ k : Nat, k ≤ n ∧ i = .int .i64 k ∧ Hid (tabIn n 0 1000000 (xss.drop k) = tabIn n 0 1000000 xss)) (fun i => n - (intOf i).toNat)
      case atStart => exact ⟨0, Nat.zero_le _, rfl, rfl⟩
      case round =>
        obtain ⟨k, hk, rfl, hr⟩ := hrel
        by_cases hlt : k < n
        · obtain ⟨b, o, ai, ci, r, rfl, hcell, hrow, hget⟩ := H.out.at_ hlt
          clear H
          have Hst := Lib.hid (tabIn_step hget.out hr.out)
          have Hrow := Lib.hid hrow
          clear hrow hr
          by_cases hrl : r.length = n
          · have hne : ((r.length : Int) != (n : Int)) = false := by simp [hrl]
            have hrl1 : r.length ≤ n := by omega
            have hrl2 : n ≤ r.length := by omega
            have HRL := Lib.hid hrl
            clear hrl
            go_wp2
            go_loop [28] (fun i => ∃ j : Nat, j ≤ r.length ∧ i = .int .i64 j ∧ Hid (allIn 0 1000000 (r.drop j) = allIn 0 1000000 r)) (fun i => n - (intOf i).toNat)
            case atStart => exact ⟨0, Nat.zero_le _, rfl, rfl⟩
            case round =>
              obtain ⟨j, hj, rfl, hrj⟩ := hrel
              by_cases hjr : j < r.length
              · obtain ⟨b', o', x, rfl, hcell', hget'⟩ := Hrow.out.at_ (k := j) hjr
                clear Hrow
                have Hsj := Lib.hid (allIn_step hget'.out hrj.out)
                clear hrj
                by_cases h0 : x < 0
                · have hr1 : Hid _ := Hst.out.2.1 (Hsj.out.2 (inR_no (.inl h0)))
                  clear Hst Hsj
                  have hx : decide (x < 0) = true := by simpa using h0
                  go_wp2
                  go_ret
                  exact ⟨ret_bool (by rw [hg.out, hr1.out]), rfl⟩
                · have hx : decide (x < 0) = false := by simpa using h0
                  by_cases h2 : 1000000 < x
                  · have hr1 : Hid _ := Hst.out.2.1 (Hsj.out.2 (inR_no (.inr h2)))
                    clear Hst Hsj
                    go_wp2
                    go_ret
                    exact ⟨ret_bool (by rw [hg.out, hr1.out]), rfl⟩
                  · have hr1 : Hid _ := Hsj.out.1 (inR_mk ⟨by omega, by omega⟩)
                    clear Hst Hsj
                    go_wp2
                    go_round
                    case rel => exact ⟨j + 1, hjr, by go_num, hr1⟩
                    case measure => simp [intOf]; omega
              · have hr1 : Hid _ := Hst.out.2.2 HRL.out (by have := hrj.out; rw [drop_all r j (by omega)] at this; exact this.symm)
                clear Hst hrj Hrow
                go_wp2
                go_round
                case rel => exact ⟨k + 1, hlt, by go_num, hr1⟩
                case measure => simp [intOf]; omega
          · have hne : ((r.length : Int) != (n : Int)) = true := by simp; omega
            have hr1 : Hid _ := Hst.out.1 hrl
            clear Hst hrl
            go_wp2
            go_ret
            exact ⟨ret_bool (by rw [hg.out, hr1.out]), rfl⟩
        · rw [drop_all xss k (by have := HL.out; omega)] at hr
          have hr1 : Hid _ := hr.out.symm
          clear hr H
          go_wp2
          go_ret
          exact ⟨ret_bool (by rw [hg.out, hr1.out]; rfl), rfl⟩
end Go.Proofs.YtobmljclokmbcaaDoor

namespace Go.Proofs.YtobmljclokmbcaaDoor
open Go.RowKit
set_option linter.all false
set_option maxHeartbeats 1600000 in
theorem iIsSmall_any (ao : Option Addr) (n cap : Nat) (xss : List (List Int)) (w : World) (h : Intss w ao n xss) :
    Calls Tryd.prog 93 #[.slice ao n cap] w fun e w' => e = .returned (.bool (isSmallM xss)) ∧ w = w' := by
  have hm := h.2.1
  have HL := Lib.hid h.1
  have H := Lib.hid h
  have hg0 : Hid (isSmallM xss = (isMat xss && (!decide (4 < n) && le9T xss))) := by show isSmallM xss = _; unfold isSmallM; rw [h.1]
  clear h
  cases hmat : isMat xss
  · have hg : Hid (isSmallM xss = false) := by show isSmallM xss = _; rw [hg0.out, hmat]; rfl
    go_enter Tryd.func93, Tryd.ntmps93
    go_wp2_with (first | (go_at_call 114; refine (iIsMatrix_any _ _ _ xss _ H.out).mono ?_; rintro e w' ⟨rfl, rfl⟩))
    go_ret
    exact ⟨ret_bool hg.out.symm, rfl⟩
  by_cases h4 : 4 < n
  · have hg : Hid (isSmallM xss = false) := by show isSmallM xss = _; rw [hg0.out]; simp [h4]
    go_enter Tryd.func93, Tryd.ntmps93
    go_wp2_with (first | (go_at_call 114; refine (iIsMatrix_any _ _ _ xss _ H.out).mono ?_; rintro e w' ⟨rfl, rfl⟩))
    go_ret
    exact ⟨ret_bool hg.out.symm, rfl⟩
  · have hg : Hid (isSmallM xss = le9T xss) := by show isSmallM xss = _; rw [hg0.out, hmat]; simp [h4]
    go_enter Tryd.func93, Tryd.ntmps93
    go_wp2_with (first | (go_at_call 114; refine (iIsMatrix_any _ _ _ xss _ H.out).mono ?_; rintro e w' ⟨rfl, rfl⟩))
    clear hmat
    go_loop [17] (fun i => ∃ k : Nat, k ≤ n ∧ i = .int .i64 k ∧ Hid (le9T (xss.drop k) = le9T xss)) (fun i => n - (intOf i).toNat)
    case atStart => exact ⟨0, Nat.zero_le _, rfl, rfl⟩
    case round =>
      obtain ⟨k, hk, rfl, hr⟩ := hrel
      by_cases hlt : k < n
      · obtain ⟨b, o, ai, ci, r, rfl, hcell, hrow, hget⟩ := H.out.at_ hlt
        have hrb := hrow.2.1
        have Hst := Lib.hid (le9T_step hget.out hr.out)
        have Hrow := Lib.hid hrow
        clear hrow hr H
        go_wp2_with fail
        go_loop [23] (fun i => ∃ j : Nat, j ≤ r.length ∧ i = .int .i64 j ∧ Hid (le9 (r.drop j) = le9 r)) (fun i => r.length - (intOf i).toNat)
        case atStart => exact ⟨0, Nat.zero_le _, rfl, rfl⟩
        case round =>
          obtain ⟨j, hj, rfl, hrj⟩ := hrel
          by_cases hjn : j < r.length
          · obtain ⟨b', o', x, rfl, hcell', hget'⟩ := Hrow.out.at_ hjn
            have Hsj := Lib.hid (le9_step hget'.out hrj.out)
            clear hrj Hrow
            by_cases h9 : 9 < x
            · have hr1 : Hid _ := Hst.out.1 (Hsj.out.1 h9)
              clear Hst Hsj
              go_wp2_with fail
              go_ret
              exact ⟨ret_bool (by rw [hg.out, hr1.out]), rfl⟩
            · have hr1 : Hid _ := Hsj.out.2 h9
              clear Hst Hsj
              go_wp2_with fail
              go_round
              case rel => exact ⟨j + 1, hjn, by go_num, hr1⟩
              case measure => simp [intOf]; omega
          · have hr1 : Hid _ := Hst.out.2 (by have := hrj.out; rw [drop_all r j (by omega)] at this; exact this.symm)
            clear Hst hrj Hrow
            go_wp2_with fail
            go_round
            case rel => exact ⟨k + 1, hlt, by go_num, hr1⟩
            case measure => simp [intOf]; omega
      · rw [drop_all xss k (by have := HL.out; omega)] at hr
        have hr1 : Hid _ := hr.out.symm
        clear hr H
        go_wp2_with fail
        go_ret
        exact ⟨ret_bool (by rw [hg.out, hr1.out]; rfl), rfl⟩
end Go.Proofs.YtobmljclokmbcaaDoor

namespace Go.Proofs.YtobmljclokmbcaaDoor
open Go.RowKit
set_option linter.all false
set_option maxRecDepth 20000 in
set_option maxHeartbeats 3200000 in
theorem iFloor_any (p : Option Addr) (n c : Nat) (m : List (List Int)) (d : Int) (w : World) (h : Intss w p n m) :
    Calls Tryd.prog 64 #[.slice p n c, .int .i64 d] w fun e w' => e = .returned (.int .i64 (floorG m d)) ∧ Below w.heap.size w w' := by
  have H := Lib.hid h
  clear h
  cases hs : isSmallM m
  · have hg : Hid (floorG m d = -1) := by show _ = _; simp [floorG, hs]
    go_enter Tryd.func64, Tryd.ntmps64
    go_wp2_with (first | (go_at_call 93; refine (iIsSmall_any _ _ _ m _ H.out).mono ?_; rintro e w' ⟨rfl, rfl⟩))
    go_ret
    exact ⟨ret_int hg.out.symm, Below.refl _ _⟩
  have HS := Lib.hid hs
  clear hs
  by_cases hd : 1 ≤ d ∧ d ≤ 100
  rotate_left
  · have hg : Hid (floorG m d = -1) := by show _ = _; unfold floorG; rw [inR_no (by omega)]; simp
    by_cases h1 : d < 1
    · have d1 : decide (d < 1) = true := decide_eq_true h1
      go_enter Tryd.func64, Tryd.ntmps64
      go_wp2_with (first | (go_at_call 93; refine (iIsSmall_any _ _ _ m _ H.out).mono ?_; rw [HS.out]; rintro e w' ⟨rfl, rfl⟩))
      go_ret
      exact ⟨ret_int hg.out.symm, Below.refl _ _⟩
    · have d1 : decide (d < 1) = false := decide_eq_false h1
      have d2 : decide (100 < d) = true := decide_eq_true (by omega)
      clear hd
      go_enter Tryd.func64, Tryd.ntmps64
      go_wp2_with (first | (go_at_call 93; refine (iIsSmall_any _ _ _ m _ H.out).mono ?_; rw [HS.out]; rintro e w' ⟨rfl, rfl⟩))
      go_ret
      exact ⟨ret_int hg.out.symm, Below.refl _ _⟩
  obtain ⟨h1, h2⟩ := hd
  have hg : Hid (bis (fun q => belowM m q d) 4000 0 (36 * d + 1) = floorG m d) := by show _ = _; unfold floorG; rw [HS.out, inR_mk ⟨h1, h2⟩]; simp
  obtain ⟨f, hf⟩ : ∃ f : Int → Bool, (fun q => belowM m q d) = f := ⟨_, rfl⟩
  have HF : Hid (∀ q, belowM m q d = f q) := by show ∀ q, _; intro q; rw [← hf]
  rw [hf] at hg
  clear hf
  have d1 : decide (d < 1) = false := decide_eq_false (by omega)
  have d2 : decide (100 < d) = false := decide_eq_false (by omega)
  go_enter Tryd.func64, Tryd.ntmps64
  go_wp2_with (first | (go_at_call 93; refine (iIsSmall_any _ _ _ m _ H.out).mono ?_; rw [HS.out]; rintro e w' ⟨rfl, rfl⟩))
  go_loopw [5, 6] (fun x y wr => ∃ (lo hi : Int) (F : Nat), x = .int .i64 lo ∧ y = .int .i64 hi ∧ 0 ≤ lo ∧ lo < hi ∧ hi ≤ 3601 ∧ hi - lo ≤ F ∧ Hid (bis f F lo hi = floorG m d) ∧ Below w.heap.size w wr) (fun x y _ => (intOf y - intOf x).toNat)
  case atStart => exact ⟨0, 36 * d + 1, 4000, rfl, rfl, by omega, by omega, by omega, by omega, hg.out, Below.refl _ _⟩
  case round =>
    obtain ⟨lo, hi, F, rfl, rfl, g0, g1, g2, g3, hr, hbl⟩ := hrel
    have Hbl := Lib.hid hbl
    clear hbl hg
    by_cases hlt : 1 < hi - lo
    · obtain ⟨F', g4, HST⟩ := bis_step g3 hlt hr.out
      have HST := Lib.hid HST
      clear hr
      obtain ⟨q, hq⟩ : ∃ q, (lo + hi) / 2 = q := ⟨_, rfl⟩
      have hq1 : lo < q := by omega
      have hq2 : q < hi := by omega
      rw [hq] at HST
      have hdv : decide (1 < hi - lo) = true := decide_eq_true hlt
      clear hlt
      cases hfq : f q
      · have HN := Lib.hid (HST.out.2 hfq)
        have HFQ : Hid (belowM m q d = false) := (HF.out q).trans hfq
        clear HST hfq
        go_wp2_with fail
        refine (iBelow_any _ _ _ m q d _ (H.out.keep (Hbl.out.mono (Nat.le_refl _))) HS.out (by omega) (by omega) h1 h2).mono ?_
        rw [HFQ.out]
        rintro e w2 ⟨rfl, hb2⟩
        have HB2 := Lib.hid (step2 Hbl.out hb2)
        clear hb2
        go_wp2_with fail
        go_roundw
        case rel => exact ⟨q, hi, F', rfl, rfl, by omega, by omega, by omega, by omega, HN.out, HB2.out⟩
        case measure => simp [intOf]; omega
      · have HN := Lib.hid (HST.out.1 hfq)
        have HFQ : Hid (belowM m q d = true) := (HF.out q).trans hfq
        clear HST hfq
        go_wp2_with fail
        refine (iBelow_any _ _ _ m q d _ (H.out.keep (Hbl.out.mono (Nat.le_refl _))) HS.out (by omega) (by omega) h1 h2).mono ?_
        rw [HFQ.out]
        rintro e w2 ⟨rfl, hb2⟩
        have HB2 := Lib.hid (step2 Hbl.out hb2)
        clear hb2
        go_wp2_with fail
        go_roundw
        case rel => exact ⟨lo, q, F', rfl, rfl, by omega, by omega, by omega, by omega, HN.out, HB2.out⟩
        case measure => simp [intOf]; omega
    · have HE := Lib.hid (bis_end hlt hr.out)
      have hdv : decide (1 < hi - lo) = false := decide_eq_false hlt
      clear hr hlt
      go_wp2_with fail
      go_ret
      exact ⟨ret_int HE.out, Hbl.out⟩
end Go.Proofs.YtobmljclokmbcaaDoor

namespace Go.Proofs.YtobmljclokmbcaaDoor
open Go.RowKit
set_option linter.all false
theorem letter_int {k i : Nat} (hk : 1 ≤ k) (hk3 : k ≤ 3) : (((97 + UInt8.ofNat (i % k)).toNat : Nat) : Int) = 97 + (i : Int) % (k : Int) := by
  have hm : i % k < k := Nat.mod_lt _ (by omega)
  have e : (i : Int) % (k : Int) = ((i % k : Nat) : Int) := by simp
  rw [e]
  have h3 : i % k = 0 ∨ i % k = 1 ∨ i % k = 2 := by omega
  rcases h3 with h | h | h <;> rw [h] <;> decide
theorem set_last {t : Nat} {b : UInt8} {S : List UInt8} : (List.replicate (t + 1) 0 ++ S).set t b = List.replicate t 0 ++ ([b] ++ S) := by
  rw [List.replicate_succ', List.append_assoc]
  exact set_mid (by simp)
theorem get_last {t : Nat} {S : List UInt8} : (List.replicate (t + 1) (0 : UInt8) ++ S)[t]? = some 0 := by
  rw [List.replicate_succ', List.append_assoc]
  exact at_mid (by simp)
set_option maxRecDepth 20000 in
set_option maxHeartbeats 3200000 in
theorem iWordAt_any (k n i : Nat) (w : World) (hk : 1 ≤ k) (hk3 : k ≤ 3) (hn : n ≤ 16) (hi : i ≤ 100000) :
    Calls Tryd.prog 110 #[.int .i64 k, .int .i64 n, .int .i64 i] w fun e w' => e = .returned (.string (wordN k n i)) ∧ Below w.heap.size w w' := by
  have hmk := make_bytes n (by omega) w
  have HM := Lib.hid (OB.made w n (by omega))
  have hk0 : ((k : Int) == 0) = false := by rw [beq_eq_false_iff_ne]; omega
  go_enter Tryd.func110, Tryd.ntmps110
  go_wp2_with fail
  clear hmk
  go_loopw [2, 8] (fun x y wr => ∃ (t j : Nat) (S : List UInt8), t ≤ n ∧ j ≤ 100000 ∧ x = .int .i64 j ∧ y = .int .i64 ((t : Int) - 1) ∧ OB wr w.heap.size (.slice (some ⟨w.heap.size, 0, none⟩) n n) (List.replicate t 0 ++ S) ∧ Hid (wdB k t j ++ S = wdB k n i) ∧ Below w.heap.size w wr) (fun _ y _ => (intOf y + 1).toNat)
  case atStart => exact ⟨n, i, [], Nat.le_refl _, hi, rfl, rfl, by simpa using HM.out, by show _ = _; simp, belowA _ _⟩
  case round =>
    obtain ⟨t, j, S, ht, hj, rfl, rfl, hown, hr, hbl⟩ := hrel
    have HB := Lib.hid hbl
    clear hbl HM
    rcases Nat.eq_zero_or_pos t with h0 | h0
    · subst h0
      have e : S = wdB k n i := by have := hr.out; simpa [wdB] using this
      have hl : S.length = n := by rw [e]; exact wdB_len k n i
      have ho : OB wr w.heap.size (.slice (some ⟨w.heap.size, 0, none⟩) n n) S := by simpa using hown
      have hcv := conv_u8 _ _ _ _ ho
      have HE : Hid ((⟨S.toArray⟩ : ByteArray) = wordN k n i) := by show _ = _; rw [e]; rfl
      rw [show (((0 : Nat) : Int) - 1) = -1 from rfl]
      clear hown hr hl ho e
      go_wp2_with fail
      go_ret
      exact ⟨ret_text HE.out, HB.out⟩
    · obtain ⟨t, rfl⟩ : ∃ q, t = q + 1 := ⟨t - 1, by omega⟩
      have HN := Lib.hid (wdB_step hr.out)
      have hs := hown.set t (97 + UInt8.ofNat (j % k))
      rw [letter_int hk hk3, set_last] at hs
      have hc := hown.cell (get_last (t := t) (S := S))
      have hf := hown.frozen t
      have HS := Lib.hid hs
      have HB2 := Lib.hid (HB.out.setCell (p := ⟨w.heap.size, t, none⟩) (Nat.le_refl _) (.int .u8 (97 + (j : Int) % (k : Int))))
      have hm1 : 0 ≤ (j : Int) % (k : Int) := Int.emod_nonneg _ (by omega)
      have hm2 : (j : Int) % (k : Int) < 3 := by have := Int.emod_lt_of_pos (j : Int) (show (0 : Int) < k by omega); omega
      have htn : t < n := by omega
      have hjd : j / k ≤ 100000 := Nat.le_trans (Nat.div_le_self _ _) hj
      have HWD : Hid (wrap64 ((j : Int) / (k : Int)) = ((j / k : Nat) : Int)) := by
        show _ = _
        have e : (j : Int) / (k : Int) = ((j / k : Nat) : Int) := by simp
        obtain ⟨q, hq⟩ : ∃ q, j / k = q := ⟨_, rfl⟩
        have hq2 : q ≤ 100000 := by rw [← hq]; exact hjd
        rw [e, hq]; unfold wrap64; clear hm1 hm2 e; omega
      rw [show (((t + 1 : Nat) : Int) - 1) = (t : Int) from by omega]
      clear hr hs hown
      go_wp2_with fail
      go_roundw
      case rel => exact ⟨t, j / k, _, by omega, hjd, by rw [HWD.out], rfl, HS.out, HN.out, HB2.out⟩
      case measure => (simp [intOf] <;> omega)
theorem wrap_small {x : Int} (h : 0 ≤ x) (h2 : x ≤ 1000000) : wrap64 x = x := by unfold wrap64; omega
set_option maxRecDepth 20000 in
set_option maxHeartbeats 1600000 in
theorem iPower_any (k n : Nat) (w : World) (hk3 : k ≤ 3) (hn : n ≤ 8) :
    Calls Tryd.prog 109 #[.int .i64 k, .int .i64 n] w fun e w' => e = .returned (.int .i64 ((k ^ n : Nat) : Int)) ∧ w = w' := by
  go_enter Tryd.func109, Tryd.ntmps109
  go_wp2_with fail
  go_loop [5, 7] (fun u x => ∃ (i : Nat) (v : Int), i ≤ n ∧ x = .int .i64 i ∧ u = .int .i64 v ∧ Hid (v = ((k ^ i : Nat) : Int))) (fun _ x => n - (intOf x).toNat)
  case atStart => exact ⟨0, 1, Nat.zero_le _, rfl, rfl, by show _ = _; simp⟩
  case round =>
    obtain ⟨i, v, hi, rfl, rfl, hv⟩ := hrel
    by_cases hlt : i < n
    · have HN : Hid (wrap64 (v * (k : Int)) = ((k ^ (i + 1) : Nat) : Int)) := by
        show _ = _
        have h1 : v * (k : Int) = ((k ^ (i + 1) : Nat) : Int) := by rw [hv.out, Nat.pow_succ]; simp
        have h2 := pow_le_of (k := k) (n := i + 1) hk3 (by omega)
        rw [h1]
        exact wrap_small (by omega) (by omega)
      clear hv
      go_wp2_with fail
      go_round
      case rel => exact ⟨i + 1, _, hlt, by go_num, rfl, HN.out⟩
      case measure => (simp [intOf] <;> omega)
    · have e : i = n := by omega
      subst e
      have HV := Lib.hid hv.out
      clear hv
      go_wp2_with fail
      go_ret
      exact ⟨ret_int HV.out, rfl⟩
set_option maxRecDepth 20000 in
set_option maxHeartbeats 1600000 in
theorem iWordsOf_any (k n : Nat) (w : World) (hk : 1 ≤ k) (hk3 : k ≤ 3) (hn : n ≤ 8) :
    Calls Tryd.prog 85 #[.int .i64 k, .int .i64 n] w fun e w' => ∃ v, e = .returned v ∧ OStrs w' w.heap.size v (allW k n).length (allW k n) ∧ Below w.heap.size w w' := by
  have HE := Lib.hid (OStrs.empty w w.heap.size (Nat.le_refl _))
  obtain ⟨M, hM⟩ : ∃ M, k ^ n = M := ⟨_, rfl⟩
  have hMb : M ≤ 6561 := by rw [← hM]; exact pow_le_of hk3 hn
  have HML : Hid ((allW k n).length = M) := by show _ = _; rw [allW_len, hM]
  have HM := Lib.hid hM
  clear hM
  rw [HML.out]
  go_enter Tryd.func85, Tryd.ntmps85
  go_wp2_with (go_at_call 109; refine (iPower_any k n _ hk3 hn).mono ?_; rw [HM.out]; rintro e w' ⟨rfl, rfl⟩)
  go_loopw [5, 11] (fun v x wr => ∃ i : Nat, i ≤ M ∧ x = .int .i64 i ∧ OStrs wr w.heap.size v i ((allW k n).take i) ∧ Below w.heap.size w wr) (fun _ x _ => M - (intOf x).toNat)
  case atStart => exact ⟨0, Nat.zero_le _, rfl, by simpa using HE.out, belowA _ _⟩
  case round =>
    obtain ⟨i, hi, rfl, hown, hbl⟩ := hrel
    obtain ⟨a5, c5, rfl, _⟩ := hown.form
    have HO := Lib.hid hown
    have HB := Lib.hid hbl
    clear hown hbl HE
    by_cases hlt : i < M
    · have HG : Hid ((allW k n)[i]? = some (wordN k n i)) := allW_get (by rw [HM.out]; exact hlt)
      go_wp2_with (first
        | (go_at_call 110; refine (iWordAt_any k n i _ hk hk3 (by omega) (by omega)).mono ?_; rintro e w1 ⟨rfl, hb1⟩; have HO1 := Lib.hid (HO.out.keep hb1); have HB1 := Lib.hid (step2 HB.out hb1); clear hb1)
        | (refine wpList_push_str _ _ rfl (.tmp 14) (.tmp 19) rfl w.heap.size _ _ _ rfl HO1.out (by omega) HB1.out.size _ rfl rfl ?_; intro v2 w2 ho2 hb2; have HO2 := Lib.hid ho2; have HB2 := Lib.hid (HB1.out.trans hb2); clear ho2 hb2))
      go_roundw
      case rel => exact ⟨i + 1, hlt, by go_num, by have h := HO2.out; rw [push_take HG.out] at h; exact h, HB2.out⟩
      case measure => (simp [intOf] <;> omega)
    · have e : i = M := by omega
      subst e
      have ho := HO.out
      rw [List.take_of_length_le (by rw [HML.out]; omega)] at ho
      have HO2 := Lib.hid ho
      clear ho
      go_wp2_with fail
      go_ret
      exact ⟨_, rfl, HO2.out, HB.out⟩
end Go.Proofs.YtobmljclokmbcaaDoor
