/- LawKit: parts of the proofs of this seat: FrameInts FrameIntss EqIntS MarkIntS MarkIn HeldIntS. -/
import Derived.Test.YtaomoahcdlkifaaDoorRows
import Derived.ProofKit
import Derived.OpenShut
import Derived.ShutString
import Derived.ChangeOld
import Derived.Deep.Matrix
import Derived.Test.YtaomoahcdlkifaaDoorProg
import Derived.Test.YtaomoahcdlkifaaDoorBase
namespace Go.Proofs.YtaomoahcdlkifaaDoor
open Go.RowKit
set_option linter.all false
open Go.ChangeShapes Go.WideShapes Go.ChangeAt
theorem ownKnobNone : ownKnob Tryd.prog.godebug = none := by kernel_rfl
theorem laidOutYes : laidOutB Tryd.prog = true := by kernel_rfl

/-- A slice of ints that came in: it reads as the list xs, each number an int. -/
def IntsIn (w : World) (ao : Option Addr) (n : Nat) (xs : List Int) : Prop :=
  xs.length = n ∧ (∀ i, i < xs.length → ∃ b o, ao = some ⟨b, o, none⟩ ∧ w.cell? ⟨b, o + i, none⟩ = some (.int .i64 (xs.getD i 0))) ∧ ∀ x ∈ xs, (Lit.int .i64 x).wf = true

theorem IntsIn.ints {w : World} {ao : Option Addr} {n : Nat} {xs : List Int} (h : IntsIn w ao n xs) (hn : n ≤ 1099511627776) : Ints w ao n xs := ⟨h.1, hn, h.2.1⟩

theorem cell_plain {w : World} {x : Addr} {i : Nat} {v u : Value} (h0 : w.cell? (x.add 0) = some u) (h : w.cell? (x.add i) = some v) : ∃ b o, x = ⟨b, o, none⟩ ∧ w.cell? ⟨b, o + i, none⟩ = some v := by
  obtain ⟨b, off, spot⟩ := x
  have hs : spot = none := by simpa [Addr.add] using World.cell?_spot h0
  subst hs
  rw [Addr.add_lit] at h
  exact ⟨b, off, rfl, h⟩

theorem open_intsIn {H : Type} {enc : TypeId × Value → H} {W : World} {base : Nat} {held : Bool} {ao : Option Addr} {n cap : Nat} {d : DataW H} {p : List MemPlace}
    (h : DataW.Trod enc Tryd.prog W base (fun _ => true) held 23 (.slice ao n cap) d p) : ∃ xs, IntsIn W ao n xs := by
  obtain ⟨fuel, hf⟩ := h
  rcases open_ints Tryd.underlying23 Tryd.underlying3 (by kernel_rfl) hf with ⟨hcs, _⟩ | ⟨x, l, c, zs, hcs, _, hl, hm, hz, _, hcell, hwz⟩
  · simp [Value.cells] at hcs
    obtain ⟨rfl, rfl, rfl⟩ := hcs
    exact ⟨[], rfl, fun i hi => by simp at hi, by simp⟩
  · simp [Value.cells] at hcs
    obtain ⟨rfl, rfl, rfl⟩ := hcs
    have hz' : zs.length = cap := by simpa using hz
    refine ⟨zs.take n, by simp; omega, fun i hi => ?_, fun x hx => hwz x (List.mem_of_mem_take hx)⟩
    have hi' : i < n := by simp at hi; omega
    obtain ⟨b, o, rfl, hc⟩ := cell_plain (hcell 0 (by omega)) (hcell i (by omega))
    refine ⟨b, o, rfl, ?_⟩
    rw [hc]
    congr 2
    simp [List.getD, List.getElem?_take, hi']
end Go.Proofs.YtaomoahcdlkifaaDoor

namespace Go.Proofs.YtaomoahcdlkifaaDoor
open Go.RowKit
set_option linter.all false
open Go.ChangeShapes Go.WideShapes Go.ChangeAt
/-- A slice of slices of ints that came in: it reads as the list xss of lists. -/
def IntssIn (w : World) (ao : Option Addr) (n : Nat) (xss : List (List Int)) : Prop :=
  xss.length = n ∧ n ≤ 9223372036854775807 ∧ ∀ i r, xss[i]? = some r → ∃ b o ai ci, ao = some ⟨b, o, none⟩ ∧ w.cell? ⟨b, o + i, none⟩ = some (.slice ai r.length ci) ∧ r.length ≤ 9223372036854775807 ∧ IntsIn w ai r.length r ∧ r.length ≤ ci

theorem IntssIn.at_ {w : World} {ao : Option Addr} {n k : Nat} {xss : List (List Int)} (h : IntssIn w ao n xss) (hk : k < n) :
    ∃ b o ai ci r, ao = some ⟨b, o, none⟩ ∧ w.cell? ⟨b, o + k, none⟩ = some (.slice ai r.length ci) ∧ r.length ≤ 9223372036854775807 ∧ Hid (xss[k]? = some r) := by
  have hl : k < xss.length := by rw [h.1]; exact hk
  obtain ⟨b, o, ai, ci, e, hc, hr, _⟩ := h.2.2 k xss[k] (List.getElem?_eq_getElem hl)
  exact ⟨b, o, ai, ci, _, e, hc, hr, List.getElem?_eq_getElem hl⟩

theorem IntssIn.intss {w : World} {ao : Option Addr} {n : Nat} {xss : List (List Int)} (h : IntssIn w ao n xss) (hn : n ≤ 1099511627776) (hr : ∀ r ∈ xss, r.length ≤ 1099511627776) : Intss w ao n xss := by
  refine ⟨h.1, hn, fun i r hi => ?_⟩
  obtain ⟨b, o, ai, ci, e, hc, _, hin, hl⟩ := h.2.2 i r hi
  exact ⟨b, o, ai, ci, e, hc, hin.ints (hr r (List.mem_of_getElem? hi)), hl⟩
end Go.Proofs.YtaomoahcdlkifaaDoor

namespace Go.Proofs.YtaomoahcdlkifaaDoor
open Go.RowKit
set_option linter.all false
set_option maxHeartbeats 400000 in
theorem eqIntS_any (ao : Option Addr) (n cap : Nat) (xs : List Int) (ao' : Option Addr) (n' cap' : Nat) (ys : List Int) (w : World) (h : Ints w ao n xs) (h' : Ints w ao' n' ys) :
    Calls Tryd.prog 10 #[.slice ao n cap, .slice ao' n' cap'] w fun e w' => e = .returned (.bool (eqL xs ys)) ∧ Drew w w' := by
  obtain ⟨hn, hm, hc⟩ := h
  obtain ⟨hn', hm', hc'⟩ := h'
  subst hn
  subst hn'
  by_cases hl : xs.length = ys.length
  · have HL := Lib.hid hl
    have hl1 : ((xs.length : Int) != (ys.length : Int)) = false := by simp [hl]
    clear hl
    go_enter Tryd.func10, Tryd.ntmps10
    go_wp2
    go_loopw [5] (fun i wr => ∃ k : Nat, k ≤ xs.length ∧ i = .int .i64 k ∧ Drew w wr ∧ Hid (eqL (xs.drop k) (ys.drop k) = eqL xs ys)) (fun i _ => xs.length - (intOf i).toNat)
    case atStart => exact ⟨0, Nat.zero_le _, rfl, Drew.refl w, rfl⟩
    case round =>
      obtain ⟨k, hk, rfl, ⟨m, rfl⟩, hr⟩ := hrel
      by_cases hlt : k < xs.length
      · have hlt' : k < ys.length := by have := HL.out; omega
        obtain ⟨b, o, rfl, hcell⟩ := hc k hlt
        obtain ⟨b', o', rfl, hcell'⟩ := hc' k hlt'
        clear hc hc'
        have hst := eqL_step hlt hlt' hr.out
        have Hst := Lib.hid hst
        clear hst
        by_cases he : xs[k] = ys[k]
        · have he1 : (xs[k] != ys[k]) = false := by simp [he]
          have hr1 : Hid _ := Hst.out.1 he
          clear he Hst hr
          go_wp2_with fail
          go_quiet (fail)
          go_wp2
          go_roundw
          case rel => exact ⟨k + 1, hlt, by go_num, (by first | exact Drew.refl _ | exact Drew.mk _ _ | exact (Drew.mk _ _).drewN _), hr1⟩
          case measure => simp [intOf]; omega
        · have he1 : (xs[k] != ys[k]) = true := by simp [he]
          have hr1 : Hid _ := Hst.out.2 he
          clear he Hst hr
          go_wp2_with fail
          go_quiet (fail)
          go_wp2
          go_ret
          exact ⟨ret_bool hr1.out.symm, (by first | exact Drew.refl _ | exact Drew.mk _ _ | exact (Drew.mk _ _).drewN _)⟩
      · go_wp2
        go_ret
        rw [eqL_nil (by omega) (by have := HL.out; omega)] at hr
        exact ⟨ret_bool hr.out, (by first | exact Drew.refl _ | exact Drew.mk _ _ | exact (Drew.mk _ _).drewN _)⟩
  · have hl1 : ((xs.length : Int) != (ys.length : Int)) = true := by simp; omega
    have HL : Hid _ := eqL_len hl
    clear hl
    go_enter Tryd.func10, Tryd.ntmps10
    go_wp2
    go_ret
    exact ⟨ret_bool HL.out.symm, Drew.refl w⟩
end Go.Proofs.YtaomoahcdlkifaaDoor

namespace Go.Proofs.YtaomoahcdlkifaaDoor
open Go.RowKit
set_option linter.all false
set_option maxHeartbeats 800000 in
theorem markIntS_any (ao : Option Addr) (n cap : Nat) (xs : List Int) (k : Int) (lo : Nat) (w : World) (h : OInts w lo (.slice ao n cap) n xs) (h0 : 0 ≤ k) (h1 : k ≤ 1099511627776) :
    Calls Tryd.prog 11 #[.slice ao n cap, .int .i64 k] w fun e w' => e = .returned (.int .i64 (k + n)) ∧ OInts w' lo (.slice ao n cap) n (marks k n) ∧ w.grownBy w' (Value.slice ao n cap).ownBlock := by
  have hm := h.1
  have HX := Lib.hid h.len
  rcases h.two with ⟨rfl, rfl⟩ | ⟨g, rfl⟩
  · have e : xs = [] := List.eq_nil_of_length_eq_zero HX.out
    subst e
    have H := Lib.hid h
    clear h
    go_enter Tryd.func11, Tryd.ntmps11
    go_wp2
    go_loop [1, 5] (fun s i => i = .int .i64 0 ∧ s = .int .i64 k) (fun _ _ => 0)
    case atStart => exact ⟨rfl, rfl⟩
    case round =>
      obtain ⟨rfl, rfl⟩ := hrel
      go_wp2
      go_ret
      exact ⟨ret_int (by simp), H.out, World.grownBy.refl _ _⟩
  · have H := Lib.hid h
    clear h
    go_enter Tryd.func11, Tryd.ntmps11
    go_wp2
    go_loopw [1, 5] (fun s i wr => ∃ j : Nat, j ≤ n ∧ i = .int .i64 j ∧ s = .int .i64 (k + j) ∧ OInts wr lo (.slice (some ⟨g, 0, none⟩) n cap) n ((marks k n).take j ++ xs.drop j) ∧ w.grownBy wr (some g)) (fun _ i _ => n - (intOf i).toNat)
    case atStart => exact ⟨0, Nat.zero_le _, rfl, by simp, by simpa using H.out, World.grownBy.refl _ _⟩
    case round =>
      obtain ⟨j, hj, rfl, rfl, hown, hg⟩ := hrel
      clear H
      by_cases hlt : j < n
      · have hc := hown.cell j hlt
        have hf := hown.frozen j
        have hx : xs[j]? = some (xs.getD j 0) := by simp [List.getD, HX.out, hlt]
        have hs := hown.set j (k + j)
        rw [mix_set hx (marks_get hlt)] at hs
        have hg' := only_setCell hg (p := ⟨g, j, none⟩) rfl (.int .i64 (k + j))
        clear hown hg hx
        go_wp2
        go_roundw
        case rel => exact ⟨j + 1, hlt, by go_num, by go_num, hs, hg'⟩
        case measure => simp [intOf]; omega
      · have e : j = n := by omega
        subst e
        rw [mix_end (marks_len k j) HX.out] at hown
        have Ho := Lib.hid hown
        clear hown
        go_wp2
        go_ret
        exact ⟨rfl, Ho.out, hg⟩
end Go.Proofs.YtaomoahcdlkifaaDoor

namespace Go.Proofs.YtaomoahcdlkifaaDoor
open Go.RowKit
set_option linter.all false
theorem markIntS_in (ao : Option Addr) (n cap : Nat) (xs : List Int) (k : Int) (lo : Nat) (wb w : World) (h : OInts wb lo (.slice ao n cap) n xs) (hs : Since lo wb.heap.size wb w) (h0 : 0 ≤ k) (h1 : k ≤ 1099511627776) :
    Calls Tryd.prog 11 #[.slice ao n cap, .int .i64 k] w fun e w' => e = .returned (.int .i64 (k + n)) ∧ Within lo wb.heap.size w w' ∧ OInts w' lo (.slice ao n cap) n (marks k n) := by
  refine (markIntS_any ao n cap xs k lo w (h.since hs) h0 h1).mono ?_
  rintro e w' ⟨he, ho, hg⟩
  exact ⟨he, Within.grown hg (fun b hb => h.ownlt b hb), ho⟩
end Go.Proofs.YtaomoahcdlkifaaDoor

namespace Go.Proofs.YtaomoahcdlkifaaDoor
open Go.RowKit
set_option linter.all false
set_option maxHeartbeats 800000 in
theorem heldIntS_any (ao : Option Addr) (n cap : Nat) (k : Int) (w : World) (h : Ints w ao n (marks k n)) (h0 : 0 ≤ k) (h1 : k ≤ 1099511627776) :
    Calls Tryd.prog 12 #[.slice ao n cap, .int .i64 k] w fun e w' => e = .returned (.int .i64 (k + n)) ∧ Drew w w' := by
  have hm := h.2.1
  have H := Lib.hid h
  clear h
  go_enter Tryd.func12, Tryd.ntmps12
  go_wp2
  go_loopw [1, 5] (fun s i wr => ∃ j : Nat, j ≤ n ∧ i = .int .i64 j ∧ s = .int .i64 (k + j) ∧ Drew w wr) (fun _ i _ => n - (intOf i).toNat)
  case atStart => exact ⟨0, Nat.zero_le _, rfl, by simp, Drew.refl w⟩
  case round =>
    obtain ⟨j, hj, rfl, rfl, m, rfl⟩ := hrel
    by_cases hlt : j < n
    · obtain ⟨b, o, x, rfl, hcell, hget⟩ := H.out.at_ hlt
      have e : x = k + j := by have := hget.out; rw [marks_get hlt] at this; injection this with this; exact this.symm
      subst e
      have hne : ((k + (j : Int)) != (k + (j : Int))) = false := by simp
      clear H
      go_wp2
      go_roundw
      case rel => exact ⟨j + 1, hlt, by go_num, by go_num, (by first | exact Drew.refl _ | exact Drew.mk _ _ | exact (Drew.mk _ _).drewN _)⟩
      case measure => simp [intOf]; omega
    · go_wp2
      go_ret
      have : j = n := by omega
      subst this
      exact ⟨rfl, (by first | exact Drew.refl _ | exact Drew.mk _ _ | exact (Drew.mk _ _).drewN _)⟩
end Go.Proofs.YtaomoahcdlkifaaDoor
