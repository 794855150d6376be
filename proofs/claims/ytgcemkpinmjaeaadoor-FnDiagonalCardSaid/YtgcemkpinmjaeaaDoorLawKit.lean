/- LawKit: parts of the proofs of this seat: FrameInts FrameIntss. -/
import Derived.Test.YtgcemkpinmjaeaaDoorRows
import Derived.ProofKit
import Derived.OpenShut
import Derived.ShutString
import Derived.ChangeOld
import Derived.Deep.Matrix
import Derived.Test.YtgcemkpinmjaeaaDoorProg
import Derived.Test.YtgcemkpinmjaeaaDoorBase
namespace Go.Proofs.YtgcemkpinmjaeaaDoor
open Go.RowKit
set_option linter.all false
open Go.ChangeShapes Go.WideShapes Go.ChangeAt
theorem ownKnobNone : ownKnob Tryd.prog.godebug = none := by kernel_rfl
theorem laidOutYes : laidOutB Tryd.prog = true := by kernel_rfl

/-- A slice of ints that came in: it reads as the list xs, each number an int. -/
def IntsIn (w : World) (ao : Option Addr) (n : Nat) (xs : List Int) : Prop :=
  xs.length = n ∧ (∀ i, i < xs.length → ∃ b o, ao = some ⟨b, o, none⟩ ∧ w.cell? ⟨b, o + i, none⟩ = some (.int .i64 (xs.getD i 0))) ∧ ∀ x ∈ xs, (Lit.int .i64 x).wf = true

theorem IntsIn.ints {w : World} {ao : Option Addr} {n : Nat} {xs : List Int} (h : IntsIn w ao n xs) (hn : n ≤ 1099511627776) : Ints w ao n xs := ⟨h.1, hn, h.2.1⟩

theorem cell_plain {w : World} {x : Addr} {i : Nat} {v u : Value} (h0 : w.cell? (x.add 0) = some u) (h : w.cell? (x.add i) = some v) : ∃ b o, x = ⟨b, o, none⟩ ∧ w.cell? ⟨b, o + i, none⟩ = some v := by
  obtain ⟨b, off, spot⟩ := x
  have hs : spot = none := by simpa [Addr.add] using World.cell?_spot h0
  subst hs
  rw [Addr.add_lit] at h
  exact ⟨b, off, rfl, h⟩

theorem open_intsIn {H : Type} {enc : TypeId × Value → H} {W : World} {base : Nat} {held : Bool} {ao : Option Addr} {n cap : Nat} {d : DataW H} {p : List MemPlace}
    (h : DataW.Trod enc Tryd.prog W base (fun _ => true) held 26 (.slice ao n cap) d p) : ∃ xs, IntsIn W ao n xs := by
  obtain ⟨fuel, hf⟩ := h
  rcases open_ints Tryd.underlying26 Tryd.underlying3 (by kernel_rfl) hf with ⟨hcs, _⟩ | ⟨x, l, c, zs, hcs, _, hl, hm, hz, _, hcell, hwz⟩
  · simp [Value.cells] at hcs
    obtain ⟨rfl, rfl, rfl⟩ := hcs
    exact ⟨[], rfl, fun i hi => by simp at hi, by simp⟩
  · simp [Value.cells] at hcs
    obtain ⟨rfl, rfl, rfl⟩ := hcs
    have hz' : zs.length = cap := by simpa using hz
    refine ⟨zs.take n, by simp; omega, fun i hi => ?_, fun x hx => hwz x (List.mem_of_mem_take hx)⟩
    have hi' : i < n := by simp at hi; omega
    obtain ⟨b, o, rfl, hc⟩ := cell_plain (hcell 0 (by omega)) (hcell i (by omega))
    refine ⟨b, o, rfl, ?_⟩
    rw [hc]
    congr 2
    simp [List.getD, List.getElem?_take, hi']
end Go.Proofs.YtgcemkpinmjaeaaDoor

namespace Go.Proofs.YtgcemkpinmjaeaaDoor
open Go.RowKit
set_option linter.all false
open Go.ChangeShapes Go.WideShapes Go.ChangeAt
/-- A slice of slices of ints that came in: it reads as the list xss of lists. -/
def IntssIn (w : World) (ao : Option Addr) (n : Nat) (xss : List (List Int)) : Prop :=
  xss.length = n ∧ n ≤ 9223372036854775807 ∧ ∀ i r, xss[i]? = some r → ∃ b o ai ci, ao = some ⟨b, o, none⟩ ∧ w.cell? ⟨b, o + i, none⟩ = some (.slice ai r.length ci) ∧ r.length ≤ 9223372036854775807 ∧ IntsIn w ai r.length r ∧ r.length ≤ ci

theorem IntssIn.at_ {w : World} {ao : Option Addr} {n k : Nat} {xss : List (List Int)} (h : IntssIn w ao n xss) (hk : k < n) :
    ∃ b o ai ci r, ao = some ⟨b, o, none⟩ ∧ w.cell? ⟨b, o + k, none⟩ = some (.slice ai r.length ci) ∧ r.length ≤ 9223372036854775807 ∧ Hid (xss[k]? = some r) := by
  have hl : k < xss.length := by rw [h.1]; exact hk
  obtain ⟨b, o, ai, ci, e, hc, hr, _⟩ := h.2.2 k xss[k] (List.getElem?_eq_getElem hl)
  exact ⟨b, o, ai, ci, _, e, hc, hr, List.getElem?_eq_getElem hl⟩

theorem IntssIn.intss {w : World} {ao : Option Addr} {n : Nat} {xss : List (List Int)} (h : IntssIn w ao n xss) (hn : n ≤ 1099511627776) (hr : ∀ r ∈ xss, r.length ≤ 1099511627776) : Intss w ao n xss := by
  refine ⟨h.1, hn, fun i r hi => ?_⟩
  obtain ⟨b, o, ai, ci, e, hc, _, hin, hl⟩ := h.2.2 i r hi
  exact ⟨b, o, ai, ci, e, hc, hin.ints (hr r (List.mem_of_getElem? hi)), hl⟩

theorem open_intssIn {H : Type} {enc : TypeId × Value → H} {W : World} {base : Nat} {held : Bool} {ao : Option Addr} {n cap : Nat} {d : DataW H} {p : List MemPlace}
    (h : DataW.Trod enc Tryd.prog W base (fun _ => true) held 24 (.slice ao n cap) d p) : ∃ xss, IntssIn W ao n xss := by
  obtain ⟨fuel, hf⟩ := h
  rcases Go.Deep.open_int_rows Tryd.underlying24 Tryd.underlying26 Tryd.underlying3 (by kernel_rfl) (by kernel_rfl) hf with ⟨hcs, _⟩ | ⟨x, l, c, A, L, C, Z, hcs, _, hl, hm, _, hrow⟩
  · simp [Value.cells] at hcs
    obtain ⟨rfl, rfl, rfl⟩ := hcs
    exact ⟨[], rfl, by omega, fun i r hi => by simp at hi⟩
  · simp [Value.cells] at hcs
    obtain ⟨rfl, rfl, rfl⟩ := hcs
    unfold maxLen at hm
    refine ⟨(List.range n).map fun r => (Z r).take (L r), by simp, by omega, fun i r hi => ?_⟩
    have hin : i < n := by simpa using (List.getElem?_eq_some_iff.1 hi).1
    have hr : r = (Z i).take (L i) := by simpa [hin, eq_comm] using hi
    subst hr
    obtain ⟨hc, h1, h2, h3, h4, h5, h6⟩ := hrow i (by omega)
    obtain ⟨hc0, _⟩ := hrow 0 (by omega)
    unfold maxLen at h2
    obtain ⟨b, o, rfl, hc'⟩ := cell_plain hc0 hc
    have hlen : ((Z i).take (L i)).length = L i := by simp; omega
    rw [hlen]
    refine ⟨b, o, A i, C i, rfl, hc', by omega, ⟨hlen, fun j hj => ?_, fun y hy => h4 y (List.mem_of_mem_take hy)⟩, h1⟩
    have hj' : j < L i := by omega
    cases ha : A i with
    | none => have := h5 ha; omega
    | some a' =>
      obtain ⟨_, hcell⟩ := h6 a' ha
      obtain ⟨b', o', rfl, hc2⟩ := cell_plain (hcell 0 (by omega)) (hcell j (by omega))
      refine ⟨b', o', rfl, ?_⟩
      rw [hc2]
      congr 2
      simp [List.getD, List.getElem?_take, hj']
end Go.Proofs.YtgcemkpinmjaeaaDoor
