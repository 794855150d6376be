/- FrameIntss: a part of the proofs of this seat. -/
import Derived.Test.YtlhognagaknhcaaProg
import Derived.Test.YtlhognagaknhcaaFrameInts
import Derived.Test.YtlhognagaknhcaaMem2
namespace Go.Proofs.Ytlhognagaknhcaa
open Go.RowKit
set_option linter.all false
open Go.ChangeShapes Go.WideShapes Go.ChangeAt
/-- A slice of slices of ints that came in: it reads as the list xss of lists. -/
def IntssIn (w : World) (ao : Option Addr) (n : Nat) (xss : List (List Int)) : Prop :=
  xss.length = n ∧ n ≤ 9223372036854775807 ∧ ∀ i r, xss[i]? = some r → ∃ b o ai ci, ao = some ⟨b, o, none⟩ ∧ w.cell? ⟨b, o + i, none⟩ = some (.slice ai r.length ci) ∧ r.length ≤ 9223372036854775807 ∧ IntsIn w ai r.length r ∧ r.length ≤ ci

theorem IntssIn.at_ {w : World} {ao : Option Addr} {n k : Nat} {xss : List (List Int)} (h : IntssIn w ao n xss) (hk : k < n) :
    ∃ b o ai ci r, ao = some ⟨b, o, none⟩ ∧ w.cell? ⟨b, o + k, none⟩ = some (.slice ai r.length ci) ∧ r.length ≤ 9223372036854775807 ∧ Hid (xss[k]? = some r) := by
  have hl : k < xss.length := by rw [h.1]; exact hk
  obtain ⟨b, o, ai, ci, e, hc, hr, _⟩ := h.2.2 k xss[k] (List.getElem?_eq_getElem hl)
  exact ⟨b, o, ai, ci, _, e, hc, hr, List.getElem?_eq_getElem hl⟩

theorem IntssIn.intss {w : World} {ao : Option Addr} {n : Nat} {xss : List (List Int)} (h : IntssIn w ao n xss) (hn : n ≤ 1099511627776) (hr : ∀ r ∈ xss, r.length ≤ 1099511627776) : Intss w ao n xss := by
  refine ⟨h.1, hn, fun i r hi => ?_⟩
  obtain ⟨b, o, ai, ci, e, hc, _, hin, hl⟩ := h.2.2 i r hi
  exact ⟨b, o, ai, ci, e, hc, hin.ints (hr r (List.mem_of_getElem? hi)), hl⟩

theorem open_intssIn {H : Type} {enc : TypeId × Value → H} {W : World} {base : Nat} {held : Bool} {ao : Option Addr} {n cap : Nat} {d : DataW H} {p : List MemPlace}
    (h : DataW.Trod enc Try.prog W base (fun _ => true) held 22 (.slice ao n cap) d p) : ∃ xss, IntssIn W ao n xss := by
  obtain ⟨fuel, hf⟩ := h
  rcases Go.Deep.open_int_rows Try.underlying22 Try.underlying24 Try.underlying3 (by kernel_rfl) (by kernel_rfl) hf with ⟨hcs, _⟩ | ⟨x, l, c, A, L, C, Z, hcs, _, hl, hm, _, hrow⟩
  · simp [Value.cells] at hcs
    obtain ⟨rfl, rfl, rfl⟩ := hcs
    exact ⟨[], rfl, by omega, fun i r hi => by simp at hi⟩
  · simp [Value.cells] at hcs
    obtain ⟨rfl, rfl, rfl⟩ := hcs
    unfold maxLen at hm
    refine ⟨(List.range n).map fun r => (Z r).take (L r), by simp, by omega, fun i r hi => ?_⟩
    have hin : i < n := by simpa using (List.getElem?_eq_some_iff.1 hi).1
    have hr : r = (Z i).take (L i) := by simpa [hin, eq_comm] using hi
    subst hr
    obtain ⟨hc, h1, h2, h3, h4, h5, h6⟩ := hrow i (by omega)
    obtain ⟨hc0, _⟩ := hrow 0 (by omega)
    unfold maxLen at h2
    obtain ⟨b, o, rfl, hc'⟩ := cell_plain hc0 hc
    have hlen : ((Z i).take (L i)).length = L i := by simp; omega
    rw [hlen]
    refine ⟨b, o, A i, C i, rfl, hc', by omega, ⟨hlen, fun j hj => ?_, fun y hy => h4 y (List.mem_of_mem_take hy)⟩, h1⟩
    have hj' : j < L i := by omega
    cases ha : A i with
    | none => have := h5 ha; omega
    | some a' =>
      obtain ⟨_, hcell⟩ := h6 a' ha
      obtain ⟨b', o', rfl, hc2⟩ := cell_plain (hcell 0 (by omega)) (hcell j (by omega))
      refine ⟨b', o', rfl, ?_⟩
      rw [hc2]
      congr 2
      simp [List.getD, List.getElem?_take, hj']
end Go.Proofs.Ytlhognagaknhcaa
