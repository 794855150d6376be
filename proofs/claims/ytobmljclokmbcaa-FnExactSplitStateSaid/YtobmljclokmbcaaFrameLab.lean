/- FrameLab: a part of the proofs of this seat. -/
import Derived.Lib.SmallJoins
import Derived.Deep.Slices
import Derived.Deep.Fields
import Derived.Test.YtobmljclokmbcaaProg
import Derived.Test.YtobmljclokmbcaaLawKit
import Derived.Test.YtobmljclokmbcaaBlk
namespace Go.Proofs.Ytobmljclokmbcaa
open Go.RowKit
set_option linter.all false
open Go.Joins Go.ChangeShapes Go.WideShapes Go.RowKit Go.Deep
/-- A slice of arcs that came in: it reads as the list xs. -/
def LabIn (w : World) (ao : Option Addr) (n : Nat) (xs : List Ar) : Prop :=
  xs.length = n ∧ n ≤ 9223372036854775807 ∧ ∀ i x, xs[i]? = some x → ∃ b o, ao = some ⟨b, o, none⟩ ∧ w.cell? ⟨b, o + i * 3, none⟩ = some (.int .i64 x.1) ∧ w.cell? ⟨b, o + i * 3 + 1, none⟩ = some (.int .i64 x.2.1) ∧ w.cell? ⟨b, o + i * 3 + 2, none⟩ = some (.int .i64 x.2.2)
theorem LabIn.arcs {w : World} {ao : Option Addr} {n : Nat} {xs : List Ar} (h : LabIn w ao n xs) (hn : n ≤ 1099511627776) : Arcs w ao n xs := ⟨h.1, hn, h.2.2⟩
section
variable {H : Type} {enc : TypeId × Value → H} {W : World} {base : Nat} {held : Bool}
theorem int_field {k : Nat} {u : Value} {y : Option (DataW H × List MemPlace)} {y' : DataW H × List MemPlace} (h : DataW.trod enc Try.prog W base (fun _ => true) held k 3 [u] = y) (hy : y = some y') : ∃ n, u = .int .i64 n := by
  rw [hy] at h
  obtain ⟨n, e, _⟩ := DataW.trod_int Try.underlying3 h
  injection e with e
  exact ⟨n, e⟩
set_option maxRecDepth 20000 in
theorem open_arcsIn {fuel : Nat} {v : Value} {x : DataW H × List MemPlace} (h : DataW.trod enc Try.prog W base (fun _ => true) held fuel 22 [v] = some x) : ∃ ao n cap xs, v = .slice ao n cap ∧ LabIn W ao n xs := by
  rcases open_slice Try.underlying22 h with ⟨hcs, _⟩ | ⟨a, len, cap, m, n, D, Pl, hcs, hb, hl, hm, hmm, hx, hi⟩
  · injection hcs with hcs
    exact ⟨none, 0, 0, [], hcs, rfl, by omega, fun i x hi => by simp at hi⟩
  · injection hcs with hcs
    have hC : (Try.prog).cellsOf 148 = 3 := by kernel_rfl
    rw [hC] at hi
    simp only [if_true] at hmm
    subst hmm
    have key : ∀ i, i < m → ∃ t : Ar, W.cell? (a.add (i * 3)) = some (.int .i64 t.1) ∧ W.cell? (a.add (i * 3 + 1)) = some (.int .i64 t.2.1) ∧ W.cell? (a.add (i * 3 + 2)) = some (.int .i64 t.2.2) := by
      intro i him
      obtain ⟨cs', hc, ht⟩ := hi i him
      obtain ⟨y0, y1, y2, n', hx', hlen, h0, h1, h2⟩ := trod_struct3 Try.underlying148 ht
      obtain ⟨_, hl3, hcell⟩ := World.cells?_some hc
      match cs', hl3 with
      | [c0, c1, c2], _ =>
        obtain ⟨n0, rfl⟩ := int_field h0 rfl
        obtain ⟨n1, rfl⟩ := int_field h1 rfl
        obtain ⟨n2, rfl⟩ := int_field h2 rfl
        refine ⟨(n0, n1, n2), ?_, ?_, ?_⟩
        · have := hcell 0 (by omega)
          rw [Go.Deep.add_add] at this
          exact this
        · have := hcell 1 (by omega)
          rw [Go.Deep.add_add] at this
          exact this
        · have := hcell 2 (by omega)
          rw [Go.Deep.add_add] at this
          exact this
    obtain ⟨f, hf⟩ : ∃ f : Nat → Ar, ∀ i, i < m → W.cell? (a.add (i * 3)) = some (.int .i64 (f i).1) ∧ W.cell? (a.add (i * 3 + 1)) = some (.int .i64 (f i).2.1) ∧ W.cell? (a.add (i * 3 + 2)) = some (.int .i64 (f i).2.2) := by
      refine ⟨fun i => if h : i < m then Classical.choose (key i h) else (0, 0, 0), fun i him => ?_⟩
      simp only [him, dif_pos]
      exact Classical.choose_spec (key i him)
    refine ⟨some a, len, m, (List.range len).map f, hcs, by simp, by unfold maxLen at hm; omega, fun i x hx => ?_⟩
    have hin : i < len := by simpa using (List.getElem?_eq_some_iff.1 hx).1
    have hxe : x = f i := by simpa [hin, eq_comm] using hx
    subst hxe
    have c0 := (hf 0 (by omega)).1
    obtain ⟨c1, c2, c3⟩ := hf i (by omega)
    obtain ⟨b, o, rfl, d1⟩ := cell_plain c0 c1
    obtain ⟨_, _, e2, d2⟩ := cell_plain c0 c2
    obtain ⟨_, _, e3, d3⟩ := cell_plain c0 c3
    injection e2 with e2 e2'
    injection e3 with e3 e3'
    subst e2 e2' e3 e3'
    exact ⟨b, o, rfl, d1, d2, d3⟩
set_option maxRecDepth 20000 in
theorem open_labIn {v : Value} {d : DataW H} {p : List MemPlace} {r : Reach} {b0 : Nat} (hv : Value.okWide Try.prog W r b0 24 v) (h : DataW.Trod enc Try.prog W base (fun _ => true) held 24 v d p) :
    ∃ L S ao n cap xs, v = .agg #[.int .i64 L, .int .i64 S, .slice ao n cap] ∧ LabIn W ao n xs := by
  obtain ⟨v0, v1, v2, y0, y1, y2, n, rfl, _, _, h0, h1, h2⟩ := open_agg3 Try.underlying24 (by kernel_rfl) (by kernel_rfl) hv h
  obtain ⟨n0, rfl⟩ := int_field h0 rfl
  obtain ⟨n1, rfl⟩ := int_field h1 rfl
  obtain ⟨ao, m, cap, xs, rfl, hxs⟩ := open_arcsIn h2
  exact ⟨n0, n1, ao, m, cap, xs, rfl, hxs⟩
end
end Go.Proofs.Ytobmljclokmbcaa
