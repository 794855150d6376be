/- SLabs: a part of the proofs of this seat. -/
import Derived.Deep.RegionLaw
import Derived.Test.YtobmljclokmbcaaDoorProg
import Derived.Test.YtobmljclokmbcaaDoorRLG1
namespace Go.Proofs.YtobmljclokmbcaaDoor
open Go.RowKit
set_option linter.all false
set_option maxHeartbeats 1600000 in
set_option maxRecDepth 20000 in
theorem sameLabels_same (L S : Int) (ao : Option Addr) (n cap : Nat) (ao' : Option Addr) (n' cap' : Nat) (xs : List Ar) (w : World) (h : Arcs w ao n xs) (h' : Arcs w ao' n' xs) :
    Calls Tryd.prog 19 #[.agg #[.int .i64 L, .int .i64 S, .slice ao n cap], .agg #[.int .i64 L, .int .i64 S, .slice ao' n' cap']] w fun e w' => e = .returned (.bool true) ∧ Below w.heap.size w w' := by
  have hn := h.1
  have hn' := h'.1
  have hm := h.2.1
  obtain rfl : n' = n := by omega
  have hz : (w.alloc (.cells #[.int .i64 L, .int .i64 S, .slice ao n' cap] 32)).heap.size = w.heap.size + 1 := by simp
  have HB := Lib.hid (below2 w (.cells #[.int .i64 L, .int .i64 S, .slice ao n' cap] 32) (.cells #[.int .i64 L, .int .i64 S, .slice ao' n' cap'] 32))
  have H := Lib.hid (h.keep HB.out)
  have H' := Lib.hid (h'.keep HB.out)
  have HK := Lib.hid ((Blk.new w 32 #[.int .i64 L, .int .i64 S, .slice ao n' cap]).alloc (.cells #[.int .i64 L, .int .i64 S, .slice ao' n' cap'] 32))
  have hk' := Blk.new (w.alloc (.cells #[.int .i64 L, .int .i64 S, .slice ao n' cap] 32)) 32 #[.int .i64 L, .int .i64 S, .slice ao' n' cap']
  rw [hz] at hk'
  have HK' := Lib.hid hk'
  have l1 : (L != L) = false := by simp
  have l2 : (S != S) = false := by simp
  have l3 : ((n' : Int) != (n' : Int)) = false := by simp
  have k0 := HK.out.c0
  have k1 := HK.out.c1
  have k2 := HK.out.c2
  have j0 := HK'.out.c0
  have j1 := HK'.out.c1
  have j2 := HK'.out.c2
  clear h h' hn hn' hz hk'
  go_enter Tryd.func19, Tryd.ntmps19
  go_wp2_with fail
  generalize (w.alloc (.cells #[.int .i64 L, .int .i64 S, .slice ao n' cap] 32)).alloc (.cells #[.int .i64 L, .int .i64 S, .slice ao' n' cap'] 32) = w1 at HB H H' HK HK' k0 k1 k2 j0 j1 j2 ⊢
  go_loopw [5] (fun i wr => ∃ k : Nat, k ≤ n' ∧ i = .int .i64 k ∧ Drew w1 wr) (fun i _ => n' - (intOf i).toNat)
  case atStart => exact ⟨0, Nat.zero_le _, rfl, Drew.refl _⟩
  case round =>
    obtain ⟨k, hk, rfl, ⟨m, rfl⟩⟩ := hrel
    by_cases hlt : k < n'
    · obtain ⟨b, o, x, y, z, rfl, c1, c2, c3, hx⟩ := H.out.at_ hlt
      obtain ⟨b', o', x', y', z', rfl, c1', c2', c3', hx'⟩ := H'.out.at_ hlt
      have he := Option.some.inj (hx'.out.symm.trans hx.out)
      injection he with e1 e2
      injection e2 with e2 e3
      subst e1; subst e2; subst e3
      clear hx hx'
      go_wp2_with fail
      go_region_law (fail)
      all_goals (go_wp2_with fail)
      all_goals go_roundw
      all_goals first
        | exact ⟨k + 1, hlt, by go_num, (by first | exact Drew.refl _ | exact Drew.mk _ _ | exact (Drew.mk _ _).drewN _)⟩
        | (simp [intOf]; omega)
    · go_wp2_with fail
      go_ret
      exact ⟨rfl, below_drewN HB.out _⟩
end Go.Proofs.YtobmljclokmbcaaDoor
