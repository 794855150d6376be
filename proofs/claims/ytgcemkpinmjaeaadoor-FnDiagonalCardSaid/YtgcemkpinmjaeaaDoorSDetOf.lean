/- SDetOf: a part of the proofs of this seat. -/
import Derived.Test.YtgcemkpinmjaeaaDoorProg
import Derived.Test.YtgcemkpinmjaeaaDoorSDet
import Derived.Test.YtgcemkpinmjaeaaDoorThA
import Derived.Test.YtgcemkpinmjaeaaDoorBase
namespace Go.Proofs.YtgcemkpinmjaeaaDoor
open Go.RowKit
set_option linter.all false
set_option maxRecDepth 20000 in
set_option maxHeartbeats 3200000 in
theorem sDetOf_in (p : Option Addr) (n c : Nat) (t : List (List Int)) (w : World) (h : Intss w p n t) (hs : smith t = true) :
    Calls Tryd.prog 20 #[.slice p n c] w fun e w' => e = .returned (.tuple #[.int .i64 (det n t), .bool true]) ∧ Below w.heap.size w w' := by
  have HL : Hid (t.length = n) := h.1
  have hl := smith_len hs
  have hn4 : n ≤ 4 := by have := HL.out; omega
  have HS := Lib.hid hs
  have HR : Hid (RowsLen t n) := fun _ _ hk => by rw [← HL.out]; exact (smith_row hs hk).1
  have H := Lib.hid h
  have hd4 : decide ((4 : Int) < (n : Int)) = false := decide_eq_false (by omega)
  clear h hs hl
  go_enter Tryd.func20, Tryd.ntmps20
  go_wp2_with fail
  go_loopw [4] (fun x wr => ∃ i : Nat, i ≤ n ∧ x = .int .i64 i ∧ Drew w wr) (fun x _ => n - (intOf x).toNat)
  case atStart => exact ⟨0, Nat.zero_le _, rfl, Drew.refl _⟩
  case round =>
    obtain ⟨i, hi, rfl, ⟨dn, rfl⟩⟩ := hrel
    by_cases hlt : i < n
    · obtain ⟨b1, o1, a1, c1, r, rfl, hcr, hrow, hgr⟩ := H.out.at_ hlt
      have hrl := HR.out i r hgr.out
      have hne : ((r.length : Int) != (n : Int)) = false := by rw [hrl]; simp
      have HRL := Lib.hid hrl
      have HIN := Lib.hid (smith_row HS.out hgr.out).2
      have HROW := Lib.hid hrow
      clear hrl hrow hgr
      go_wp2_with fail
      go_loopw [5] (fun x wr => ∃ j : Nat, j ≤ n ∧ x = .int .i64 j ∧ Drew w wr) (fun x _ => n - (intOf x).toNat)
      case atStart => exact ⟨0, Nat.zero_le _, rfl, Drew.mk _ _⟩
      case round =>
        obtain ⟨j, hj, rfl, ⟨dm, rfl⟩⟩ := hrel
        by_cases hjn : j < n
        · obtain ⟨b2, o2, x, rfl, hcx, hgx⟩ := HROW.out.at_ (k := j) (by have := HRL.out; omega)
          have hx := allIn_get HIN.out hgx.out
          have B1 := Lib.hid (inR_mk (x := x) (lo := -10000) (hi := 10000) ⟨by omega, by omega⟩)
          have hjr : j < r.length := by have := HRL.out; omega
          clear hgx
          go_wp2_with (go_at_call 31; refine (l1In_any _ _ _ _).mono ?_; rw [B1.out]; rintro e w' ⟨rfl, rfl⟩)
          go_roundw
          case rel => exact ⟨j + 1, hjn, by go_num, Drew.mk _ _⟩
          case measure => (simp [intOf] <;> omega)
        · go_wp2_with fail
          go_roundw
          case rel => exact ⟨i + 1, hlt, by go_num, Drew.mk _ _⟩
          case measure => (simp [intOf] <;> omega)
    · go_wp2_with fail
      refine (sDet_any n p n c t _ rfl (by omega) (H.out.drewN dn) HR.out).mono ?_
      rintro e w' ⟨rfl, hb⟩
      have HB : Hid (Below w.heap.size w w') := (below_drewN (Below.refl w.heap.size w) dn).trans hb
      go_wp2_with fail
      go_ret2
      exact ⟨rfl, HB.out⟩
end Go.Proofs.YtgcemkpinmjaeaaDoor
