/- SCopy: a part of the proofs of this seat. -/
import Derived.Test.YtlhognagaknhcaaProg
import Derived.Test.YtlhognagaknhcaaBase
namespace Go.Proofs.Ytlhognagaknhcaa
open Go.RowKit
set_option linter.all false
set_option maxHeartbeats 1600000 in
theorem sCopy_any (ao : Option Addr) (n cap : Nat) (m : List (List Int)) (w : World) (h : Intss w ao n m) (hn : n ≤ 1048576) (hr : ∀ r ∈ m, r.length ≤ 1048576) :
    Calls Try.prog 89 #[.slice ao n cap] w fun e w' => ∃ v, e = .returned v ∧ OIntss w' w.heap.size v n m ∧ Below w.heap.size w w' := by
  have HL : Hid (m.length = n) := h.1
  have HR := Lib.hid hr
  have H := Lib.hid h
  clear h hr
  go_enter Try.func89, Try.ntmps89
  go_wp2_with fail
  go_loopw [3, 4] (fun v x wr => ∃ k : Nat, k ≤ n ∧ x = .int .i64 k ∧ OIntss wr w.heap.size v k (m.take k) ∧ Below w.heap.size w wr) (fun _ x _ => n - (intOf x).toNat)
  case atStart => exact ⟨0, Nat.zero_le _, rfl, OIntss.empty w _ (Nat.le_refl _), (Below.refl _ _).alloc (Nat.le_refl _) _⟩
  case round =>
    obtain ⟨k, hk, rfl, hown, hbl⟩ := hrel
    obtain ⟨ao5, cap5, e5, _⟩ := hown.form
    subst e5
    by_cases hlt : k < n
    · obtain ⟨b1, o1, a1, c1, r, rfl, hca, hrow, hget⟩ := H.out.at_ hlt
      have hB1 : Below wr.heap.size wr (wr.alloc (.cells #[] 3)) := (Below.refl _ _).alloc (Nat.le_refl _) _
      have hbx := hbl.trans (hB1.mono hbl.size)
      have q1 := (hbx.cell (World.block_lt_of_cell? w _ hca)).trans hca
      have HRow := Lib.hid (hrow.keep hbx)
      have hrl := HR.out r (List.mem_of_getElem? hget.out)
      have HP : Hid (m.take k ++ [r] = m.take (k + 1)) := push_take hget.out
      have HE := Lib.hid (OInts.empty wr wr.heap.size (Nat.le_refl _))
      have HB1 := Lib.hid hB1
      have Hown := Lib.hid hown
      have Hbl := Lib.hid hbl
      clear hown hbl hca hrow hget hbx hB1
      go_wp2_with (first
        | (at_builtin; refine wpList_app_ints _ rfl _ _ rfl wr.heap.size _ 0 [] rfl HE.out _ _ _ r rfl HRow.out (by omega) HB1.out.size ?_; intro v1 w1 ho1 hg1; rw [Nat.zero_add, List.nil_append] at ho1; obtain ⟨ao1, cap1, rfl, _⟩ := ho1.form; have Ho1 := Lib.hid ho1; have Hb1 : Hid (Below wr.heap.size wr w1) := HB1.out.grown hg1 HB1.out.size (fun k hk => (HE.out.ownlt k hk).1); clear ho1 hg1)
        | (at_builtin; refine wpList_push_fresh _ _ wr rfl _ _ rfl w.heap.size _ k _ rfl Hown.out (by omega) Hbl.out.size Hb1.out _ _ Ho1.out _ rfl rfl ?_; intro v3 w3 ho3 hb3 _; have Ho3 := Lib.hid ho3; have Hb3 := Lib.hid hb3; clear ho3 hb3))
      go_roundw
      case rel => exact ⟨k + 1, hlt, by go_num, by rw [← HP.out]; exact Ho3.out, Hbl.out.trans Hb3.out⟩
      case measure => simp [intOf]; omega
    · have e : k = n := by omega
      have HE : Hid (m.take k = m) := by show _ = _; rw [List.take_of_length_le (by rw [HL.out]; omega)]
      rw [HE.out, e] at hown
      subst e
      go_wp2_with fail
      go_ret
      exact ⟨_, rfl, hown, hbl⟩
end Go.Proofs.Ytlhognagaknhcaa
