/- SArcs: a part of the proofs of this seat. -/
import Derived.Test.YtobmljclokmbcaaProg
import Derived.Test.YtobmljclokmbcaaLabArcs
import Derived.Test.YtobmljclokmbcaaBase
namespace Go.Proofs.Ytobmljclokmbcaa
open Go.RowKit
set_option linter.all false
set_option maxRecDepth 20000 in
set_option maxHeartbeats 3200000 in
theorem sArcs_any (L S : Int) (ao : Option Addr) (n cap : Nat) (xs : List Ar) (p : Int) (w : World) (h : Arcs w ao n xs) :
    Calls Try.prog 82 #[.agg #[.int .i64 L, .int .i64 S, .slice ao n cap], .int .i64 p] w fun e w' => ∃ v, e = .returned v ∧ OInts w' w.heap.size v (ixFrom p 0 xs).length (ixFrom p 0 xs) ∧ Below w.heap.size w w' := by
  have hm := h.2.1
  have HL := Lib.hid h.1
  have HB1 := Lib.hid (below1 w (.cells #[.int .i64 L, .int .i64 S, .slice ao n cap] 28))
  have H := Lib.hid (h.keep HB1.out)
  have HK := Lib.hid (Blk.new w 28 #[.int .i64 L, .int .i64 S, .slice ao n cap])
  have HO := Lib.hid (OInts.empty (w.alloc (.cells #[.int .i64 L, .int .i64 S, .slice ao n cap] 28)) _ (Nat.le_refl _))
  have HB2 := Lib.hid (below1 (w.alloc (.cells #[.int .i64 L, .int .i64 S, .slice ao n cap] 28)) (.cells #[] 3))
  have HZ : Hid ((w.alloc (.cells #[.int .i64 L, .int .i64 S, .slice ao n cap] 28)).heap.size = w.heap.size + 1) := by show _ = _; simp
  clear h
  go_enter Try.func82, Try.ntmps82
  go_wp2_with fail
  generalize w.alloc (.cells #[.int .i64 L, .int .i64 S, .slice ao n cap] 28) = w1 at HB1 H HK HO HB2 HZ ⊢
  go_loopw [5, 6] (fun v x wr => ∃ (k : Nat) (acc : List Int), k ≤ n ∧ acc.length ≤ k ∧ x = .int .i64 k ∧ OInts wr w1.heap.size v acc.length acc ∧ Hid (acc ++ ixFrom p k (xs.drop k) = ixFrom p 0 xs) ∧ Below w1.heap.size w1 wr) (fun _ x _ => n - (intOf x).toNat)
  case atStart => exact ⟨0, [], Nat.zero_le _, Nat.le_refl _, rfl, by simpa [HZ.out] using HO.out, rfl, HB2.out⟩
  case round =>
    obtain ⟨k, acc, hk, hak, rfl, ho, hr, hbl⟩ := hrel
    have HOw := Lib.hid ho
    have HB := Lib.hid hbl
    have hsz := hbl.size
    have k2 := (HK.out.keep hbl).c2
    obtain ⟨aa, ca, rfl, _⟩ := ho.form
    clear ho hbl HO HB2
    by_cases hlt : k < n
    · obtain ⟨b, o, x, y, z, rfl, c1, c2, c3, hx⟩ := (H.out.keep HB.out).at_ hlt
      have HST := Lib.hid (ix_step hx.out hr.out)
      clear hx hr
      by_cases hp : x = p
      · have e : (x == p) = true := by simp [hp]
        have HN := Lib.hid (HST.out.1 hp)
        clear hp
        go_wp2_with (refine wpList_push_one wr (k : Int) rfl (.tmp 23) (.tmp 25) rfl w1.heap.size _ _ _ rfl HOw.out (by omega) hsz _ rfl rfl ?_; intro v2 w2 ho2 hb2; have HO2 := Lib.hid ho2; have HB2 := Lib.hid hb2; obtain ⟨a2, c2', rfl, _⟩ := ho2.form; clear ho2 hb2)
        go_roundw
        case rel => exact ⟨k + 1, _, hlt, by simp; omega, by go_num, by simpa using HO2.out, HN.out, HB.out.trans HB2.out⟩
        case measure => simp [intOf]; omega
      · have e : (x == p) = false := by simp [hp]
        have HN := Lib.hid (HST.out.2 hp)
        clear hp
        go_wp2_with fail
        go_roundw
        case rel => exact ⟨k + 1, _, hlt, by omega, by go_num, HOw.out, HN.out, HB.out⟩
        case measure => simp [intOf]; omega
    · have HE := Lib.hid (ix_end (by have := HL.out; omega) hr.out)
      clear hr
      go_wp2_with fail
      go_ret
      have ho := HOw.out
      rw [HE.out] at ho
      exact ⟨_, rfl, by have h := HE.out; rw [← h]; exact HOw.out.mono HB1.out.size, step2 HB1.out HB.out⟩
end Go.Proofs.Ytobmljclokmbcaa
