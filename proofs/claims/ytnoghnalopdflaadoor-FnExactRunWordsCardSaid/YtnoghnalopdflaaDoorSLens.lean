/- SLens: a part of the proofs of this seat. -/
import Derived.Test.YtnoghnalopdflaaDoorProg
import Derived.Test.YtnoghnalopdflaaDoorLensT
import Derived.Test.YtnoghnalopdflaaDoorPushI
namespace Go.Proofs.YtnoghnalopdflaaDoor
open Go.RowKit
set_option linter.all false
set_option maxRecDepth 20000 in
set_option maxHeartbeats 3200000 in
theorem sLens_any (s : ByteArray) (w : World) (hs : s.size ≤ 1048576) : Calls Tryd.prog 92 #[.string s] w fun e w' => ∃ v, e = .returned v ∧ OInts w' w.heap.size v (lens s).length (lens s) ∧ Below w.heap.size w w' := by
  have HO := Lib.hid (OInts.empty w w.heap.size (Nat.le_refl _))
  have HB0 := Lib.hid ((Below.refl w.heap.size w).alloc (Nat.le_refl _) (.cells #[] 3))
  go_enter Tryd.func92, Tryd.ntmps92
  go_wp2_with fail
  go_loopw [3, 4, 5] (fun ov nv iv wr => ∃ (i : Nat) (n : Nat) (acc : List Int), i ≤ s.size ∧ n ≤ i ∧ acc.length ≤ i ∧ iv = .int .i64 i ∧ nv = .int .i64 n ∧ OInts wr w.heap.size ov acc.length acc ∧ Hid (acc ++ lensR s i (s.size - i) n = lens s) ∧ Below w.heap.size w wr) (fun _ _ x _ => s.size - (intOf x).toNat)
  case atStart => exact ⟨0, 0, [], Nat.zero_le _, Nat.le_refl _, Nat.le_refl _, rfl, rfl, HO.out, rfl, HB0.out⟩
  case round =>
    obtain ⟨i, n, acc, hi, hn, hal, rfl, rfl, ho, hr, hbl⟩ := hrel
    obtain ⟨aa, ca, rfl, _⟩ := ho.form
    have HOw := Lib.hid ho
    have HB := Lib.hid hbl
    have hsz := hbl.size
    clear ho hbl HO HB0
    by_cases hlt : i < s.size
    · obtain ⟨b, hc⟩ : ∃ b : Nat, s[i].toNat = b := ⟨_, rfl⟩
      have hb : bl s i = b := (bl_get hlt).trans hc
      by_cases h98 : b = 98
      · have e : ((b : Int) == 98) = true := by simp [h98]
        have HN := Lib.hid (lens_b hlt (hb.trans h98) hr.out)
        clear hb hr
        subst h98
        go_wp2_with (refine wpList_push_i wr (n : Int) rfl (.tmp 17) (.tmp 19) rfl w.heap.size _ _ _ rfl HOw.out (by omega) hsz _ rfl rfl ?_; intro v2 w2 ho2 hb2; have HO2 := Lib.hid ho2; have HB2 := Lib.hid hb2; obtain ⟨a2, c2, rfl, _⟩ := ho2.form; clear ho2 hb2)
        go_roundw
        case rel => exact ⟨i + 1, 0, acc ++ [(n : Int)], hlt, Nat.zero_le _, by simp; omega, by go_num, rfl, by simpa using HO2.out, HN.out, HB.out.trans HB2.out⟩
        case measure => simp [intOf]; omega
      · have e : ((b : Int) == 98) = false := by simp; omega
        have HN := Lib.hid (lens_a hlt (by rw [hb]; exact h98) hr.out)
        clear hb hr
        go_wp2_with fail
        go_roundw
        case rel => exact ⟨i + 1, n + 1, acc, hlt, by omega, by omega, by go_num, by go_num, HOw.out, HN.out, HB.out⟩
        case measure => simp [intOf]; omega
    · have HE := Lib.hid (lens_end (by omega) hr.out)
      clear hr
      go_wp2_with (refine wpList_push_i wr (n : Int) rfl (.tmp 23) (.tmp 25) rfl w.heap.size _ _ _ rfl HOw.out (by omega) hsz _ rfl rfl ?_; intro v2 w2 ho2 hb2; have HO2 := Lib.hid ho2; have HB2 := Lib.hid hb2; obtain ⟨a2, c2, rfl, _⟩ := ho2.form; clear ho2 hb2)
      go_ret
      exact ⟨_, rfl, by have h := HO2.out; rw [HE.out] at h; have hl := h.len; rw [hl]; exact h, HB.out.trans HB2.out⟩
end Go.Proofs.YtnoghnalopdflaaDoor
