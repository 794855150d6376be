/- DigT: a part of the proofs of this seat. -/
import Derived.Lib.ItoaLen
import Derived.Laws.BytesString
import Derived.Laws.Cells
import Derived.Test.YtnoghnalopdflaaDoorProg
import Derived.Test.YtnoghnalopdflaaDoorBase
namespace Go.Proofs.YtnoghnalopdflaaDoor
open Go.RowKit
set_option linter.all false
/- The decimal digits of a number, as both programs and the laws' marks write them. -/
def decB (u : Nat) : ByteArray := ⟨(Lib.decDigits u).toArray⟩
def dg (x : Nat) : List UInt8 := if x = 0 then [] else Lib.decDigits x
theorem dg_zero : dg 0 = [] := rfl
theorem dg_pos {x : Nat} (h : 0 < x) : dg x = Lib.decDigits x := by simp [dg]; omega
theorem ofNat48 (k : Nat) : UInt8.ofNat (48 + k) = 48 + UInt8.ofNat k := by rw [UInt8.ofNat_add]; rfl
theorem belowA (w : World) (o : Obj) : Below w.heap.size w (w.alloc o) := (Below.refl _ _).alloc (Nat.le_refl _) o
theorem dg_step {x : Nat} (h : 0 < x) : dg x = dg (x / 10) ++ [48 + UInt8.ofNat (x % 10)] := by
  rw [← ofNat48]
  rw [dg_pos h, Lib.decDigits]
  by_cases h10 : x < 10
  · rw [dif_pos h10, show x / 10 = 0 by omega, dg_zero, show x % 10 = x by omega]; rfl
  · rw [dif_neg h10, dg_pos (by omega)]
theorem dec_len {u : Nat} (h : u < 18446744073709551616) : (Lib.decDigits u).length ≤ 20 := by
  rw [Lib.decDigits_length]; exact Lib.nDigits_le20 u h
theorem decB_size {u : Nat} (h : u < 18446744073709551616) : (decB u).size ≤ 20 := by
  have := dec_len h
  simpa [decB, ByteArray.size] using this
def catB (b : UInt8) (o : ByteArray) : ByteArray := (⟨#[b]⟩ : ByteArray) ++ o
theorem catB_list (b : UInt8) (o : ByteArray) : (catB b o).data.toList = b :: o.data.toList := by simp [catB]
theorem catB_size (b : UInt8) (o : ByteArray) : (catB b o).size = o.size + 1 := by
  have h := congrArg List.length (catB_list b o)
  simp at h
  exact h
theorem dig_next {x : Nat} {o : ByteArray} {R : List UInt8} (hx : 0 < x) (h : dg x ++ o.data.toList = R) : dg (x / 10) ++ (catB (48 + UInt8.ofNat (x % 10)) o).data.toList = R := by
  rw [dg_step hx] at h
  rw [catB_list, ← h]
  simp
theorem dig_done {o : ByteArray} {u : Nat} (hu : 0 < u) (h : dg 0 ++ o.data.toList = dg u) : o = decB u := by
  rw [dg_zero, dg_pos hu] at h
  apply ByteArray.ext
  apply Array.ext'
  simpa [decB] using h
theorem dig_size {x u : Nat} {o : ByteArray} (hu : u < 18446744073709551616) (h : dg x ++ o.data.toList = dg u) : o.size ≤ 20 := by
  have h2 := congrArg List.length h
  have h3 : (dg u).length ≤ 20 := by
    by_cases h0 : u = 0
    · rw [h0, dg_zero]; exact Nat.zero_le _
    · rw [dg_pos (by omega)]; exact dec_len hu
  simp only [List.length_append] at h2
  have h4 : o.data.toList.length = o.size := Array.length_toList
  omega
/-- One byte made a string. -/
theorem conv_one (w : World) (z : Int) (t : TypeId) : (convert 42 9 (.slice (some ⟨w.heap.size, 0, none⟩) 1 1)).run Tryd.prog (w.alloc (.cells #[.int .u8 z] t)) = .ok (.string ⟨#[UInt8.ofNat z.toNat]⟩) (w.alloc (.cells #[.int .u8 z] t)) := by
  rw [run_convert_bytes_string _ 42 9 5 _ _ _ Tryd.underlying42 Tryd.underlying5 Tryd.underlying9]
  have hc := run_loadCells_list (P := Tryd.prog) (w.alloc (.cells #[.int .u8 z] t)) ⟨w.heap.size, 0, none⟩ (([z] : List Int).map (Value.int .u8)) (by
    intro j u hu
    match j, hu with
    | 0, hu =>
      simp at hu
      subst hu
      exact World.cell?_alloc_new _ _ _ _)
  rw [run_bytesToString _ ⟨w.heap.size, 0, none⟩ 1 1 [z] hc]
  rfl
theorem ret_text {a b : ByteArray} (h : a = b) : Ending.returned (.string a) = .returned (.string b) := by rw [h]
end Go.Proofs.YtnoghnalopdflaaDoor
