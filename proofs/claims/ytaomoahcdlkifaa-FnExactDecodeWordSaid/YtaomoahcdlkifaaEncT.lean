/- Bits that are encoded. -/
import Derived.Test.YtaomoahcdlkifaaLabArcs
import Derived.Test.YtaomoahcdlkifaaWordT
import Derived.Test.YtaomoahcdlkifaaPrunT
namespace Go.Proofs.Ytaomoahcdlkifaa
open Go.RowKit
set_option linter.all false
def armA (xs : List Ar) (p : Int) (c : Nat) : Ar := (fromL p xs).getD c (0, 0, 0)
def encF (xs : List Ar) (s : ByteArray) : Nat → Nat → Int → List Int × Int
  | _, 0, p => ([], p)
  | i, k + 1, p => ((armA xs p (bl s i - 97)).2.2 :: (encF xs s (i + 1) k (armA xs p (bl s i - 97)).2.1).1, (encF xs s (i + 1) k (armA xs p (bl s i - 97)).2.1).2)
def strOf (ls : List Int) : ByteArray := ⟨(ls.map fun l => UInt8.ofNat (97 + l.toNat)).toArray⟩
def encOk (L S : Int) (xs : List Ar) (p : Int) (s : ByteArray) : Bool := isEnc L S xs && (inR p 0 (S - 1) && isWd 2 s)
def encS (L S : Int) (xs : List Ar) (p : Int) (s : ByteArray) : ByteArray := if encOk L S xs p s then strOf (encF xs s 0 s.size p).1 else ByteArray.empty
def encQ (L S : Int) (xs : List Ar) (p : Int) (s : ByteArray) : Int := if encOk L S xs p s then (encF xs s 0 s.size p).2 else 0
theorem enc_step {xs : List Ar} {s : ByteArray} {i : Nat} {p y z : Int} {x : Int} {acc R : List Int} {q : Int} (hi : i < s.size) (ha : armA xs p (bl s i - 97) = (x, y, z))
    (h : acc ++ (encF xs s i (s.size - i) p).1 = R ∧ (encF xs s i (s.size - i) p).2 = q) : (acc ++ [z]) ++ (encF xs s (i + 1) (s.size - (i + 1)) y).1 = R ∧ (encF xs s (i + 1) (s.size - (i + 1)) y).2 = q := by
  rw [show s.size - i = (s.size - (i + 1)) + 1 by omega] at h
  simp only [encF, ha] at h
  simpa using h
theorem enc_end {xs : List Ar} {s : ByteArray} {i : Nat} {p : Int} {acc R : List Int} {q : Int} (hi : s.size ≤ i) (h : acc ++ (encF xs s i (s.size - i) p).1 = R ∧ (encF xs s i (s.size - i) p).2 = q) : acc = R ∧ p = q := by
  rw [show s.size - i = 0 by omega] at h
  simpa [encF] using h
theorem arm_get {xs : List Ar} {p : Int} {c : Nat} (h2 : 2 ≤ (fromL p xs).length) (hc : c < 2) : (fromL p xs)[c]? = some (armA xs p c) := by
  have hl : c < (fromL p xs).length := by omega
  simp [armA, List.getD, hl]
theorem ex0 : (⟨#[97, 98, 99]⟩ : ByteArray).extract 0 1 = ⟨#[97]⟩ := by decide
theorem ex1 : (⟨#[97, 98, 99]⟩ : ByteArray).extract 1 2 = ⟨#[98]⟩ := by decide
theorem ex2 : (⟨#[97, 98, 99]⟩ : ByteArray).extract 2 3 = ⟨#[99]⟩ := by decide
theorem app_one (a : ByteArray) (x : UInt8) : a ++ (⟨#[x]⟩ : ByteArray) = ⟨a.data ++ #[x]⟩ := by
  apply ByteArray.ext
  simp
theorem strOf_size (ls : List Int) : (strOf ls).size = ls.length := by simp [strOf, ByteArray.size]
theorem strOf_abc (acc : List Int) (z : Int) (h : 0 ≤ z ∧ z ≤ 2) : strOf acc ++ (⟨#[97, 98, 99]⟩ : ByteArray).extract z.toNat (z + 1).toNat = strOf (acc ++ [z]) := by
  have h3 : z = 0 ∨ z = 1 ∨ z = 2 := by omega
  rcases h3 with rfl | rfl | rfl
  · show strOf acc ++ (⟨#[97, 98, 99]⟩ : ByteArray).extract 0 1 = _
    rw [ex0, app_one]; simp [strOf]
  · show strOf acc ++ (⟨#[97, 98, 99]⟩ : ByteArray).extract 1 2 = _
    rw [ex1, app_one]; simp [strOf]
  · show strOf acc ++ (⟨#[97, 98, 99]⟩ : ByteArray).extract 2 3 = _
    rw [ex2, app_one]; simp [strOf]
theorem strOf_snoc (ls : List Int) (z : Int) : strOf (ls ++ [z]) = ⟨(strOf ls).data ++ #[UInt8.ofNat (97 + z.toNat)]⟩ := by simp [strOf]
end Go.Proofs.Ytaomoahcdlkifaa
