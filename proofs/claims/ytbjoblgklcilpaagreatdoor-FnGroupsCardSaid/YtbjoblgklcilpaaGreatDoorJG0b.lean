/- Parts of the proof of a law, joined: SL4Zero L1Max Mn L1Min SCopy DgX DgY MinE SL4One IIsMatrix IZeros Clone IFormat IGrp SJoin. -/
import Derived.Test.YtbjoblgklcilpaaGreatDoorProg
import Derived.Lib.SliceRun
import Derived.Test.YtbjoblgklcilpaaGreatDoorShelf
import Derived.Lib.AppendIntMem
import Derived.Lib.LaidU8
import Derived.MakeChecks
import Derived.Test.YtbjoblgklcilpaaGreatDoorJG0a
namespace Go.Proofs.YtbjoblgklcilpaaGreatDoor
open Go.RowKit
set_option linter.all false
set_option maxHeartbeats 1600000 in
theorem sL4Zero_any (n c : Nat) (w : World) (hn : n ≤ 1048576) (hc : c ≤ 1048576) :
    Calls Tryz.prog 80 #[.int .i64 n, .int .i64 c] w fun e w' => ∃ v, e = .returned v ∧ OIntss w' w.heap.size v n (List.replicate n (List.replicate c 0)) ∧ Below w.heap.size w w' := by
  have hmk := make_ints c (by omega)
  go_enter Tryz.func80, Tryz.ntmps80
  go_wp2
  go_loopw [5, 6] (fun v i wr => ∃ k : Nat, k ≤ n ∧ i = .int .i64 k ∧ OIntss wr w.heap.size v k (List.replicate k (List.replicate c 0)) ∧ Below w.heap.size w wr) (fun _ i _ => n - (intOf i).toNat)
  case atStart => exact ⟨0, Nat.zero_le _, rfl, OIntss.empty w _ (Nat.le_refl _), (Below.refl _ _).alloc (Nat.le_refl _) _⟩
  case round =>
    obtain ⟨k, hk, rfl, hown, hb⟩ := hrel
    by_cases hlt : k < n
    · have Hown := Lib.hid hown
      have Hb := Lib.hid hb
      clear hown hb
      go_wp2_with (first | (at_builtin; refine wpList_push_fresh _ _ wr rfl _ _ rfl w.heap.size _ k _ rfl Hown.out (by omega) Hb.out.size ((Below.refl _ _).alloc (Nat.le_refl _) _) c _ (OInts.made wr c (by omega)) _ ?ctb rfl ?_))
      case ctb => simp
      intro v' w' hown' hbel _
      rw [rep_push] at hown'
      have hb' := Hb.out.trans hbel
      go_wp2_with fail
      go_roundw
      case rel => exact ⟨k + 1, hlt, by go_num, hown', hb'⟩
      case measure => simp [intOf]; omega
    · go_wp2
      go_ret
      have : k = n := by omega
      subst this
      exact ⟨_, rfl, hown, hb⟩
end Go.Proofs.YtbjoblgklcilpaaGreatDoor

namespace Go.Proofs.YtbjoblgklcilpaaGreatDoor
open Go.RowKit
set_option linter.all false
theorem sMax_any (x y : Int) (w : World) :
    Calls Tryz.prog 66 #[.int .i64 x, .int .i64 y] w fun e w' => e = .returned (.int .i64 (if y < x then x else y)) ∧ w = w' := by
  by_cases h : y < x
  · rw [if_pos h]
    go_enter Tryz.func66, Tryz.ntmps66
    go_wp2_with fail
    go_ret
    exact ⟨rfl, rfl⟩
  · rw [if_neg h]
    go_enter Tryz.func66, Tryz.ntmps66
    go_wp2_with fail
    go_ret
    exact ⟨rfl, rfl⟩
end Go.Proofs.YtbjoblgklcilpaaGreatDoor

namespace Go.Proofs.YtbjoblgklcilpaaGreatDoor
open Go.RowKit
set_option linter.all false
def mn (x y : Int) : Int := if x < y then x else y
end Go.Proofs.YtbjoblgklcilpaaGreatDoor

namespace Go.Proofs.YtbjoblgklcilpaaGreatDoor
open Go.RowKit
set_option linter.all false
theorem l1Min_any (x y : Int) (w : World) :
    Calls Tryz.prog 67 #[.int .i64 x, .int .i64 y] w fun e w' => e = .returned (.int .i64 (mn x y)) ∧ w = w' := by
  by_cases h : x < y
  · have e : mn x y = x := by unfold mn; rw [if_pos h]
    rw [e]
    go_enter Tryz.func67, Tryz.ntmps67
    go_wp2_with fail
    go_ret
    exact ⟨rfl, rfl⟩
  · have e : mn x y = y := by unfold mn; rw [if_neg h]
    rw [e]
    go_enter Tryz.func67, Tryz.ntmps67
    go_wp2_with fail
    go_ret
    exact ⟨rfl, rfl⟩
end Go.Proofs.YtbjoblgklcilpaaGreatDoor

namespace Go.Proofs.YtbjoblgklcilpaaGreatDoor
open Go.RowKit
set_option linter.all false
set_option maxHeartbeats 1600000 in
theorem sCopy_any (ao : Option Addr) (n cap : Nat) (m : List (List Int)) (w : World) (h : Intss w ao n m) (hn : n ≤ 1048576) (hr : ∀ r ∈ m, r.length ≤ 1048576) :
    Calls Tryz.prog 44 #[.slice ao n cap] w fun e w' => ∃ v, e = .returned v ∧ OIntss w' w.heap.size v n m ∧ Below w.heap.size w w' := by
  have HL : Hid (m.length = n) := h.1
  have HR := Lib.hid hr
  have H := Lib.hid h
  clear h hr
  go_enter Tryz.func44, Tryz.ntmps44
  go_wp2_with fail
  go_loopw [3, 4] (fun v x wr => ∃ k : Nat, k ≤ n ∧ x = .int .i64 k ∧ OIntss wr w.heap.size v k (m.take k) ∧ Below w.heap.size w wr) (fun _ x _ => n - (intOf x).toNat)
  case atStart => exact ⟨0, Nat.zero_le _, rfl, OIntss.empty w _ (Nat.le_refl _), (Below.refl _ _).alloc (Nat.le_refl _) _⟩
  case round =>
    obtain ⟨k, hk, rfl, hown, hbl⟩ := hrel
    obtain ⟨ao5, cap5, e5, _⟩ := hown.form
    subst e5
    by_cases hlt : k < n
    · obtain ⟨b1, o1, a1, c1, r, rfl, hca, hrow, hget⟩ := H.out.at_ hlt
      have hB1 : Below wr.heap.size wr (wr.alloc (.cells #[] 3)) := (Below.refl _ _).alloc (Nat.le_refl _) _
      have hbx := hbl.trans (hB1.mono hbl.size)
      have q1 := (hbx.cell (World.block_lt_of_cell? w _ hca)).trans hca
      have HRow := Lib.hid (hrow.keep hbx)
      have hrl := HR.out r (List.mem_of_getElem? hget.out)
      have HP : Hid (m.take k ++ [r] = m.take (k + 1)) := push_take hget.out
      have HE := Lib.hid (OInts.empty wr wr.heap.size (Nat.le_refl _))
      have HB1 := Lib.hid hB1
      have Hown := Lib.hid hown
      have Hbl := Lib.hid hbl
      clear hown hbl hca hrow hget hbx hB1
      go_wp2_with (first
        | (at_builtin; refine wpList_app_ints _ rfl _ _ rfl wr.heap.size _ 0 [] rfl HE.out _ _ _ r rfl HRow.out (by omega) HB1.out.size ?_; intro v1 w1 ho1 hg1; rw [Nat.zero_add, List.nil_append] at ho1; obtain ⟨ao1, cap1, rfl, _⟩ := ho1.form; have Ho1 := Lib.hid ho1; have Hb1 : Hid (Below wr.heap.size wr w1) := HB1.out.grown hg1 HB1.out.size (fun k hk => (HE.out.ownlt k hk).1); clear ho1 hg1)
        | (at_builtin; refine wpList_push_fresh _ _ wr rfl _ _ rfl w.heap.size _ k _ rfl Hown.out (by omega) Hbl.out.size Hb1.out _ _ Ho1.out _ rfl rfl ?_; intro v3 w3 ho3 hb3 _; have Ho3 := Lib.hid ho3; have Hb3 := Lib.hid hb3; clear ho3 hb3))
      go_roundw
      case rel => exact ⟨k + 1, hlt, by go_num, by rw [← HP.out]; exact Ho3.out, Hbl.out.trans Hb3.out⟩
      case measure => simp [intOf]; omega
    · have e : k = n := by omega
      have HE : Hid (m.take k = m) := by show _ = _; rw [List.take_of_length_le (by rw [HL.out]; omega)]
      rw [HE.out, e] at hown
      subst e
      go_wp2_with fail
      go_ret
      exact ⟨_, rfl, hown, hbl⟩
end Go.Proofs.YtbjoblgklcilpaaGreatDoor

namespace Go.Proofs.YtbjoblgklcilpaaGreatDoor
open Go.RowKit
set_option linter.all false
section
variable (x : Nat → Nat → Int)
def M2 (r s c d : Nat) : Int := x r c * x s d - x r d * x s c
def D3 (r s t c d e : Nat) : Int := x r c * (x s d * x t e - x s e * x t d) - x r d * (x s c * x t e - x s e * x t c) + x r e * (x s c * x t d - x s d * x t c)
def D4 (r s t u c d e f : Nat) : Int := x r c * D3 x s t u d e f - x r d * D3 x s t u c e f + x r e * D3 x s t u c d f - x r f * D3 x s t u c d e
theorem D3_s12 (r s t c d e : Nat) : D3 x s r t c d e = -D3 x r s t c d e := by unfold D3; grind
theorem D3_s13 (r s t c d e : Nat) : D3 x t s r c d e = -D3 x r s t c d e := by unfold D3; grind
theorem D3_c12 (r s t c d e : Nat) : D3 x r s t d c e = -D3 x r s t c d e := by unfold D3; grind
theorem D3_c13 (r s t c d e : Nat) : D3 x r s t e d c = -D3 x r s t c d e := by unfold D3; grind
theorem D3_rr (r t c d e : Nat) : D3 x r r t c d e = 0 := by unfold D3; grind
theorem D3_rr2 (r t c d e : Nat) : D3 x r t r c d e = 0 := by unfold D3; grind
theorem D3_rr3 (r t c d e : Nat) : D3 x t r r c d e = 0 := by unfold D3; grind
theorem D3_cc (r s t c e : Nat) : D3 x r s t c c e = 0 := by unfold D3; grind
theorem D3_cc2 (r s t c e : Nat) : D3 x r s t c e c = 0 := by unfold D3; grind
theorem D3_cc3 (r s t c e : Nat) : D3 x r s t e c c = 0 := by unfold D3; grind
/-- An entry of one of the rows. -/
theorem id_row (a b r s t c d e : Nat) : x a b * D3 x r s t c d e + x r b * D3 x a s t c d e =
    -(M2 x a s c d * M2 x r t e b) + M2 x a s c e * M2 x r t d b - M2 x a s d e * M2 x r t c b - M2 x r s c d * M2 x a t e b + M2 x r s c e * M2 x a t d b - M2 x r s d e * M2 x a t c b := by
  unfold D3 M2; grind
theorem id_row1 (b r s t c d e : Nat) : x r b * D3 x r s t c d e = -(M2 x r s c d * M2 x r t e b) + M2 x r s c e * M2 x r t d b - M2 x r s d e * M2 x r t c b := by
  unfold D3 M2; grind
theorem id_col1 (a r s t c d e : Nat) : x a c * D3 x r s t c d e = -(M2 x r s c d * M2 x t a c e) + M2 x r t c d * M2 x s a c e - M2 x s t c d * M2 x r a c e := by
  unfold D3 M2; grind
theorem id_two (a b r s t c d e : Nat) : 2 * (x a b * D3 x r s t c d e) = M2 x r s d e * M2 x t a c b + M2 x r s d b * M2 x t a c e - M2 x r s e b * M2 x t a c d - M2 x r t c d * M2 x s a e b + M2 x r t c e * M2 x s a d b
    - M2 x r t c b * M2 x s a d e - 2 * (M2 x r t d e * M2 x s a c b) - M2 x r a c d * M2 x s t e b + M2 x r a c e * M2 x s t d b + M2 x r a c b * M2 x s t d e := by
  unfold D3 M2; grind
theorem id_col (a b r s t c d e : Nat) : x a b * D3 x r s t c d e + x a c * D3 x r s t b d e =
    -(M2 x r s b d * M2 x t a c e) + M2 x r t b d * M2 x s a c e - M2 x s t b d * M2 x r a c e - M2 x r s c d * M2 x t a b e + M2 x r t c d * M2 x s a b e - M2 x s t c d * M2 x r a b e := by
  unfold D3 M2; grind
theorem id_lap (r s t u c d e f : Nat) : D4 x r s t u c d e f = M2 x r s c d * M2 x t u e f - M2 x r s c e * M2 x t u d f + M2 x r s c f * M2 x t u d e + M2 x r s d e * M2 x t u c f - M2 x r s d f * M2 x t u c e + M2 x r s e f * M2 x t u c d := by
  unfold D4 D3 M2; grind
theorem id_exp (r s t u c d e f : Nat) : D4 x r s t u c d e f = x r c * D3 x s t u d e f - x s c * D3 x r t u d e f + x t c * D3 x r s u d e f - x u c * D3 x r s t d e f := by
  unfold D4 D3; grind
theorem id_jac (r s t u c d e f : Nat) : M2 x r s c d * D4 x r s t u c d e f = D3 x r s t c d e * D3 x r s u c d f - D3 x r s t c d f * D3 x r s u c d e := by
  unfold D4 D3 M2; grind
theorem D4_r23 (r s t u c d e f : Nat) : D4 x r t s u c d e f = -D4 x r s t u c d e f := by unfold D4 D3; grind
theorem D4_r12 (r s t u c d e f : Nat) : D4 x s r t u c d e f = -D4 x r s t u c d e f := by unfold D4 D3; grind
theorem D4_r34 (r s t u c d e f : Nat) : D4 x r s u t c d e f = -D4 x r s t u c d e f := by unfold D4 D3; grind
theorem D4_c23 (r s t u c d e f : Nat) : D4 x r s t u c e d f = -D4 x r s t u c d e f := by unfold D4 D3; grind
theorem D4_c12 (r s t u c d e f : Nat) : D4 x r s t u d c e f = -D4 x r s t u c d e f := by unfold D4 D3; grind
theorem D4_c34 (r s t u c d e f : Nat) : D4 x r s t u c d f e = -D4 x r s t u c d e f := by unfold D4 D3; grind
end
/- Odd multiples. -/
def Le2 (u v : Int) : Prop := ∃ m : Int, m % 2 = 1 ∧ u ∣ m * v
theorem Le2.refl (u : Int) : Le2 u u := ⟨1, rfl, by rw [Int.one_mul]; exact Int.dvd_refl u⟩
theorem Le2.trans {u v w : Int} (h : Le2 u v) (k : Le2 v w) : Le2 u w := by
  obtain ⟨m, hm, h⟩ := h
  obtain ⟨n, hn, k⟩ := k
  refine ⟨m * n, by rw [Int.mul_emod, hm, hn]; rfl, ?_⟩
  rw [Int.mul_assoc]
  exact Int.dvd_trans h (Int.mul_dvd_mul (Int.dvd_refl m) k)
theorem Le2.total : ∀ (f : Nat) (u v : Int), u.natAbs + v.natAbs ≤ f → Le2 u v ∨ Le2 v u
  | 0, u, v, h => by
    have hu : u = 0 := by omega
    have hv : v = 0 := by omega
    subst hu hv
    exact .inl (Le2.refl 0)
  | f + 1, u, v, h => by
    by_cases h1 : u % 2 = 1
    · exact .inl ⟨u, h1, Int.dvd_mul_right u v⟩
    by_cases h2 : v % 2 = 1
    · exact .inr ⟨v, h2, Int.dvd_mul_right v u⟩
    by_cases h0 : u = 0 ∧ v = 0
    · obtain ⟨rfl, rfl⟩ := h0; exact .inl (Le2.refl 0)
    obtain ⟨p, rfl⟩ : ∃ p, u = 2 * p := ⟨u / 2, by omega⟩
    obtain ⟨q, rfl⟩ : ∃ q, v = 2 * q := ⟨v / 2, by omega⟩
    have up : ∀ p q : Int, Le2 p q → Le2 (2 * p) (2 * q) := by
      intro p q ⟨m, hm, hd⟩
      refine ⟨m, hm, ?_⟩
      rw [Int.mul_left_comm]
      exact Int.mul_dvd_mul (Int.dvd_refl 2) hd
    rcases Le2.total f p q (by omega) with h3 | h3
    · exact .inl (up _ _ h3)
    · exact .inr (up _ _ h3)
theorem least2 (f : Nat → Int) : ∀ n, 0 < n → ∃ i, i < n ∧ ∀ j, j < n → Le2 (f i) (f j)
  | 0, h => by omega
  | 1, _ => ⟨0, by omega, fun j hj => by have : j = 0 := by omega
                                         subst this; exact Le2.refl _⟩
  | n + 2, _ => by
    obtain ⟨i, hi, h⟩ := least2 f (n + 1) (by omega)
    rcases Le2.total _ (f i) (f (n + 1)) (Nat.le_refl _) with h1 | h1
    · refine ⟨i, by omega, fun j hj => ?_⟩
      by_cases e : j = n + 1
      · subst e; exact h1
      · exact h j (by omega)
    · refine ⟨n + 1, by omega, fun j hj => ?_⟩
      by_cases e : j = n + 1
      · subst e; exact Le2.refl _
      · exact h1.trans (h j (by omega))
/-- What divides an odd multiple and the double divides. -/
theorem odd_two {G m P : Int} (hm : m % 2 = 1) (h1 : G ∣ m * P) (h2 : G ∣ 2 * P) : G ∣ P := by
  have e : P = m * P - (m / 2) * (2 * P) := by
    have hm2 : m = 2 * (m / 2) + 1 := by omega
    generalize m / 2 = k at hm2 ⊢
    subst hm2
    grind
  rw [e]
  exact Int.dvd_sub h1 (Int.dvd_mul_of_dvd_right h2)
end Go.Proofs.YtbjoblgklcilpaaGreatDoor

namespace Go.Proofs.YtbjoblgklcilpaaGreatDoor
open Go.RowKit
set_option linter.all false
theorem dv {G a b : Int} (h1 : G ∣ a) (h2 : G ∣ b) : G * G ∣ a * b := Int.mul_dvd_mul h1 h2
section
variable {x : Nat → Nat → Int} {G : Int} {n : Nat}
def H2 (x : Nat → Nat → Int) (G : Int) (n : Nat) : Prop := ∀ r s c d, r < n → s < n → c < n → d < n → G ∣ M2 x r s c d
theorem row1 (H : H2 x G n) {b r s t c d e : Nat} (hb : b < n) (hr : r < n) (hs : s < n) (ht : t < n) (hc : c < n) (hd : d < n) (he : e < n) : G * G ∣ x r b * D3 x r s t c d e := by
  rw [id_row1]
  exact Int.dvd_sub (Int.dvd_add (Int.dvd_neg.2 (dv (H _ _ _ _ hr hs hc hd) (H _ _ _ _ hr ht he hb))) (dv (H _ _ _ _ hr hs hc he) (H _ _ _ _ hr ht hd hb))) (dv (H _ _ _ _ hr hs hd he) (H _ _ _ _ hr ht hc hb))
theorem col1 (H : H2 x G n) {a r s t c d e : Nat} (ha : a < n) (hr : r < n) (hs : s < n) (ht : t < n) (hc : c < n) (hd : d < n) (he : e < n) : G * G ∣ x a c * D3 x r s t c d e := by
  rw [id_col1]
  exact Int.dvd_sub (Int.dvd_add (Int.dvd_neg.2 (dv (H _ _ _ _ hr hs hc hd) (H _ _ _ _ ht ha hc he))) (dv (H _ _ _ _ hr ht hc hd) (H _ _ _ _ hs ha hc he))) (dv (H _ _ _ _ hs ht hc hd) (H _ _ _ _ hr ha hc he))
theorem two1 (H : H2 x G n) {a b r s t c d e : Nat} (ha : a < n) (hb : b < n) (hr : r < n) (hs : s < n) (ht : t < n) (hc : c < n) (hd : d < n) (he : e < n) : G * G ∣ 2 * (x a b * D3 x r s t c d e) := by
  rw [id_two]
  exact Int.dvd_add (Int.dvd_add (Int.dvd_sub (Int.dvd_sub (Int.dvd_sub (Int.dvd_add (Int.dvd_sub (Int.dvd_sub (Int.dvd_add (dv (H _ _ _ _ hr hs hd he) (H _ _ _ _ ht ha hc hb)) (dv (H _ _ _ _ hr hs hd hb) (H _ _ _ _ ht ha hc he)))
    (dv (H _ _ _ _ hr hs he hb) (H _ _ _ _ ht ha hc hd))) (dv (H _ _ _ _ hr ht hc hd) (H _ _ _ _ hs ha he hb))) (dv (H _ _ _ _ hr ht hc he) (H _ _ _ _ hs ha hd hb)))
    (dv (H _ _ _ _ hr ht hc hb) (H _ _ _ _ hs ha hd he))) (Int.dvd_mul_of_dvd_right (dv (H _ _ _ _ hr ht hd he) (H _ _ _ _ hs ha hc hb)))) (dv (H _ _ _ _ hr ha hc hd) (H _ _ _ _ hs ht he hb)))
    (dv (H _ _ _ _ hr ha hc he) (H _ _ _ _ hs ht hd hb))) (dv (H _ _ _ _ hr ha hc hb) (H _ _ _ _ hs ht hd he))
theorem rowR (H : H2 x G n) {a b r s t c d e : Nat} (ha : a < n) (hb : b < n) (hr : r < n) (hs : s < n) (ht : t < n) (hc : c < n) (hd : d < n) (he : e < n) : G * G ∣ x a b * D3 x r s t c d e + x r b * D3 x a s t c d e := by
  rw [id_row]
  exact Int.dvd_sub (Int.dvd_add (Int.dvd_sub (Int.dvd_sub (Int.dvd_add (Int.dvd_neg.2 (dv (H _ _ _ _ ha hs hc hd) (H _ _ _ _ hr ht he hb))) (dv (H _ _ _ _ ha hs hc he) (H _ _ _ _ hr ht hd hb))) (dv (H _ _ _ _ ha hs hd he) (H _ _ _ _ hr ht hc hb)))
    (dv (H _ _ _ _ hr hs hc hd) (H _ _ _ _ ha ht he hb))) (dv (H _ _ _ _ hr hs hc he) (H _ _ _ _ ha ht hd hb))) (dv (H _ _ _ _ hr hs hd he) (H _ _ _ _ ha ht hc hb))
theorem colR (H : H2 x G n) {a b r s t c d e : Nat} (ha : a < n) (hb : b < n) (hr : r < n) (hs : s < n) (ht : t < n) (hc : c < n) (hd : d < n) (he : e < n) : G * G ∣ x a b * D3 x r s t c d e + x a c * D3 x r s t b d e := by
  rw [id_col]
  exact Int.dvd_sub (Int.dvd_add (Int.dvd_sub (Int.dvd_sub (Int.dvd_add (Int.dvd_neg.2 (dv (H _ _ _ _ hr hs hb hd) (H _ _ _ _ ht ha hc he))) (dv (H _ _ _ _ hr ht hb hd) (H _ _ _ _ hs ha hc he))) (dv (H _ _ _ _ hs ht hb hd) (H _ _ _ _ hr ha hc he)))
    (dv (H _ _ _ _ hr hs hc hd) (H _ _ _ _ ht ha hb he))) (dv (H _ _ _ _ hr ht hc hd) (H _ _ _ _ hs ha hb he))) (dv (H _ _ _ _ hs ht hc hd) (H _ _ _ _ hr ha hb he))
theorem lap4 (H : H2 x G n) {r s t u c d e f : Nat} (hr : r < n) (hs : s < n) (ht : t < n) (hu : u < n) (hc : c < n) (hd : d < n) (he : e < n) (hf : f < n) : G * G ∣ D4 x r s t u c d e f := by
  rw [id_lap]
  exact Int.dvd_add (Int.dvd_sub (Int.dvd_add (Int.dvd_add (Int.dvd_sub (dv (H _ _ _ _ hr hs hc hd) (H _ _ _ _ ht hu he hf)) (dv (H _ _ _ _ hr hs hc he) (H _ _ _ _ ht hu hd hf))) (dv (H _ _ _ _ hr hs hc hf) (H _ _ _ _ ht hu hd he)))
    (dv (H _ _ _ _ hr hs hd he) (H _ _ _ _ ht hu hc hf))) (dv (H _ _ _ _ hr hs hd hf) (H _ _ _ _ ht hu hc he))) (dv (H _ _ _ _ hr hs he hf) (H _ _ _ _ ht hu hc hd))
/-- The entry is one of the rows. -/
theorem rowIn (H : H2 x G n) {a b r s t c d e : Nat} (h : a = r ∨ a = s ∨ a = t) (hb : b < n) (hr : r < n) (hs : s < n) (ht : t < n) (hc : c < n) (hd : d < n) (he : e < n) : G * G ∣ x a b * D3 x r s t c d e := by
  rcases h with rfl | rfl | rfl
  · exact row1 H hb hr hs ht hc hd he
  · have := row1 H hb hs hr ht hc hd he
    rw [D3_s12, Int.mul_neg] at this
    exact Int.dvd_neg.1 this
  · have := row1 H hb ht hs hr hc hd he
    rw [D3_s13, Int.mul_neg] at this
    exact Int.dvd_neg.1 this
theorem colIn (H : H2 x G n) {a b r s t c d e : Nat} (h : b = c ∨ b = d ∨ b = e) (ha : a < n) (hr : r < n) (hs : s < n) (ht : t < n) (hc : c < n) (hd : d < n) (he : e < n) : G * G ∣ x a b * D3 x r s t c d e := by
  rcases h with rfl | rfl | rfl
  · exact col1 H ha hr hs ht hc hd he
  · have := col1 H ha hr hs ht hd hc he
    rw [D3_c12, Int.mul_neg] at this
    exact Int.dvd_neg.1 this
  · have := col1 H ha hr hs ht he hd hc
    rw [D3_c13, Int.mul_neg] at this
    exact Int.dvd_neg.1 this
theorem rowSame {r s t c d e : Nat} (h : r = s ∨ r = t ∨ s = t) : D3 x r s t c d e = 0 := by
  rcases h with rfl | rfl | rfl
  · exact D3_rr x _ _ _ _ _
  · exact D3_rr2 x _ _ _ _ _
  · exact D3_rr3 x _ _ _ _ _
theorem colSame {r s t c d e : Nat} (h : c = d ∨ c = e ∨ d = e) : D3 x r s t c d e = 0 := by
  rcases h with rfl | rfl | rfl
  · exact D3_cc x _ _ _ _ _
  · exact D3_cc2 x _ _ _ _ _
  · exact D3_cc3 x _ _ _ _ _
/-- The entry that is least at 2. -/
theorem least1 (H : H2 x G n) {a b : Nat} (ha : a < n) (hb : b < n) (hL : ∀ c, c < n → Le2 (x a b) (x c b)) {r s t c d e : Nat} (hr : r < n) (hs : s < n) (ht : t < n) (hc : c < n) (hd : d < n) (he : e < n) : G * G ∣ x a b * D3 x r s t c d e := by
  obtain ⟨m1, o1, q1, e1⟩ := hL r hr
  obtain ⟨m2, o2, q2, e2⟩ := hL s hs
  obtain ⟨m3, o3, q3, e3⟩ := hL t ht
  refine odd_two (m := m1 * m2 * m3) (by rw [Int.mul_emod, Int.mul_emod m1, o1, o2, o3]; rfl) ?_ (two1 H ha hb hr hs ht hc hd he)
  have hx := id_exp x a r s t b c d e
  have h4 := lap4 H ha hr hs ht hb hc hd he
  have k1 := rowIn H (a := a) (b := b) (r := a) (s := s) (t := t) (.inl rfl) hb ha hs ht hc hd he
  have k2 := rowIn H (a := a) (b := b) (r := a) (s := r) (t := t) (.inl rfl) hb ha hr ht hc hd he
  have k3 := rowIn H (a := a) (b := b) (r := a) (s := r) (t := s) (.inl rfl) hb ha hr hs hc hd he
  have e : m1 * m2 * m3 * (x a b * D3 x r s t c d e) = m1 * m2 * m3 * D4 x a r s t b c d e + m2 * m3 * q1 * (x a b * D3 x a s t c d e) - m1 * m3 * q2 * (x a b * D3 x a r t c d e) + m1 * m2 * q3 * (x a b * D3 x a r s c d e) := by
    rw [hx]
    have f1 : m1 * m2 * m3 * (x r b * D3 x a s t c d e) = m2 * m3 * q1 * (x a b * D3 x a s t c d e) := by
      calc m1 * m2 * m3 * (x r b * D3 x a s t c d e) = m2 * m3 * (m1 * x r b) * D3 x a s t c d e := by grind
        _ = m2 * m3 * q1 * (x a b * D3 x a s t c d e) := by rw [e1]; grind
    have f2 : m1 * m2 * m3 * (x s b * D3 x a r t c d e) = m1 * m3 * q2 * (x a b * D3 x a r t c d e) := by
      calc m1 * m2 * m3 * (x s b * D3 x a r t c d e) = m1 * m3 * (m2 * x s b) * D3 x a r t c d e := by grind
        _ = m1 * m3 * q2 * (x a b * D3 x a r t c d e) := by rw [e2]; grind
    have f3 : m1 * m2 * m3 * (x t b * D3 x a r s c d e) = m1 * m2 * q3 * (x a b * D3 x a r s c d e) := by
      calc m1 * m2 * m3 * (x t b * D3 x a r s c d e) = m1 * m2 * (m3 * x t b) * D3 x a r s c d e := by grind
        _ = m1 * m2 * q3 * (x a b * D3 x a r s c d e) := by rw [e3]; grind
    rw [← f1, ← f2, ← f3]
    grind
  rw [e]
  exact Int.dvd_add (Int.dvd_sub (Int.dvd_add (Int.dvd_mul_of_dvd_right h4) (Int.dvd_mul_of_dvd_right k1)) (Int.dvd_mul_of_dvd_right k2)) (Int.dvd_mul_of_dvd_right k3)
theorem one_three (hn : n ≤ 4) (H : H2 x G n) {a b r s t c d e : Nat} (ha : a < n) (hb : b < n) (hr : r < n) (hs : s < n) (ht : t < n) (hc : c < n) (hd : d < n) (he : e < n) : G * G ∣ x a b * D3 x r s t c d e := by
  have h0 : 0 < n * n := Nat.mul_pos (by omega) (by omega)
  obtain ⟨i, hi, hl⟩ := least2 (fun i => x (i / n) (i % n)) (n * n) h0
  have hpos : 0 < n := by omega
  have hA : i / n < n := Nat.div_lt_of_lt_mul hi
  have hB : i % n < n := Nat.mod_lt _ hpos
  generalize i / n = A at hl hA
  generalize i % n = B at hl hB
  have hL : ∀ c, c < n → Le2 (x A B) (x c B) := by
    intro c hc
    have h := hl (c * n + B) (by
      have h1 : c * n + n ≤ n * n := by rw [← Nat.succ_mul]; exact Nat.mul_le_mul_right n hc
      omega)
    rw [Nat.mul_comm c n, Nat.mul_add_div hpos, Nat.mul_add_mod, Nat.div_eq_of_lt hB, Nat.mod_eq_of_lt hB, Nat.add_zero] at h
    exact h
  have S1 : ∀ r s t c d e, r < n → s < n → t < n → c < n → d < n → e < n → G * G ∣ x A B * D3 x r s t c d e := fun r s t c d e hr hs ht hc hd he => least1 H hA hB hL hr hs ht hc hd he
  have S2 : ∀ a r s t c d e, a < n → r < n → s < n → t < n → c < n → d < n → e < n → G * G ∣ x a B * D3 x r s t c d e := by
    intro a r s t c d e ha hr hs ht hc hd he
    have base : ∀ s t c d e, s < n → t < n → c < n → d < n → e < n → G * G ∣ x a B * D3 x A s t c d e := by
      intro s t c d e hs ht hc hd he
      have h1 := rowR H ha hB hA hs ht hc hd he
      have h2 := S1 a s t c d e ha hs ht hc hd he
      have := Int.dvd_sub h1 h2
      rwa [Int.add_sub_cancel] at this
    by_cases q1 : r = A
    · subst q1; exact base s t c d e hs ht hc hd he
    by_cases q2 : s = A
    · subst q2
      have := base r t c d e hr ht hc hd he
      rw [D3_s12, Int.mul_neg] at this
      exact Int.dvd_neg.1 this
    by_cases q3 : t = A
    · subst q3
      have := base s r c d e hs hr hc hd he
      rw [D3_s13, Int.mul_neg] at this
      exact Int.dvd_neg.1 this
    by_cases q4 : a = r ∨ a = s ∨ a = t
    · exact rowIn H q4 hB hr hs ht hc hd he
    by_cases q5 : r = s ∨ r = t ∨ s = t
    · rw [rowSame q5, Int.mul_zero]; exact Int.dvd_zero _
    by_cases q6 : a = A
    · subst q6; exact S1 r s t c d e hr hs ht hc hd he
    omega
  have base : ∀ r s t d e, r < n → s < n → t < n → d < n → e < n → G * G ∣ x a b * D3 x r s t B d e := by
    intro r s t d e hr hs ht hd he
    have h1 := colR H ha hb hr hs ht hB hd he
    have h2 := S2 a r s t b d e ha hr hs ht hb hd he
    have := Int.dvd_sub h1 h2
    rwa [Int.add_sub_cancel] at this
  by_cases q1 : c = B
  · subst q1; exact base r s t d e hr hs ht hd he
  by_cases q2 : d = B
  · subst q2
    have := base r s t c e hr hs ht hc he
    rw [D3_c12, Int.mul_neg] at this
    exact Int.dvd_neg.1 this
  by_cases q3 : e = B
  · subst q3
    have := base r s t d c hr hs ht hd hc
    rw [D3_c13, Int.mul_neg] at this
    exact Int.dvd_neg.1 this
  by_cases q4 : b = c ∨ b = d ∨ b = e
  · exact colIn H q4 ha hr hs ht hc hd he
  by_cases q5 : c = d ∨ c = e ∨ d = e
  · rw [colSame q5, Int.mul_zero]; exact Int.dvd_zero _
  by_cases q6 : b = B
  · subst q6; exact S2 a r s t c d e ha hr hs ht hc hd he
  omega
/-- Two rows and four. -/
theorem two_four {r s t u c d e f : Nat} (h1 : G ∣ D3 x r s t c d e) (h2 : G ∣ D3 x r s u c d f) (h3 : G ∣ D3 x r s t c d f) (h4 : G ∣ D3 x r s u c d e) : G * G ∣ M2 x r s c d * D4 x r s t u c d e f := by
  rw [id_jac]
  exact Int.dvd_sub (dv h1 h2) (dv h3 h4)
end
end Go.Proofs.YtbjoblgklcilpaaGreatDoor

namespace Go.Proofs.YtbjoblgklcilpaaGreatDoor
open Go.RowKit
set_option linter.all false
def H1 (x : Nat → Nat → Int) (G : Int) (n : Nat) : Prop := ∀ r c, r < n → c < n → G ∣ x r c
def H3 (x : Nat → Nat → Int) (G : Int) (n : Nat) : Prop := ∀ r s t c d e, r < n → s < n → t < n → c < n → d < n → e < n → G ∣ D3 x r s t c d e
def rowA (x : Nat → Nat → Int) (f : Nat → Int) (l : Nat) : Nat → Nat → Int := fun i j => x i j + f i * x l j
def colA (x : Nat → Nat → Int) (f : Nat → Int) (l : Nat) : Nat → Nat → Int := fun i j => x i j + f j * x i l
/-- Whatever divides the minors of x divides those of y. -/
structure Tr (n : Nat) (x y : Nat → Nat → Int) : Prop where
  h1 : ∀ G, H1 x G n → H1 y G n
  h2 : ∀ G, H2 x G n → H2 y G n
  h3 : ∀ G, H3 x G n → H3 y G n
theorem Tr.trans {n : Nat} {x y z : Nat → Nat → Int} (a : Tr n x y) (b : Tr n y z) : Tr n x z := ⟨fun G h => b.h1 G (a.h1 G h), fun G h => b.h2 G (a.h2 G h), fun G h => b.h3 G (a.h3 G h)⟩
theorem Tr.same {n : Nat} {x y : Nat → Nat → Int} (h : ∀ i j, i < n → j < n → x i j = y i j) : Tr n x y := by
  refine ⟨fun G H r c hr hc => ?_, fun G H r s c d hr hs hc hd => ?_, fun G H r s t c d e hr hs ht hc hd he => ?_⟩
  · rw [← h r c hr hc]; exact H r c hr hc
  · have := H r s c d hr hs hc hd
    unfold M2 at this ⊢
    rw [← h r c hr hc, ← h s d hs hd, ← h r d hr hd, ← h s c hs hc]
    exact this
  · have := H r s t c d e hr hs ht hc hd he
    unfold D3 at this ⊢
    rw [← h r c hr hc, ← h r d hr hd, ← h r e hr he, ← h s c hs hc, ← h s d hs hd, ← h s e hs he, ← h t c ht hc, ← h t d ht hd, ← h t e ht he]
    exact this
theorem rowA2 (x : Nat → Nat → Int) (f : Nat → Int) (l r s c d : Nat) : M2 (rowA x f l) r s c d = M2 x r s c d + f r * M2 x l s c d + f s * M2 x r l c d := by unfold M2 rowA; grind
theorem colA2 (x : Nat → Nat → Int) (f : Nat → Int) (l r s c d : Nat) : M2 (colA x f l) r s c d = M2 x r s c d + f c * M2 x r s l d + f d * M2 x r s c l := by unfold M2 colA; grind
theorem rowA3 (x : Nat → Nat → Int) (f : Nat → Int) (l r s t c d e : Nat) : D3 (rowA x f l) r s t c d e = D3 x r s t c d e + f r * D3 x l s t c d e + f s * D3 x r l t c d e + f t * D3 x r s l c d e := by unfold D3 rowA; grind
theorem colA3 (x : Nat → Nat → Int) (f : Nat → Int) (l r s t c d e : Nat) : D3 (colA x f l) r s t c d e = D3 x r s t c d e + f c * D3 x r s t l d e + f d * D3 x r s t c l e + f e * D3 x r s t c d l := by unfold D3 colA; grind
theorem Tr.row {n : Nat} (x : Nat → Nat → Int) (f : Nat → Int) {l : Nat} (hl : l < n) : Tr n x (rowA x f l) := by
  refine ⟨fun G H r c hr hc => ?_, fun G H r s c d hr hs hc hd => ?_, fun G H r s t c d e hr hs ht hc hd he => ?_⟩
  · exact Int.dvd_add (H r c hr hc) (Int.dvd_mul_of_dvd_right (H l c hl hc))
  · rw [rowA2]
    exact Int.dvd_add (Int.dvd_add (H r s c d hr hs hc hd) (Int.dvd_mul_of_dvd_right (H l s c d hl hs hc hd))) (Int.dvd_mul_of_dvd_right (H r l c d hr hl hc hd))
  · rw [rowA3]
    exact Int.dvd_add (Int.dvd_add (Int.dvd_add (H r s t c d e hr hs ht hc hd he) (Int.dvd_mul_of_dvd_right (H l s t c d e hl hs ht hc hd he))) (Int.dvd_mul_of_dvd_right (H r l t c d e hr hl ht hc hd he))) (Int.dvd_mul_of_dvd_right (H r s l c d e hr hs hl hc hd he))
theorem Tr.col {n : Nat} (x : Nat → Nat → Int) (f : Nat → Int) {l : Nat} (hl : l < n) : Tr n x (colA x f l) := by
  refine ⟨fun G H r c hr hc => ?_, fun G H r s c d hr hs hc hd => ?_, fun G H r s t c d e hr hs ht hc hd he => ?_⟩
  · exact Int.dvd_add (H r c hr hc) (Int.dvd_mul_of_dvd_right (H r l hr hl))
  · rw [colA2]
    exact Int.dvd_add (Int.dvd_add (H r s c d hr hs hc hd) (Int.dvd_mul_of_dvd_right (H r s l d hr hs hl hd))) (Int.dvd_mul_of_dvd_right (H r s c l hr hs hc hl))
  · rw [colA3]
    exact Int.dvd_add (Int.dvd_add (Int.dvd_add (H r s t c d e hr hs ht hc hd he) (Int.dvd_mul_of_dvd_right (H r s t l d e hr hs ht hl hd he))) (Int.dvd_mul_of_dvd_right (H r s t c l e hr hs ht hc hl he))) (Int.dvd_mul_of_dvd_right (H r s t c d l hr hs ht hc hd hl))
/-- A table with one row and column more: 1 where they meet, 0 else. -/
def one1 (A : Nat → Nat → Int) (n : Nat) : Nat → Nat → Int := fun i j => if i = n then (if j = n then 1 else 0) else if j = n then 0 else A i j
theorem one1_in {A : Nat → Nat → Int} {n i j : Nat} (hi : i < n) (hj : j < n) : one1 A n i j = A i j := by unfold one1; rw [if_neg (by omega), if_neg (by omega)]
theorem one1_row {A : Nat → Nat → Int} {n j : Nat} (hj : j < n) : one1 A n n j = 0 := by unfold one1; rw [if_pos rfl, if_neg (by omega)]
theorem one1_col {A : Nat → Nat → Int} {n i : Nat} (hi : i < n) : one1 A n i n = 0 := by unfold one1; rw [if_neg (by omega), if_pos rfl]
theorem one1_end (A : Nat → Nat → Int) (n : Nat) : one1 A n n n = 1 := by simp [one1]
theorem one1_H1 {A : Nat → Nat → Int} {n : Nat} {G : Int} (h : H1 A G n) : ∀ r c, r < n → c ≤ n → G ∣ one1 A n r c := by
  intro r c hr hc
  by_cases e : c = n
  · rw [e, one1_col hr]; exact Int.dvd_zero _
  · rw [one1_in hr (by omega)]; exact h r c hr (by omega)
theorem up12 {A : Nat → Nat → Int} {n : Nat} {G : Int} (h : H1 A G n) : H2 (one1 A n) G (n + 1) := by
  intro r s c d hr hs hc hd
  by_cases e1 : r = n
  · by_cases e2 : s = n
    · have e3 : M2 (one1 A n) r s c d = 0 := by rw [e1, e2]; unfold M2; grind
      rw [e3]; exact Int.dvd_zero _
    · unfold M2
      exact Int.dvd_sub (Int.dvd_mul_of_dvd_right (one1_H1 h s d (by omega) (by omega))) (Int.dvd_mul_of_dvd_right (one1_H1 h s c (by omega) (by omega)))
  · unfold M2
    exact Int.dvd_sub (Int.dvd_mul_of_dvd_left (one1_H1 h r c (by omega) (by omega))) (Int.dvd_mul_of_dvd_left (one1_H1 h r d (by omega) (by omega)))
theorem one1_H2 {A : Nat → Nat → Int} {n : Nat} {G : Int} (h : H2 A G n) : ∀ r s c d, r < n → s < n → c ≤ n → d ≤ n → G ∣ M2 (one1 A n) r s c d := by
  intro r s c d hr hs hc hd
  by_cases e1 : c = n
  · have e3 : M2 (one1 A n) r s c d = 0 := by unfold M2; rw [e1, one1_col hr, one1_col hs]; simp
    rw [e3]; exact Int.dvd_zero _
  · by_cases e2 : d = n
    · have e3 : M2 (one1 A n) r s c d = 0 := by unfold M2; rw [e2, one1_col hr, one1_col hs]; simp
      rw [e3]; exact Int.dvd_zero _
    · unfold M2
      rw [one1_in hr (by omega), one1_in hs (by omega), one1_in hr (by omega), one1_in hs (by omega)]
      exact h r s c d hr hs (by omega) (by omega)
theorem D3_r1 (x : Nat → Nat → Int) (r s t c d e : Nat) : D3 x r s t c d e = x r c * M2 x s t d e - x r d * M2 x s t c e + x r e * M2 x s t c d := by unfold D3 M2; grind
theorem D3_r2 (x : Nat → Nat → Int) (r s t c d e : Nat) : D3 x r s t c d e = -(x s c * M2 x r t d e) + x s d * M2 x r t c e - x s e * M2 x r t c d := by unfold D3 M2; grind
theorem D3_r3 (x : Nat → Nat → Int) (r s t c d e : Nat) : D3 x r s t c d e = x t c * M2 x r s d e - x t d * M2 x r s c e + x t e * M2 x r s c d := by unfold D3 M2; grind
theorem up23 {A : Nat → Nat → Int} {n : Nat} {G : Int} (h : H2 A G n) : H3 (one1 A n) G (n + 1) := by
  intro r s t c d e hr hs ht hc hd he
  have k := one1_H2 h
  by_cases q : (r = n ∧ s = n) ∨ (r = n ∧ t = n) ∨ (s = n ∧ t = n)
  · have e0 : D3 (one1 A n) r s t c d e = 0 := by
      rcases q with ⟨q1, q2⟩ | ⟨q1, q2⟩ | ⟨q1, q2⟩ <;> rw [q1, q2]
      · exact D3_rr _ _ _ _ _ _
      · exact D3_rr2 _ _ _ _ _ _
      · exact D3_rr3 _ _ _ _ _ _
    rw [e0]; exact Int.dvd_zero _
  · have q2 : (s < n ∧ t < n) ∨ (r < n ∧ t < n) ∨ (r < n ∧ s < n) := by omega
    rcases q2 with ⟨a, b⟩ | ⟨a, b⟩ | ⟨a, b⟩
    · rw [D3_r1]
      exact Int.dvd_add (Int.dvd_sub (Int.dvd_mul_of_dvd_right (k _ _ _ _ a b (by omega) (by omega))) (Int.dvd_mul_of_dvd_right (k _ _ _ _ a b (by omega) (by omega)))) (Int.dvd_mul_of_dvd_right (k _ _ _ _ a b (by omega) (by omega)))
    · rw [D3_r2]
      exact Int.dvd_sub (Int.dvd_add (Int.dvd_neg.2 (Int.dvd_mul_of_dvd_right (k _ _ _ _ a b (by omega) (by omega)))) (Int.dvd_mul_of_dvd_right (k _ _ _ _ a b (by omega) (by omega)))) (Int.dvd_mul_of_dvd_right (k _ _ _ _ a b (by omega) (by omega)))
    · rw [D3_r3]
      exact Int.dvd_add (Int.dvd_sub (Int.dvd_mul_of_dvd_right (k _ _ _ _ a b (by omega) (by omega))) (Int.dvd_mul_of_dvd_right (k _ _ _ _ a b (by omega) (by omega)))) (Int.dvd_mul_of_dvd_right (k _ _ _ _ a b (by omega) (by omega)))
theorem down21 {A : Nat → Nat → Int} {n : Nat} {G : Int} (h : H2 (one1 A n) G (n + 1)) : H1 A G n := by
  intro r c hr hc
  have := h r n c n (by omega) (by omega) (by omega) (by omega)
  unfold M2 at this
  rw [one1_in hr hc, one1_end, one1_col hr] at this
  simpa using this
theorem down32 {A : Nat → Nat → Int} {n : Nat} {G : Int} (h : H3 (one1 A n) G (n + 1)) : H2 A G n := by
  intro r s c d hr hs hc hd
  have := h r s n c d n (by omega) (by omega) (by omega) (by omega) (by omega) (by omega)
  rw [D3_r3, one1_row hc, one1_row hd, one1_end] at this
  have e : M2 (one1 A n) r s c d = M2 A r s c d := by unfold M2; rw [one1_in hr hc, one1_in hs hd, one1_in hr hd, one1_in hs hc]
  rw [e] at this
  simpa using this
theorem down1 {A : Nat → Nat → Int} {n : Nat} {G : Int} (h : H1 (one1 A n) G (n + 1)) : G ∣ 1 := by
  have := h n n (by omega) (by omega)
  rw [one1_end] at this
  exact this
/-- The determinants. -/
theorem D2_one1 (A : Nat → Nat → Int) : M2 (one1 A 1) 0 1 0 1 = A 0 0 := by simp [M2, one1]
theorem D3_one1 (A : Nat → Nat → Int) : D3 (one1 A 2) 0 1 2 0 1 2 = M2 A 0 1 0 1 := by simp [D3, M2, one1]
theorem D4_one1 (A : Nat → Nat → Int) : D4 (one1 A 3) 0 1 2 3 0 1 2 3 = D3 A 0 1 2 0 1 2 := by simp [D4, D3, one1]
theorem rowA4 (x : Nat → Nat → Int) (f : Nat → Int) (l r s t u c d e g : Nat) : D4 (rowA x f l) r s t u c d e g = D4 x r s t u c d e g + f r * D4 x l s t u c d e g + f s * D4 x r l t u c d e g + f t * D4 x r s l u c d e g + f u * D4 x r s t l c d e g := by unfold D4 D3 rowA; grind
theorem colA4 (x : Nat → Nat → Int) (f : Nat → Int) (l r s t u c d e g : Nat) : D4 (colA x f l) r s t u c d e g = D4 x r s t u c d e g + f c * D4 x r s t u l d e g + f d * D4 x r s t u c l e g + f e * D4 x r s t u c d l g + f g * D4 x r s t u c d e l := by unfold D4 D3 colA; grind
end Go.Proofs.YtbjoblgklcilpaaGreatDoor

namespace Go.Proofs.YtbjoblgklcilpaaGreatDoor
open Go.RowKit
set_option linter.all false
set_option maxHeartbeats 1600000 in
theorem sL4One_any (n : Nat) (w : World) (hn : n ≤ 1048576) :
    Calls Tryz.prog 70 #[.int .i64 n] w fun e w' => ∃ v, e = .returned v ∧ OIntss w' w.heap.size v n (oneT n) ∧ Below w.heap.size w w' := by
  go_enter Tryz.func70, Tryz.ntmps70
  go_wp2_with fail
  refine (sL4Zero_any n n _ hn hn).mono ?_
  rintro e w1 ⟨v, rfl, hown, hb⟩
  go_wp2_with fail
  go_loopw [4] (fun i wr => ∃ k : Nat, k ≤ n ∧ i = .int .i64 k ∧ OIntss wr w.heap.size v n ((oneT n).take k ++ List.replicate (n - k) (List.replicate n 0)) ∧ Below w.heap.size w wr) (fun i _ => n - (intOf i).toNat)
  case atStart => exact ⟨0, Nat.zero_le _, rfl, by rw [fill_start]; exact hown, hb⟩
  case round =>
    obtain ⟨k, hk, rfl, hown, hb⟩ := hrel
    by_cases hlt : k < n
    · rw [fill_open hlt] at hown
      obtain ⟨g, cap, rfl⟩ := hown.head (by omega)
      have hAl : ((oneT n).take k).length = k := take_len (by rw [oneT_len]; omega)
      obtain ⟨gk, ck, hc, ho, hne, hlo⟩ := hown.rowAt (at_mid hAl) (by simp; omega)
      have hset := hown.setIn (at_mid hAl) hc ho k 1
      rw [set_mid hAl] at hset
      have hset' := (congrArg (OIntss _ w.heap.size _ n) (fill_shut (oneT_get hlt))) ▸ hset
      have hc0 := ho.cell k (by simp; omega)
      have hf0 := ho.frozen k
      have hb' := hb.setCell (p := ⟨gk, k, none⟩) hlo (.int .i64 1)
      simp only [List.length_replicate] at hc hc0
      clear hown ho hset hb hAl
      go_wp2_with fail
      go_roundw
      case rel => exact ⟨k + 1, hlt, by go_num, hset', hb'⟩
      case measure => simp [intOf]; omega
    · go_wp2_with fail
      go_ret
      have : k = n := by omega
      subst this
      rw [fill_end (oneT_len k)] at hown
      exact ⟨_, rfl, hown, hb⟩
end Go.Proofs.YtbjoblgklcilpaaGreatDoor

namespace Go.Proofs.YtbjoblgklcilpaaGreatDoor
open Go.RowKit
set_option linter.all false
set_option maxHeartbeats 800000 in
theorem iIsMatrix_any (ao : Option Addr) (n cap : Nat) (xss : List (List Int)) (w : World) (h : Intss w ao n xss) :
    Calls Tryz.prog 40 #[.slice ao n cap] w fun e w' => e = .returned (.bool (isMat xss)) ∧ w = w' := by
  have hm := h.2.1
  have HL := Lib.hid h.1
  have H := Lib.hid h
  have hg0 : Hid (isMat xss = (tabIn n 0 1000000 xss && inR n 1 9)) := by show isMat xss = _; unfold isMat; rw [h.1]
  clear h
  by_cases h1 : n < 1
  · have hg : Hid (isMat xss = false) := by show isMat xss = _; rw [hg0.out, inR_no (.inl (by omega))]; simp
    have hd : decide ((n : Int) < 1) = true := by simp; omega
    clear H hg0
    go_enter Tryz.func40, Tryz.ntmps40
    go_wp2
    go_ret
    exact ⟨ret_bool hg.out.symm, rfl⟩
  · by_cases h9 : 9 < n
    · have hg : Hid (isMat xss = false) := by show isMat xss = _; rw [hg0.out, inR_no (.inr (by omega))]; simp
      have hd : decide ((n : Int) < 1) = false := by simp; omega
      clear H hg0
      go_enter Tryz.func40, Tryz.ntmps40
      go_wp2
      go_ret
      exact ⟨ret_bool hg.out.symm, rfl⟩
    · have hg : Hid (isMat xss = tabIn n 0 1000000 xss) := by show isMat xss = _; rw [hg0.out, inR_mk ⟨by omega, by omega⟩]; simp
      have hd : decide ((n : Int) < 1) = false := by simp; omega
      clear hg0
      go_enter Tryz.func40, Tryz.ntmps40
      go_wp2
      go_loop [17] (fun i => ∃ k : Nat, k ≤ n ∧ i = .int .i64 k ∧ Hid (tabIn n 0 1000000 (xss.drop k) = tabIn n 0 1000000 xss)) (fun i => n - (intOf i).toNat)
      case atStart => exact ⟨0, Nat.zero_le _, rfl, rfl⟩
      case round =>
        obtain ⟨k, hk, rfl, hr⟩ := hrel
        by_cases hlt : k < n
        · obtain ⟨b, o, ai, ci, r, rfl, hcell, hrow, hget⟩ := H.out.at_ hlt
          clear H
          have Hst := Lib.hid (tabIn_step hget.out hr.out)
          have Hrow := Lib.hid hrow
          clear hrow hr
          by_cases hrl : r.length = n
          · have hne : ((r.length : Int) != (n : Int)) = false := by simp [hrl]
            have hrl1 : r.length ≤ n := by omega
            have hrl2 : n ≤ r.length := by omega
            have HRL := Lib.hid hrl
            clear hrl
            go_wp2
            go_loop [28] (fun i => ∃ j : Nat, j ≤ r.length ∧ i = .int .i64 j ∧ Hid (allIn 0 1000000 (r.drop j) = allIn 0 1000000 r)) (fun i => n - (intOf i).toNat)
            case atStart => exact ⟨0, Nat.zero_le _, rfl, rfl⟩
            case round =>
              obtain ⟨j, hj, rfl, hrj⟩ := hrel
              by_cases hjr : j < r.length
              · obtain ⟨b', o', x, rfl, hcell', hget'⟩ := Hrow.out.at_ (k := j) hjr
                clear Hrow
                have Hsj := Lib.hid (allIn_step hget'.out hrj.out)
                clear hrj
                by_cases h0 : x < 0
                · have hr1 : Hid _ := Hst.out.2.1 (Hsj.out.2 (inR_no (.inl h0)))
                  clear Hst Hsj
                  have hx : decide (x < 0) = true := by simpa using h0
                  go_wp2
                  go_ret
                  exact ⟨ret_bool (by rw [hg.out, hr1.out]), rfl⟩
                · have hx : decide (x < 0) = false := by simpa using h0
                  by_cases h2 : 1000000 < x
                  · have hr1 : Hid _ := Hst.out.2.1 (Hsj.out.2 (inR_no (.inr h2)))
                    clear Hst Hsj
                    go_wp2
                    go_ret
                    exact ⟨ret_bool (by rw [hg.out, hr1.out]), rfl⟩
                  · have hr1 : Hid _ := Hsj.out.1 (inR_mk ⟨by omega, by omega⟩)
                    clear Hst Hsj
                    go_wp2
                    go_round
                    case rel => exact ⟨j + 1, hjr, by go_num, hr1⟩
                    case measure => simp [intOf]; omega
              · have hr1 : Hid _ := Hst.out.2.2 HRL.out (by have := hrj.out; rw [drop_all r j (by omega)] at this; exact this.symm)
                clear Hst hrj Hrow
                go_wp2
                go_round
                case rel => exact ⟨k + 1, hlt, by go_num, hr1⟩
                case measure => simp [intOf]; omega
          · have hne : ((r.length : Int) != (n : Int)) = true := by simp; omega
            have hr1 : Hid _ := Hst.out.1 hrl
            clear Hst hrl
            go_wp2
            go_ret
            exact ⟨ret_bool (by rw [hg.out, hr1.out]), rfl⟩
        · rw [drop_all xss k (by have := HL.out; omega)] at hr
          have hr1 : Hid _ := hr.out.symm
          clear hr H
          go_wp2
          go_ret
          exact ⟨ret_bool (by rw [hg.out, hr1.out]; rfl), rfl⟩
end Go.Proofs.YtbjoblgklcilpaaGreatDoor

namespace Go.Proofs.YtbjoblgklcilpaaGreatDoor
open Go.RowKit
set_option linter.all false
set_option maxHeartbeats 1600000 in
theorem iZeros_any (n : Nat) (w : World) (hn : n ≤ 1048576) :
    Calls Tryz.prog 61 #[.int .i64 n] w fun e w' => ∃ v, e = .returned v ∧ OIntss w' w.heap.size v n (List.replicate n (List.replicate n 0)) ∧ Below w.heap.size w w' := by
  have hmk := make_ints n (by omega)
  go_enter Tryz.func61, Tryz.ntmps61
  go_wp2
  go_loopw [3, 6] (fun v i wr => ∃ k : Nat, k ≤ n ∧ i = .int .i64 k ∧ OIntss wr w.heap.size v k (List.replicate k (List.replicate n 0)) ∧ Below w.heap.size w wr) (fun _ i _ => n - (intOf i).toNat)
  case atStart => exact ⟨0, Nat.zero_le _, rfl, OIntss.empty w _ (Nat.le_refl _), (Below.refl _ _).alloc (Nat.le_refl _) _⟩
  case round =>
    obtain ⟨k, hk, rfl, hown, hb⟩ := hrel
    by_cases hlt : k < n
    · have Hown := Lib.hid hown
      have Hb := Lib.hid hb
      clear hown hb
      go_wp2_with (first | (at_builtin; refine wpList_push_fresh _ _ wr rfl _ _ rfl w.heap.size _ k _ rfl Hown.out (by omega) Hb.out.size ((Below.refl _ _).alloc (Nat.le_refl _) _) n _ (OInts.made wr n (by omega)) _ ?ctb rfl ?_))
      case ctb => simp
      intro v' w' hown' hbel _
      rw [rep_push] at hown'
      have hb' := Hb.out.trans hbel
      go_wp2_with fail
      go_roundw
      case rel => exact ⟨k + 1, hlt, by go_num, hown', hb'⟩
      case measure => simp [intOf]; omega
    · go_wp2
      go_ret
      have : k = n := by omega
      subst this
      exact ⟨_, rfl, hown, hb⟩
end Go.Proofs.YtbjoblgklcilpaaGreatDoor

namespace Go.Proofs.YtbjoblgklcilpaaGreatDoor
open Go.RowKit
set_option linter.all false
set_option maxHeartbeats 800000 in
theorem clone_any (ao : Option Addr) (n cap : Nat) (xs : List Int) (w : World) (h : Ints w ao n xs) :
    Calls Tryz.prog 41 #[.slice ao n cap] w fun e w' => ∃ v, e = .returned v ∧ OInts w' w.heap.size v n xs ∧ Below w.heap.size w w' := by
  have hm := h.2.1
  rcases ao with _ | q
  · have hn : n = 0 := by
      rcases Nat.eq_zero_or_pos n with h0 | h0
      · exact h0
      · obtain ⟨b, o, e, _⟩ := h.2.2 0 (by rw [h.1]; exact h0)
        cases e
    subst hn
    have hx : xs = [] := List.eq_nil_of_length_eq_zero h.1
    subst hx
    have hnn := fun (wx : World) => Lib.run_eql_slice_nil (P := Tryz.prog) wx 26 3 none 0 cap 0 0 Tryz.underlying26
    simp only [Option.isNone] at hnn
    clear h
    go_enter Tryz.func41, Tryz.ntmps41
    go_wp2_with fail
    go_ret
    exact ⟨_, rfl, OInts.none_ _ _, Below.refl _ _⟩
  · have hns := fun (wx : World) => Lib.run_eql_slice_nil (P := Tryz.prog) wx 26 3 (some q) n cap 0 0 Tryz.underlying26
    simp only [Option.isNone] at hns
    have HE := Lib.hid (OInts.empty w w.heap.size (Nat.le_refl _))
    have HB : Hid (Below w.heap.size w (w.alloc (.cells #[] 3))) := (Below.refl _ _).alloc (Nat.le_refl _) _
    have H := Lib.hid (h.keep HB.out)
    clear h
    go_enter Tryz.func41, Tryz.ntmps41
    go_wp2_with (first | (at_builtin; refine wpList_app_ints _ rfl _ _ rfl w.heap.size _ 0 [] rfl HE.out _ _ _ xs rfl H.out (by omega) HB.out.size ?_; intro v1 w1 ho1 hg1; rw [Nat.zero_add, List.nil_append] at ho1; have Ho1 := Lib.hid ho1; have Hb1 : Hid (Below w.heap.size w w1) := HB.out.grown hg1 HB.out.size (fun k hk => (HE.out.ownlt k hk).1); clear ho1 hg1))
    go_ret
    exact ⟨_, rfl, Ho1.out, Hb1.out⟩
end Go.Proofs.YtbjoblgklcilpaaGreatDoor

namespace Go.Proofs.YtbjoblgklcilpaaGreatDoor
open Go.RowKit
set_option linter.all false
/-- The library's table of powers of 10 is as it was laid. -/
def PowV (w : World) : Prop := Lib.TabIs Tryz.prog w "internal/strconv.uint64pow10" .u64 Lib.pow10Tab
theorem PowV.keep {w w' : World} (h : PowV w) (hb : Below w.heap.size w w') : PowV w' := by
  have hgn : (Tryz.prog).globalNamed "internal/strconv.uint64pow10" = some 1 := by kernel_rfl
  unfold PowV Lib.TabIs World.var? at h ⊢
  rw [hgn] at h ⊢
  simp only [Option.bind_some] at h ⊢
  have hlt : 1 < w.heap.size := by
    rcases Nat.lt_or_ge 1 w.heap.size with h' | h'
    · exact h'
    · rw [Array.getElem?_eq_none h'] at h; cases h
  rw [hb.block _ hlt]
  exact h
theorem powV_of {w : World} {l : List (String × DataW Unit)} (hn : (l.all fun x => x.2.handleName?.isNone) = true) (hm : ("internal/strconv.uint64pow10", Lib.tabData .u64 Lib.pow10Tab) ∈ l) (h : laidMetH Tryz.prog l w) : PowV w := by
  rw [MakeChecks.laidMetH_plain _ _ _ hn] at h
  obtain ⟨g', t', cs, fuel, p, hg', ht', hvar, hd⟩ := Lib.laidMet.reads h hm
  have hgn : (Tryz.prog).globalNamed "internal/strconv.uint64pow10" = some 1 := by kernel_rfl
  obtain rfl := Option.some.inj (hgn.symm.trans hg')
  unfold PowV Lib.TabIs
  have hty : (((Tryz.prog).globals[1]?).map (·.type)) = some 107 := by kernel_rfl
  obtain rfl := Option.some.inj (hty.symm.trans ht')
  rw [hvar, ← Lib.cells_of_tab Tryz.underlying107 Tryz.underlying101 (by kernel_rfl) (by kernel_rfl) hd]
theorem iFormat_any (u : Nat) (w : World) (hu : u ≤ 9223372036854775807) (ht : PowV w) :
    Calls Tryz.prog 76 #[.int .i64 u] w fun e w' => e = .returned (.string (decB u)) ∧ Below w.heap.size w w' := by
  have hc := Tryz.strconv_Itoa (u : Int) (by omega) (by omega) w ht
  rw [Lib.itoa_nonneg] at hc
  have HC := Lib.hid hc
  clear hc ht
  go_enter Tryz.func76, Tryz.ntmps76
  go_wp2_with (go_at_call 93; refine HC.out.mono ?_; rintro e w' ⟨rfl, k, os, rfl⟩)
  go_ret
  exact ⟨rfl, Lib.below_grow _ _ (Nat.le_refl _) _ _⟩
end Go.Proofs.YtbjoblgklcilpaaGreatDoor

namespace Go.Proofs.YtbjoblgklcilpaaGreatDoor
open Go.RowKit
set_option linter.all false
set_option maxRecDepth 20000 in
set_option maxHeartbeats 3200000 in
theorem iGroupText_any (ao : Option Addr) (n cap : Nat) (xs : List Int) (w : World) (h : Ints w ao n xs) (hn : n ≤ 1048576) (hx : ∀ x ∈ xs, x ≤ 9223372036854775807) (ht : PowV w) :
    Calls Tryz.prog 54 #[.slice ao n cap] w fun e w' => e = .returned (.string (groupTxt xs)) ∧ Below w.heap.size w w' := by
  have HL : Hid (xs.length = n) := h.1
  have H := Lib.hid h
  have HX := Lib.hid hx
  have Hem := Lib.hid (OStrs.empty w w.heap.size (Nat.le_refl _))
  have HT := Lib.hid ht
  clear ht
  clear h hx
  go_enter Tryz.func54, Tryz.ntmps54
  go_wp2_with fail
  go_loopw [3, 9] (fun v x wr => ∃ (k : Nat) (ws : List ByteArray), k ≤ n ∧ ws.length ≤ k ∧ x = .int .i64 k ∧ OStrs wr w.heap.size v ws.length ws ∧ Hid (∀ s ∈ ws, s.size ≤ 22) ∧ Hid (grpF (xs.drop k) ws = groupTxt xs) ∧ Below w.heap.size w wr) (fun _ x _ => n - (intOf x).toNat)
  case atStart => exact ⟨0, [], Nat.zero_le _, Nat.le_refl _, rfl, Hem.out, (by show ∀ s ∈ _, _; intro s hs; simp at hs), (by show _ = _; rfl), belowA _ _⟩
  case round =>
    obtain ⟨k, ws, hk, hwk, rfl, hown, hsz, hr, hbl⟩ := hrel
    obtain ⟨a5, c5, rfl, hi5⟩ := hown.form
    have HI := Lib.hid hi5
    have HO := Lib.hid hown
    have HB := Lib.hid hbl
    clear hown hbl Hem hi5
    by_cases hlt : k < n
    · obtain ⟨b, o, x, rfl, hcw, hs⟩ := H.out.at_ hlt
      have hc := (HB.out.cell (World.block_lt_of_cell? w _ hcw)).trans hcw
      have hxm := HX.out x (List.mem_of_getElem? hs.out)
      have HST := Lib.hid (grp_step hs.out hr.out)
      have Hcw := Lib.hid hcw
      clear hs hr hcw
      by_cases h1 : x < 0
      · have HE := Lib.hid (HST.out.1 h1)
        have d1 : decide (x < 0) = true := decide_eq_true h1
        clear HST
        go_wp2_with fail
        go_ret
        exact ⟨ret_text HE.out.symm, HB.out⟩
      have d1 : decide (x < 0) = false := decide_eq_false h1
      by_cases h2 : x = 0
      · have HN := Lib.hid (HST.out.2.1 h2)
        have HS := Lib.hid (all_push (s := ⟨#[90]⟩) hsz.out (by decide))
        have d2 : (x == 0) = true := by simp [h2]
        clear HST h2 h1
        go_wp2_with (refine wpList_push_str wr _ rfl (.tmp 19) (.tmp 20) rfl w.heap.size _ _ _ rfl HO.out (by omega) HB.out.size _ rfl rfl ?_; intro v1 w1 ho1 hb1; have HO1 := Lib.hid ho1; have HB1 := Lib.hid hb1; clear ho1 hb1)
        go_roundw
        case rel => exact ⟨k + 1, _, hlt, by simp; omega, by go_num, by simpa using HO1.out, HS.out, HN.out, HB.out.trans HB1.out⟩
        case measure => (simp [intOf] <;> omega)
      have d2 : (x == 0) = false := by simp [h2]
      by_cases h3 : 1 < x
      · obtain ⟨u, rfl⟩ : ∃ u : Nat, x = (u : Int) := ⟨x.toNat, by omega⟩
        have HN := Lib.hid (HST.out.2.2.1 h3)
        rw [Int.toNat_natCast] at HN
        have hu : u ≤ 9223372036854775807 := by omega
        have HS := Lib.hid (all_push (s := zt u) hsz.out (zt_size (by omega)))
        have d3 : decide (1 < (u : Int)) = true := decide_eq_true h3
        have hds := decB_size (u := u) (by omega)
        clear HST h1 h2
        go_wp2_with (first
          | (go_at_call 76; refine (iFormat_any u _ hu (HT.out.keep (HB.out.mono (Nat.le_refl _)))).mono ?_; rintro e w1 ⟨rfl, hb1⟩; have HO1 := Lib.hid (HO.out.keep hb1); have HB1 := Lib.hid (step2 HB.out hb1); clear hb1)
          | (refine wpList_push_str _ (zt u) rfl (.tmp 25) (.tmp 29) rfl w.heap.size _ _ _ rfl HO1.out (by omega) HB1.out.size _ rfl rfl ?_; intro v2 w2 ho2 hb2; have HO2 := Lib.hid ho2; have HB2 := Lib.hid hb2; clear ho2 hb2))
        go_roundw
        case rel => exact ⟨k + 1, _, hlt, by simp; omega, by go_num, by simpa using HO2.out, HS.out, HN.out, HB1.out.trans HB2.out⟩
        case measure => (simp [intOf] <;> omega)
      · have h4 : x = 1 := by omega
        have HN := Lib.hid (HST.out.2.2.2 h4)
        have d3 : decide (1 < x) = false := decide_eq_false h3
        clear HST h4 h1 h2
        go_wp2_with fail
        go_roundw
        case rel => exact ⟨k + 1, _, hlt, by omega, by go_num, HO.out, hsz.out, HN.out, HB.out⟩
        case measure => (simp [intOf] <;> omega)
    · have HST := Lib.hid (grp_end (by have := HL.out; omega) hr.out)
      clear hr
      rcases Nat.eq_zero_or_pos ws.length with h0 | h0
      · have HE := Lib.hid (HST.out.1 h0)
        have d1 : ((ws.length : Int) == 0) = true := by simp [h0]
        clear HST
        go_wp2_with fail
        go_ret
        exact ⟨ret_text HE.out.symm, HB.out⟩
      · have HE := Lib.hid (HST.out.2 h0)
        have d1 : ((ws.length : Int) == 0) = false := by rw [beq_eq_false_iff_ne]; omega
        have hj : (joinB ws ⟨#[43]⟩).size ≤ 1073741824 := by
          have h5 := joinB_size (sep := ⟨#[43]⟩) hsz.out
          have h6 : (22 + (⟨#[43]⟩ : ByteArray).size) * ws.length ≤ 23 * 1048576 := Nat.mul_le_mul (by decide) (by omega)
          exact Nat.le_trans h5 (Nat.le_trans h6 (by decide))
        have HJ := Lib.hid hj
        clear HST hj
        obtain ⟨g, cg, eg⟩ := HO.out.head h0
        injection eg with eg1 eg2 eg3
        subst eg1
        subst eg3
        clear eg2
        have hcells : ∀ (j : Nat) x, ws[j]? = some x → wr.cell? ⟨g, 0 + j, none⟩ = some (.string x) := fun j x hj => by rw [Nat.zero_add]; exact HO.out.cell hj
        have hcon := Tryz.strings_Join g 0 c5 ws ⟨#[43]⟩ wr hcells HO.out.lt.2 (by have := HO.out.1; omega) (HO.out.capLe rfl) (by rw [joinB_len]; have := HJ.out; omega)
        have HC := Lib.hid hcon
        clear hcon hcells
        go_wp2_with (go_at_call 77; refine HC.out.mono ?_; rintro e w1 ⟨rfl, hb1⟩; have HB1 := Lib.hid (step2 HB.out hb1); clear hb1)
        go_ret
        exact ⟨ret_text HE.out.symm, HB1.out⟩
end Go.Proofs.YtbjoblgklcilpaaGreatDoor

namespace Go.Proofs.YtbjoblgklcilpaaGreatDoor
open Go.RowKit
set_option linter.all false
set_option maxRecDepth 20000 in
set_option maxHeartbeats 3200000 in
theorem sJoin_any (ao : Option Addr) (n cap : Nat) (ss : List ByteArray) (sep : ByteArray) (w : World) (h : Strs w ao n ss) (hT : (joinB ss sep).size ≤ 1073741824) (hsep : sep.size ≤ 1048576) (hss : ∀ s ∈ ss, s.size ≤ 1048576) :
    Calls Tryz.prog 79 #[.slice ao n cap, .string sep] w fun e w' => e = .returned (.string (joinB ss sep)) ∧ Below w.heap.size w w' := by
  have HL : Hid (ss.length = n) := h.1
  have hm := h.2.1
  have H := Lib.hid h
  have HSS := Lib.hid hss
  obtain ⟨R, hR⟩ : ∃ R, Lib.join (ss.map (·.data.toList)) sep.data.toList = R := ⟨_, rfl⟩
  have hTl : R.length ≤ 1073741824 := by have h2 := hT; unfold joinB at h2; rw [hR] at h2; simpa [ByteArray.size] using h2
  have HJ : Hid (joinB ss sep = ⟨R.toArray⟩) := by show _ = _; unfold joinB; rw [hR]
  have H0 : Hid ([] ++ toCome sep 0 (ss.drop 0) = R) := by show _ = _; simp [toCome, hR]
  have Hem := Lib.hid (OB.empty w w.heap.size (Nat.le_refl _))
  clear h hT hR hss
  go_enter Tryz.func79, Tryz.ntmps79
  go_wp2_with fail
  go_loopw [5, 6] (fun v x wr => ∃ (k : Nat) (B : List UInt8), k ≤ n ∧ x = .int .i64 k ∧ OB wr w.heap.size v B ∧ Hid (k = 0 → B = []) ∧ Hid (B ++ toCome sep k (ss.drop k) = R) ∧ Below w.heap.size w wr) (fun _ x _ => n - (intOf x).toNat)
  case atStart => exact ⟨0, [], Nat.zero_le _, rfl, Hem.out, fun _ => rfl, H0.out, belowA _ _⟩
  case round =>
    obtain ⟨k, B, hk, rfl, hown, hz, hr, hbl⟩ := hrel
    obtain ⟨a5, c5, rfl⟩ := hown.form
    have HO := Lib.hid hown
    have HB := Lib.hid hbl
    have hbl2 := toCome_len hr.out
    have hblen := hown.1
    clear hown hbl Hem
    by_cases hlt : k < n
    · obtain ⟨b, o, s, rfl, hcw, hs⟩ := H.out.at_ hlt
      have hc := (HB.out.cell (World.block_lt_of_cell? w _ hcw)).trans hcw
      have Hcw := Lib.hid hcw
      clear hcw
      have hsz := HSS.out s (List.mem_of_getElem? hs.out)
      rcases Nat.eq_zero_or_pos k with h0 | h0
      · subst h0
        have hBn := hz.out rfl
        subst hBn
        have HN := Lib.hid (toCome_first hs.out hr.out)
        clear hs hr hz
        rw [show ((0 : Nat) : Int) = 0 from rfl] at *
        rw [Nat.add_zero] at hc
        have h0n : 0 < n := hlt
        go_wp2_with (refine wpList_app_str wr rfl (.tmp 19) (.tmp 23) rfl w.heap.size _ _ rfl HO.out s rfl (by simp; omega) HB.out.size ?_; intro v1 w1 ho1 hb1; have HO1 := Lib.hid ho1; have HB1 := Lib.hid hb1; clear ho1 hb1)
        go_roundw
        case rel => exact ⟨1, _, hlt, rfl, HO1.out, (by show (1 = 0 → _); omega), HN.out, HB.out.trans HB1.out⟩
        case measure => (simp [intOf] <;> omega)
      · have HN := Lib.hid (toCome_next h0 hs.out hr.out)
        have hd : decide ((0 : Int) < (k : Int)) = true := decide_eq_true (by omega)
        have hl2 := toCome_len HN.out
        have hsl : s.data.toList.length = s.size := Array.length_toList
        have hpl : sep.data.toList.length = sep.size := Array.length_toList
        have hl3 : B.length + sep.size + s.size ≤ 1073741824 := by rw [List.length_append, List.length_append, hsl, hpl] at hl2; omega
        have hc2 := Lib.hid hc
        clear hs hr hz hl2 hc hsl
        obtain ⟨B1, hB1⟩ : ∃ B1, B ++ sep.data.toList = B1 := ⟨_, rfl⟩
        have hb1l : B1.length = B.length + sep.size := by rw [← hB1, List.length_append, hpl]
        have hb1a : B1.length + s.size ≤ 1073741824 := by omega
        have HE1 := Lib.hid hB1
        rw [hB1] at HN
        clear hB1 hb1l
        have hcx := hc2.out
        go_wp2_with (first
          | (refine wpList_app_str wr rfl (.tmp 16) (.tmp 17) rfl w.heap.size _ _ rfl HO.out sep rfl (by omega) HB.out.size ?_; intro v1 w1 ho1 hb1; rw [HE1.out] at ho1; have HO1 := Lib.hid ho1; have HB1 := Lib.hid (HB.out.trans hb1); obtain ⟨a1, c1, rfl⟩ := ho1.form; have hcy := (HB1.out.cell (World.block_lt_of_cell? w _ Hcw.out)).trans Hcw.out; clear ho1 hb1)
          | (refine wpList_app_str _ rfl (.tmp 19) (.tmp 23) rfl w.heap.size _ _ rfl HO1.out s rfl (by omega) HB1.out.size ?_; intro v2 w2 ho2 hb2; have HO2 := Lib.hid ho2; have HB2 := Lib.hid (HB1.out.trans hb2); clear ho2 hb2))
        go_roundw
        case rel => exact ⟨k + 1, _, hlt, by go_num, HO2.out, (by show (k + 1 = 0 → _); omega), HN.out, HB2.out⟩
        case measure => (simp [intOf] <;> omega)
    · have HE := Lib.hid (toCome_end (by have := HL.out; omega) hr.out)
      have hcv := conv_u8 _ _ _ _ HO.out
      have HJ2 : Hid (joinB ss sep = ⟨B.toArray⟩) := by show _ = _; rw [HJ.out, HE.out]
      clear hr hz
      go_wp2_with fail
      go_ret
      exact ⟨ret_text HJ2.out.symm, HB.out⟩
end Go.Proofs.YtbjoblgklcilpaaGreatDoor
