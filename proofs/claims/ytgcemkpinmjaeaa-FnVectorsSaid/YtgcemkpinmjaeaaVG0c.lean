/- Parts of the proof of a law, joined: DetI CanEnc VecT LRow SIsSmall SMinor SDet IIsMatrix ISumOf IIsGraph Weighed IsDigit IVectorSum IIsVector SIsVector ITimes IMulM IZeros IUnit IPowM IIsSmall. -/
import Derived.BigQuiet
import Derived.Test.YtgcemkpinmjaeaaProg
import Derived.Test.YtgcemkpinmjaeaaVG0a
import Derived.Test.YtgcemkpinmjaeaaVG0b
namespace Go.Proofs.Ytgcemkpinmjaeaa
open Go.RowKit
set_option linter.all false
def dsum (D : List (List Int) → Int) (t : List (List Int)) : List Int → Nat → Int → Int
  | [], _, _ => 0
  | x :: xs, j, g => g * x * D (minorT t 0 j) + dsum D t xs (j + 1) (-g)
def detI : Nat → List (List Int) → Int
  | 0, _ => 1
  | m + 1, t => dsum (detI m) t (t.getD 0 []) 0 1
theorem dloop_eq {D : List (List Int) → Int} {t : List (List Int)} {B M c : Int} (hB : 0 ≤ B) (hB2 : B ≤ 4611686018427387904) (hM : 0 ≤ M) (hc : B * M = c) :
    ∀ (xs : List Int) (j : Nat) (s g S : Int), (∀ x ∈ xs, -B ≤ x ∧ x ≤ B) → (∀ k, j ≤ k → k < j + xs.length → -M ≤ D (minorT t 0 k) ∧ D (minorT t 0 k) ≤ M) →
      -1 ≤ g → g ≤ 1 → -S ≤ s → s ≤ S → S + (xs.length : Int) * c ≤ 4611686018427387904 → dloop D t xs j s g = s + dsum D t xs j g
  | [], j, s, g, S, _, _, _, _, h1, h2, _ => by simp [dloop, dsum]
  | x :: xs, j, s, g, S, hx, hD, hg1, hg2, h1, h2, hS => by
    have hc0 : 0 ≤ c := by rw [← hc]; exact Int.mul_nonneg hB hM
    have hlen : (((x :: xs).length : Nat) : Int) * c = (xs.length : Int) * c + c := by simp [Int.add_mul]
    rw [hlen] at hS
    have hl0 : 0 ≤ (xs.length : Int) * c := Int.mul_nonneg (by omega) hc0
    have hgx : -B ≤ g * x ∧ g * x ≤ B := by
      have := mul_abs (x := g) (d := x) (B := 1) (M := B) (by omega) hB ⟨hg1, hg2⟩ (hx x (by simp))
      rw [Int.one_mul] at this
      exact this
    have hd := hD j (Nat.le_refl _) (by simp)
    have hw : wrap64 (g * x) = g * x := by generalize g * x = a at *; unfold wrap64; omega
    have hp := mul_abs hB hM hgx hd
    rw [hc] at hp
    have hw2 : wrap64 (g * x * D (minorT t 0 j)) = g * x * D (minorT t 0 j) := by generalize g * x * D (minorT t 0 j) = a at *; unfold wrap64; omega
    have hw3 : wrap64 (s + g * x * D (minorT t 0 j)) = s + g * x * D (minorT t 0 j) := by generalize g * x * D (minorT t 0 j) = a at *; unfold wrap64; omega
    unfold dloop dsum
    rw [hw, hw2, hw3]
    have e : (if x = 0 then s else s + g * x * D (minorT t 0 j)) = s + g * x * D (minorT t 0 j) := by
      split
      · rename_i h0; rw [h0]; simp
      · rfl
    rw [e, dloop_eq hB hB2 hM hc xs (j + 1) _ (-g) (S + c) (fun y hy => hx y (by simp [hy])) (fun k h3 h4 => hD k (by omega) (by simp; omega)) (by omega) (by omega) (by generalize g * x * D (minorT t 0 j) = a at *; omega) (by generalize g * x * D (minorT t 0 j) = a at *; omega) (by omega)]
    omega
theorem dsum_congr {D E : List (List Int) → Int} {t : List (List Int)} : ∀ (xs : List Int) (j : Nat) (g : Int), (∀ k, j ≤ k → k < j + xs.length → D (minorT t 0 k) = E (minorT t 0 k)) → dsum D t xs j g = dsum E t xs j g
  | [], _, _, _ => rfl
  | x :: xs, j, g, h => by
    unfold dsum
    rw [h j (Nat.le_refl _) (by simp), dsum_congr xs (j + 1) (-g) (fun k h1 h2 => h k (by omega) (by simp; omega))]
theorem det_eqI {B : Int} (hB : 0 ≤ B) (hB2 : B ≤ 4611686018427387904) (m : Nat) : ∀ t : List (List Int), t.length = m → RowsLen t m → Bnd B t → (∀ k, k ≤ m → dmax B k ≤ 4611686018427387904) → det m t = detI m t := by
  induction m with
  | zero => intro t _ _ _ _; rfl
  | succ m ih =>
    intro t hl hr hb hd
    have h0 : t[0]? = some t[0] := List.getElem?_eq_getElem (by omega)
    have hr0 : t[0].length = m + 1 := hr 0 _ h0
    have e : t.getD 0 [] = t[0] := by simp [List.getD, h0]
    have hM : ∀ k, 0 ≤ k → k < 0 + t[0].length → -(dmax B m) ≤ det m (minorT t 0 k) ∧ det m (minorT t 0 k) ≤ dmax B m := by
      intro k _ hk
      exact det_bound hB hB2 m _ (by rw [minorT_len (by omega)]; omega) (minorT_rowsLen hr (by omega)) (hb.minor 0 k) (fun k hk => hd k (by omega))
    have hlast := hd (m + 1) (Nat.le_refl _)
    have := dloop_eq (D := det m) (t := t) hB hB2 (dmax_nonneg hB m) rfl t[0] 0 0 1 0 (fun x hx => hb _ (List.getElem_mem _) x hx) hM (by omega) (by omega) (by omega) (by omega) (by rw [hr0]; simpa [dmax] using hlast)
    unfold det detI
    rw [e, this, dsum_congr (E := detI m) t[0] 0 1 (fun k _ hk => ih _ (by rw [minorT_len (by omega)]; omega) (minorT_rowsLen hr (by omega)) (hb.minor 0 k) (fun k hk => hd k (by omega)))]
    omega
theorem detI1 (a : Int) : detI 1 [[a]] = a := by simp [detI, dsum]
theorem detI2 (a b c d : Int) : detI 2 [[a, b], [c, d]] = a * d - b * c := by simp [detI, dsum, minorT, cut, Int.neg_mul]; omega
theorem detI3 (a b c d e f g h i : Int) : detI 3 [[a, b, c], [d, e, f], [g, h, i]] = a * (e * i - f * h) - b * (d * i - f * g) + c * (d * h - e * g) := by
  simp [detI, dsum, minorT, cut]; grind
theorem detI4 (a b c d e f g h i j k l m n o p : Int) : detI 4 [[a, b, c, d], [e, f, g, h], [i, j, k, l], [m, n, o, p]] =
    a * detI 3 [[f, g, h], [j, k, l], [n, o, p]] - b * detI 3 [[e, g, h], [i, k, l], [m, o, p]] + c * detI 3 [[e, f, h], [i, j, l], [m, n, p]] - d * detI 3 [[e, f, g], [i, j, k], [m, n, o]] := by
  rw [detI]
  simp only [List.getD, List.getElem?_cons_zero, Option.getD_some, dsum, minorT, cut, List.eraseIdx, List.map, List.take, List.drop, List.nil_append, List.cons_append]
  grind
theorem Bnd.pick {B : Int} {t : List (List Int)} (h : Bnd B t) (hB : 0 ≤ B) (rs cs : List Int) : Bnd B (someT t rs cs) := by
  intro r hr x hx
  unfold someT at hr
  obtain ⟨a, _, rfl⟩ := List.mem_map.1 hr
  unfold pickRow at hx
  obtain ⟨c, _, rfl⟩ := List.mem_map.1 hx
  cases h1 : t[a.toNat]? with
  | none => simp [List.getD, h1]; omega
  | some q =>
    cases h2 : q[c.toNat]? with
    | none => simp [List.getD, h1, h2]; omega
    | some y =>
      simp only [List.getD, h1, h2, Option.getD_some]
      exact h q (List.mem_of_getElem? h1) y (List.mem_of_getElem? h2)
theorem dmaxC : ∀ k, k ≤ 4 → dmax 100 k ≤ 4611686018427387904 := by decide
end Go.Proofs.Ytgcemkpinmjaeaa

namespace Go.Proofs.Ytgcemkpinmjaeaa
open Go.RowKit
set_option linter.all false
def canEnc (m : List (List Int)) (p q : Int) : Bool :=
  isSmallM m && (inR p 1 3 && (inR q 1 4 && match powM m q with
    | none => false
    | some t => least t (2 ^ p.toNat)))
theorem canEnc_none {m : List (List Int)} {p q : Int} (h : powM m q = none) : canEnc m p q = false := by simp [canEnc, h]
theorem canEnc_some {m t : List (List Int)} {p q : Int} (h1 : isSmallM m = true) (h2 : inR p 1 3 = true) (h3 : inR q 1 4 = true) (h : powM m q = some t) : canEnc m p q = least t (2 ^ p.toNat) := by simp [canEnc, h, h1, h2, h3]
end Go.Proofs.Ytgcemkpinmjaeaa

namespace Go.Proofs.Ytgcemkpinmjaeaa
open Go.RowKit
set_option linter.all false
theorem gvN_fix {m : List (List Int)} {a : Int} (hm : isMat m = true) (ha : 1 ≤ a) : ∀ (f : Nat) (v : List Int), v.sum.toNat ≤ f → Nine m.length v → gstep m a (gvN m a v) = gvN m a v ∧ Nine m.length (gvN m a v)
  | f, v, hf, hv => by
    by_cases h : gstep m a v = v
    · rw [gvN_same h]; exact ⟨h, hv⟩
    · have hs := gvN_step hm ha hv h
      match f, hf with
      | 0, hf => omega
      | f + 1, hf =>
        rw [← hs.1]
        exact gvN_fix hm ha f _ (by omega) hs.2.1
theorem mat_row_in {m : List (List Int)} (hm : isMat m = true) {r : List Int} (hr : r ∈ m) : r.length = m.length ∧ ∀ x ∈ r, 0 ≤ x ∧ x ≤ 1000000 := by
  obtain ⟨k, hk⟩ := List.getElem?_of_mem hr
  have h1 := isMat_row hm hk
  exact ⟨h1.1, fun x hx => by obtain ⟨j, hj⟩ := List.getElem?_of_mem hx; exact allIn_get h1.2 hj⟩
theorem mat_wdot {m : List (List Int)} (hm : isMat m = true) {r v : List Int} (hr : r ∈ m) (hv : ∀ x ∈ v, 0 ≤ x ∧ x ≤ 9) : 0 ≤ wdot 0 r v ∧ wdot 0 r v ≤ 1000000000 := by
  have h := mat_row_in hm hr
  have hl := isMat_len hm
  have := wdot_bound r v 0 h.2 hv (by omega) (by omega)
  omega
/-- Rows that suffice. -/
def Suff (m : List (List Int)) (a : Int) (v : List Int) : Prop := ∀ (k : Nat) (r : List Int) (y : Int), m[k]? = some r → v[k]? = some y → a * y ≤ wdot 0 r v
theorem suff_of_fix {m : List (List Int)} {a : Int} {v : List Int} (hm : isMat m = true) (ha : 1 ≤ a) (hv : Nine m.length v) (h : gstep m a v = v) : Suff m a v := by
  intro k r y hr hy
  have h1 := gstep_get (a := a) hr hy
  rw [h, hy] at h1
  injection h1 with h1
  have h0 := (mat_wdot hm (List.mem_of_getElem? hr) hv.2).1
  have h2 : y ≤ (wdot 0 r v).tdiv a := by unfold mn at h1; split at h1 <;> omega
  rw [Int.tdiv_eq_ediv_of_nonneg h0] at h2
  have := (Int.le_ediv_iff_mul_le (show 0 < a by omega)).1 h2
  rw [Int.mul_comm]; exact this
theorem vrows_all {a : Int} {v : List Int} : ∀ (rs : List (List Int)) (ys : List Int), (∀ (k : Nat) (r : List Int) (y : Int), rs[k]? = some r → ys[k]? = some y → ¬ wdot 0 r v < wrap64 (a * y)) → vrows a v rs ys = true
  | [], _, _ => by simp [vrows]
  | r :: rs, [], _ => by simp [vrows]
  | r :: rs, y :: ys, h => by
    have h0 := h 0 r y rfl rfl
    simp only [vrows, decide_eq_false h0, Bool.not_false, Bool.true_and]
    exact vrows_all rs ys (fun k r y hr hy => h (k + 1) r y hr hy)
theorem vrows_get {a : Int} {v : List Int} : ∀ (rs : List (List Int)) (ys : List Int), vrows a v rs ys = true → ∀ (k : Nat) (r : List Int) (y : Int), rs[k]? = some r → ys[k]? = some y → ¬ wdot 0 r v < wrap64 (a * y)
  | [], _, _, k, r, y, hr, _ => by simp at hr
  | _ :: _, [], _, k, r, y, _, hy => by simp at hy
  | r0 :: rs, y0 :: ys, h, k, r, y, hr, hy => by
    simp only [vrows, Bool.and_eq_true, Bool.not_eq_true', decide_eq_false_iff_not] at h
    match k, hr, hy with
    | 0, hr, hy => injection hr with hr; injection hy with hy; subst hr hy; exact h.1
    | k + 1, hr, hy => exact vrows_get rs ys h.2 k r y hr hy
theorem nine_get {n k : Nat} {v : List Int} {y : Int} (h : Nine n v) (hy : v[k]? = some y) : 0 ≤ y ∧ y ≤ 9 := h.2 y (List.mem_of_getElem? hy)
theorem prod_wrap {a y : Int} (ha : 1 ≤ a) (ha2 : a ≤ 9) (hy : 0 ≤ y ∧ y ≤ 9) : wrap64 (a * y) = a * y := by
  have h1 : 0 ≤ a * y := Int.mul_nonneg (by omega) hy.1
  have h2 : a * y ≤ 9 * 9 := Int.mul_le_mul ha2 hy.2 hy.1 (by omega)
  generalize a * y = z at *
  unfold wrap64; omega
theorem isGraph_mat {m : List (List Int)} (h : isGraph m = true) : isMat m = true := by
  simp only [isGraph, Bool.and_eq_true] at h; exact h.1
theorem greatOk_get {m : List (List Int)} {a b : Int} (h : greatOk m a b = true) : isGraph m = true ∧ (1 ≤ a ∧ a ≤ 9) ∧ inR b 1 9 = true := by
  simp only [greatOk, Bool.and_eq_true] at h
  exact ⟨h.1, inR_true h.2.1, h.2.2⟩
theorem great_get {m : List (List Int)} {a b : Int} (h : great m a b = true) : (isGraph m = true ∧ isMat m = true ∧ 1 ≤ a ∧ a ≤ 9) ∧ Nine m.length (greatL m a b) ∧ Suff m a (greatL m a b) ∧ (greatL m a b).sum ≠ 0 ∧ greatV m a b = greatL m a b := by
  have h0 := h
  simp only [great, Bool.and_eq_true, Bool.not_eq_true', beq_eq_false_iff_ne] at h
  obtain ⟨hg, ha, hb⟩ := greatOk_get h.1
  have hm := isGraph_mat hg
  have hf := gvN_fix hm ha.1 _ _ (Nat.le_refl _) (nine_rep (n := m.length) hb)
  exact ⟨⟨hg, hm, ha.1, ha.2⟩, hf.2, suff_of_fix hm ha.1 hf.2 hf.1, h.2, by simp [greatV, h0]⟩
theorem isVec_of {m : List (List Int)} {a : Int} {v : List Int} (hg : isGraph m = true) (ha : 1 ≤ a) (ha2 : a ≤ 9) (hv : Nine m.length v) (hs : Suff m a v) (h0 : v.sum ≠ 0) : isVec m a v = true := by
  have hl := isMat_len (isGraph_mat hg)
  have e1 := inR_mk (x := a) (lo := 1) (hi := 9) ⟨ha, ha2⟩
  have e2 := nine_vsum hv hl.2
  have e3 : vrows a v m v = true := vrows_all _ _ (fun k r y hr hy => by
    rw [prod_wrap ha ha2 (nine_get hv hy)]
    have := hs k r y hr hy
    omega)
  simp [isVec, hg, e1, e2, e3, hv.1, nine_all9 hv, h0]
theorem isVec_get {m : List (List Int)} {a : Int} {v : List Int} (h : isVec m a v = true) : isGraph m = true ∧ (1 ≤ a ∧ a ≤ 9) ∧ Nine m.length v ∧ Suff m a v ∧ v.sum ≠ 0 := by
  simp only [isVec, Bool.and_eq_true, decide_eq_true_eq, Bool.not_eq_true', beq_eq_false_iff_ne] at h
  obtain ⟨hg, ha, hl, h9, h0, hr⟩ := h
  have ha := inR_true ha
  have hm := isMat_len (isGraph_mat hg)
  have hn : Nine m.length v := ⟨hl, fun x hx => by simp only [all9, List.all_eq_true] at h9; exact inR_true (h9 x hx)⟩
  refine ⟨hg, ha, hn, fun k r y h1 h2 => ?_, by rw [nine_vsum hn hm.2] at h0; exact h0⟩
  have := vrows_get _ _ hr k r y h1 h2
  rw [prod_wrap ha.1 ha.2 (nine_get hn h2)] at this
  omega
theorem great_vec {m : List (List Int)} {a b : Int} (h : great m a b = true) : isVec m a (greatV m a b) = true := by
  have hg := great_get h
  rw [hg.2.2.2.2]
  exact isVec_of hg.1.1 hg.1.2.2.1 hg.1.2.2.2 hg.2.1 hg.2.2.1 hg.2.2.2.1
/-- Below number by number. -/
def Under (u v : List Int) : Prop := ∀ (k : Nat) (x y : Int), u[k]? = some x → v[k]? = some y → x ≤ y
theorem wdot_mono : ∀ (r u v : List Int) (a b : Int), (∀ x ∈ r, 0 ≤ x ∧ x ≤ 1000000) → (∀ y ∈ u, 0 ≤ y ∧ y ≤ 9) → (∀ y ∈ v, 0 ≤ y ∧ y ≤ 9) → u.length = v.length → Under u v → 0 ≤ a → a ≤ b → b + 9000000 * (r.length : Int) ≤ 1099511627776 → wdot a r u ≤ wdot b r v
  | [], _, _, a, b, _, _, _, _, _, _, h, _ => by simp [wdot]; exact h
  | x :: r, [], [], a, b, _, _, _, _, _, _, h, _ => by simp [wdot]; exact h
  | x :: r, [], _ :: _, a, b, _, _, _, hl, _, _, _, _ => by simp at hl
  | x :: r, _ :: _, [], a, b, _, _, _, hl, _, _, _, _ => by simp at hl
  | x :: r, p :: u, q :: v, a, b, hx, hu, hv, hl, hp, h0, hab, h1 => by
    have hx1 := hx x (by simp)
    have hu1 := hu p (by simp)
    have hv1 := hv q (by simp)
    have hpq : p ≤ q := hp 0 p q rfl rfl
    have h2 : 0 ≤ x * p := Int.mul_nonneg hx1.1 hu1.1
    have h3 : x * p ≤ x * q := Int.mul_le_mul_of_nonneg_left hpq hx1.1
    have h4 : x * q ≤ 9000000 := by
      have := Int.mul_le_mul hx1.2 hv1.2 hv1.1 (by omega)
      omega
    simp only [List.length_cons] at h1 hl
    have e1 : wrap64 (x * p) = x * p := wrap_id (by omega)
    have e2 : wrap64 (x * q) = x * q := wrap_id (by omega)
    have e3 : wrap64 (a + x * p) = a + x * p := wrap_id (by omega)
    have e4 : wrap64 (b + x * q) = b + x * q := wrap_id (by omega)
    unfold wdot
    rw [e1, e2, e3, e4]
    exact wdot_mono r u v _ _ (fun z hz => hx z (by simp [hz])) (fun z hz => hu z (by simp [hz])) (fun z hz => hv z (by simp [hz])) (by omega) (fun k x y h h' => hp (k + 1) x y h h') (by omega) (by omega) (by omega)
theorem under_step {m : List (List Int)} {a : Int} {u v : List Int} (hm : isMat m = true) (ha : 1 ≤ a) (hu : Nine m.length u) (hv : Nine m.length v) (hs : Suff m a u) (h : Under u v) : Under u (gstep m a v) := by
  intro k x y hx hy
  have hk : k < m.length := by have := (List.getElem?_eq_some_iff.1 hx).1; have := hu.1; omega
  have hr : m[k]? = some m[k] := List.getElem?_eq_getElem hk
  have hq : v[k]? = some (v[k]'(by have := hv.1; omega)) := List.getElem?_eq_getElem _
  have h1 := gstep_get (a := a) hr hq
  rw [hy] at h1
  injection h1 with h1
  have h2 := h k x _ hx hq
  have h3 := hs k _ x hr hx
  have hrow := mat_row_in hm (List.mem_of_getElem? hr)
  have hl := isMat_len hm
  have h4 := wdot_mono m[k] u v 0 0 hrow.2 hu.2 hv.2 (by rw [hu.1, hv.1]) h (by omega) (by omega) (by omega)
  have h5 := (mat_wdot hm (List.mem_of_getElem? hr) hv.2).1
  have h6 : x ≤ (wdot 0 m[k] v).tdiv a := by
    rw [Int.tdiv_eq_ediv_of_nonneg h5]
    refine (Int.le_ediv_iff_mul_le (show 0 < a by omega)).2 ?_
    rw [Int.mul_comm]
    omega
  rw [h1]
  unfold mn
  split <;> omega
theorem gvN_under {m : List (List Int)} {a : Int} {u : List Int} (hm : isMat m = true) (ha : 1 ≤ a) (hu : Nine m.length u) (hs : Suff m a u) : ∀ (f : Nat) (v : List Int), v.sum.toNat ≤ f → Nine m.length v → Under u v → Under u (gvN m a v)
  | f, v, hf, hv, h => by
    by_cases e : gstep m a v = v
    · rw [gvN_same e]; exact h
    · have hst := gvN_step hm ha hv e
      match f, hf with
      | 0, hf => omega
      | f + 1, hf =>
        rw [← hst.1]
        exact gvN_under hm ha hu hs f _ (by omega) hst.2.1 (under_step hm ha hu hv hs h)
theorem sum_under : ∀ (u v : List Int), u.length = v.length → Under u v → u.sum ≤ v.sum
  | [], [], _, _ => by simp
  | [], _ :: _, h, _ => by simp at h
  | _ :: _, [], h, _ => by simp at h
  | p :: u, q :: v, h, hu => by
    have h1 := sum_under u v (by simpa using h) (fun k x y a b => hu (k + 1) x y a b)
    have h2 : p ≤ q := hu 0 p q rfl rfl
    simp only [List.sum_cons]; omega
theorem vec_great {m : List (List Int)} {a : Int} {u : List Int} (h : isVec m a u = true) : great m a 9 = true ∧ u.length = m.length ∧ (greatV m a 9).length = m.length ∧ Under u (greatV m a 9) := by
  obtain ⟨hg, ha, hu, hs, h0⟩ := isVec_get h
  have hm := isGraph_mat hg
  have h9 : inR (9 : Int) 1 9 = true := by decide
  have hr := nine_rep (n := m.length) h9
  have hst : Under u (List.replicate m.length (9 : Int)) := by
    intro k x y hx hy
    have := List.mem_of_getElem? hy
    rw [List.mem_replicate] at this
    have := nine_get hu hx
    omega
  have hv : Under u (greatL m a 9) := gvN_under hm ha.1 hu hs _ _ (Nat.le_refl _) hr hst
  have hn := (gvN_fix hm ha.1 _ _ (Nat.le_refl _) hr).2
  have hsum := sum_under u (greatL m a 9) (by rw [hu.1]; exact hn.1.symm) hv
  have hpos := (nine_sum u hu.2).1
  have hne : (greatL m a 9).sum ≠ 0 := by omega
  have hok : great m a 9 = true := by
    simp [great, greatOk, hg, inR_mk (x := a) (lo := 1) (hi := 9) ha, h9, hne]
  have e : greatV m a 9 = greatL m a 9 := by simp [greatV, hok]
  rw [e]
  exact ⟨hok, hu.1, hn.1, hv⟩
theorem least_great {m : List (List Int)} {a : Int} (h : least m a = true) : ∃ k : Int, great m a k = true ∧ leastV m a = greatV m a k := by
  unfold least leastV leastO at *
  have go : ∀ (f k : Nat), (leastFrom m a f k).isSome = true → ∃ j : Int, great m a j = true ∧ (leastFrom m a f k).getD [] = greatV m a j := by
    intro f
    induction f with
    | zero => intro k h; simp [leastFrom] at h
    | succ f ih =>
      intro k h
      unfold leastFrom at h ⊢
      cases hg : great m a (k : Int)
      · simp only [hg] at h ⊢
        simpa using ih (k + 1) (by simpa using h)
      · exact ⟨k, hg, by simp [hg]⟩
  exact go _ _ h
/- Tables with positive first minors and nothing positive away from the diagonal. -/
theorem z1 {a x : Int} (ha : 0 < a) (hx : 0 ≤ x) (h : a * x ≤ 0) : x = 0 := by
  rcases Int.lt_or_le 0 x with h1 | h1
  · have := Int.mul_pos ha h1; omega
  · omega
theorem zoff {a t p q : Int} (ha : 0 < a) (ht : t ≤ 0) (hp : p ≤ 0) (hq : q ≤ 0) : a * t - p * q ≤ 0 := by
  have h1 : a * t ≤ 0 := Int.mul_nonpos_of_nonneg_of_nonpos (by omega) ht
  have h2 : 0 ≤ p * q := Int.mul_nonneg_of_nonpos_of_nonpos hp hq
  omega
theorem z2 {a b c d x y : Int} (hb : b ≤ 0) (hc : c ≤ 0) (h1 : 0 < a) (h2 : 0 < a * d - b * c) (hx : 0 ≤ x) (hy : 0 ≤ y) (r1 : a * x + b * y ≤ 0) (r2 : c * x + d * y ≤ 0) : x = 0 ∧ y = 0 := by
  have e : (a * d - b * c) * y = a * (c * x + d * y) - c * (a * x + b * y) := by grind
  have hy0 : y = 0 := z1 h2 hy (by rw [e]; exact zoff h1 r2 hc r1)
  subst hy0
  refine ⟨z1 h1 hx (by omega), rfl⟩
theorem z3 {a b c d e f g h i x y z : Int} (hb : b ≤ 0) (hc : c ≤ 0) (hd : d ≤ 0) (hf : f ≤ 0) (hg : g ≤ 0) (hh : h ≤ 0) (h1 : 0 < a) (h2 : 0 < a * e - b * d)
    (h3 : 0 < a * (e * i - f * h) - b * (d * i - f * g) + c * (d * h - e * g)) (hx : 0 ≤ x) (hy : 0 ≤ y) (hz : 0 ≤ z)
    (r1 : a * x + b * y + c * z ≤ 0) (r2 : d * x + e * y + f * z ≤ 0) (r3 : g * x + h * y + i * z ≤ 0) : x = 0 ∧ y = 0 ∧ z = 0 := by
  have k1 : (a * e - d * b) * y + (a * f - d * c) * z = a * (d * x + e * y + f * z) - d * (a * x + b * y + c * z) := by grind
  have k2 : (a * h - g * b) * y + (a * i - g * c) * z = a * (g * x + h * y + i * z) - g * (a * x + b * y + c * z) := by grind
  have k3 : (a * e - d * b) * (a * i - g * c) - (a * f - d * c) * (a * h - g * b) = a * (a * (e * i - f * h) - b * (d * i - f * g) + c * (d * h - e * g)) := by grind
  have h2' : 0 < a * e - d * b := by rw [Int.mul_comm d b]; exact h2
  have := z2 (zoff h1 hf hd hc) (zoff h1 hh hg hb) h2' (by rw [k3]; exact Int.mul_pos h1 h3) hy hz (by rw [k1]; exact zoff h1 r2 hd r1) (by rw [k2]; exact zoff h1 r3 hg r1)
  obtain ⟨rfl, rfl⟩ := this
  exact ⟨z1 h1 hx (by omega), rfl, rfl⟩
def dt3 (a b c d e f g h i : Int) : Int := a * (e * i - f * h) - b * (d * i - f * g) + c * (d * h - e * g)
theorem z4 {a b c d e f g h i j k l m n o p x y z w : Int} (hb : b ≤ 0) (hc : c ≤ 0) (hd : d ≤ 0) (he : e ≤ 0) (hg : g ≤ 0) (hh : h ≤ 0) (hi : i ≤ 0) (hj : j ≤ 0) (hl : l ≤ 0) (hm : m ≤ 0) (hn : n ≤ 0) (ho : o ≤ 0)
    (h1 : 0 < a) (h2 : 0 < a * f - b * e) (h3 : 0 < dt3 a b c e f g i j k) (h4 : 0 < a * dt3 f g h j k l n o p - b * dt3 e g h i k l m o p + c * dt3 e f h i j l m n p - d * dt3 e f g i j k m n o)
    (hx : 0 ≤ x) (hy : 0 ≤ y) (hz : 0 ≤ z) (hw : 0 ≤ w)
    (r1 : a * x + b * y + c * z + d * w ≤ 0) (r2 : e * x + f * y + g * z + h * w ≤ 0) (r3 : i * x + j * y + k * z + l * w ≤ 0) (r4 : m * x + n * y + o * z + p * w ≤ 0) : x = 0 ∧ y = 0 ∧ z = 0 ∧ w = 0 := by
  have k1 : (a * f - e * b) * y + (a * g - e * c) * z + (a * h - e * d) * w = a * (e * x + f * y + g * z + h * w) - e * (a * x + b * y + c * z + d * w) := by grind
  have k2 : (a * j - i * b) * y + (a * k - i * c) * z + (a * l - i * d) * w = a * (i * x + j * y + k * z + l * w) - i * (a * x + b * y + c * z + d * w) := by grind
  have k3 : (a * n - m * b) * y + (a * o - m * c) * z + (a * p - m * d) * w = a * (m * x + n * y + o * z + p * w) - m * (a * x + b * y + c * z + d * w) := by grind
  have q2 : (a * f - e * b) * (a * k - i * c) - (a * g - e * c) * (a * j - i * b) = a * dt3 a b c e f g i j k := by unfold dt3; grind
  have q3 : (a * f - e * b) * ((a * k - i * c) * (a * p - m * d) - (a * l - i * d) * (a * o - m * c)) - (a * g - e * c) * ((a * j - i * b) * (a * p - m * d) - (a * l - i * d) * (a * n - m * b)) + (a * h - e * d) * ((a * j - i * b) * (a * o - m * c) - (a * k - i * c) * (a * n - m * b))
      = a * (a * (a * dt3 f g h j k l n o p - b * dt3 e g h i k l m o p + c * dt3 e f h i j l m n p - d * dt3 e f g i j k m n o)) := by unfold dt3; grind
  have h2' : 0 < a * f - e * b := by rw [Int.mul_comm e b]; exact h2
  have := z3 (zoff h1 hg he hc) (zoff h1 hh he hd) (zoff h1 hj hi hb) (zoff h1 hl hi hd) (zoff h1 hn hm hb) (zoff h1 ho hm hc) h2' (by rw [q2]; exact Int.mul_pos h1 h3) (by rw [q3]; exact Int.mul_pos h1 (Int.mul_pos h1 h4)) hy hz hw
    (by rw [k1]; exact zoff h1 r2 he r1) (by rw [k2]; exact zoff h1 r3 hi r1) (by rw [k3]; exact zoff h1 r4 hm r1)
  obtain ⟨rfl, rfl, rfl⟩ := this
  exact ⟨z1 h1 hx (by omega), rfl, rfl, rfl⟩
theorem len1 {α : Type} {l : List α} (h : l.length = 1) : ∃ a, l = [a] := by
  match l, h with | [a], _ => exact ⟨a, rfl⟩
theorem len2 {α : Type} {l : List α} (h : l.length = 2) : ∃ a b, l = [a, b] := by
  match l, h with | [a, b], _ => exact ⟨a, b, rfl⟩
theorem len3 {α : Type} {l : List α} (h : l.length = 3) : ∃ a b c, l = [a, b, c] := by
  match l, h with | [a, b, c], _ => exact ⟨a, b, c, rfl⟩
theorem len4 {α : Type} {l : List α} (h : l.length = 4) : ∃ a b c d, l = [a, b, c, d] := by
  match l, h with | [a, b, c, d], _ => exact ⟨a, b, c, d, rfl⟩
theorem bel_all {T : List (List Int)} : ∀ (n k : Nat), belF T k n = true → ∀ j, k ≤ j → j < k + n → 0 < det (j + 1) (partT T (j + 1))
  | 0, k, _, j, h1, h2 => by omega
  | n + 1, k, h, j, h1, h2 => by
    simp only [belF, Bool.and_eq_true, decide_eq_true_eq] at h
    by_cases e : j = k
    · subst e; exact h.1
    · exact bel_all n (k + 1) h.2 j (by omega) (by omega)
theorem qT_bnd {q : Int} {m : List (List Int)} (hs : isSmallM m = true) (h0 : 0 ≤ q) (h9 : q ≤ 9) : Bnd 100 (qT q 1 m) := by
  intro r hr x hx
  simp only [qT, List.mem_map, List.mem_range] at hr
  obtain ⟨i, hi, rfl⟩ := hr
  simp only [qRow, List.mem_map, List.mem_range] at hx
  obtain ⟨j, hj, rfl⟩ := hx
  have hm := isSmallM_mat hs
  have h1 : m[i]? = some m[i] := List.getElem?_eq_getElem hi
  have h2 := (isMat_row hm.1 h1).1
  have h3 : m[i][j]? = some (m[i][j]'(by omega)) := List.getElem?_eq_getElem _
  have h4 := isSmallM_get hs h1 h3
  have e : (m.getD i []).getD j 0 = m[i][j]'(by omega) := by simp only [List.getD, h1, Option.getD_some, h3]
  rw [e]
  split <;> omega
theorem bel_detI {q : Int} {m : List (List Int)} (hs : isSmallM m = true) (h0 : 0 ≤ q) (h9 : q ≤ 9) (h : belowM m q 1 = true) : ∀ j, j < m.length → 0 < detI (j + 1) (partT (qT q 1 m) (j + 1)) := by
  intro j hj
  unfold belowM at h
  rw [← qT_less hs h0 (by omega) (by omega) (by omega)] at h
  have h1 := bel_all _ _ h j (Nat.zero_le _) (by omega)
  have hm := isSmallM_mat hs
  rw [det_eqI (B := 100) (by omega) (by omega) (j + 1) _ (partT_len _ _) (partT_rowsLen _ _) (Bnd.pick (qT_bnd hs h0 h9) (by omega) _ _) (fun k hk => dmaxC k (by omega))] at h1
  exact h1
def dotI : List Int → List Int → Int
  | x :: r, y :: v => x * y + dotI r v
  | _, _ => 0
theorem wdot_dot : ∀ (r v : List Int) (a : Int), (∀ x ∈ r, 0 ≤ x ∧ x ≤ 1000000) → (∀ y ∈ v, 0 ≤ y ∧ y ≤ 9) → 0 ≤ a → a + 9000000 * (r.length : Int) ≤ 1099511627776 → wdot a r v = a + dotI r v
  | [], v, a, _, _, _, _ => by simp [wdot, dotI]
  | x :: r, [], a, _, _, _, _ => by simp [wdot, dotI]
  | x :: r, y :: v, a, hx, hy, h0, h1 => by
    have hx1 := hx x (by simp)
    have hy1 := hy y (by simp)
    have h2 : 0 ≤ x * y := Int.mul_nonneg hx1.1 hy1.1
    have h3 : x * y ≤ 9000000 := by
      have := Int.mul_le_mul hx1.2 hy1.2 hy1.1 (by omega)
      omega
    simp only [List.length_cons] at h1
    have e1 : wrap64 (x * y) = x * y := wrap_id (by omega)
    have e2 : wrap64 (a + x * y) = a + x * y := wrap_id (by omega)
    unfold wdot dotI
    rw [e1, e2, wdot_dot r v (a + x * y) (fun z hz => hx z (by simp [hz])) (fun z hz => hy z (by simp [hz])) (by omega) (by omega)]
    omega
theorem small_row {m : List (List Int)} (hs : isSmallM m = true) {k : Nat} {r : List Int} (h : m[k]? = some r) : r.length = m.length ∧ ∀ x ∈ r, 0 ≤ x ∧ x ≤ 9 := by
  have hm := isSmallM_mat hs
  refine ⟨(isMat_row hm.1 h).1, fun x hx => ?_⟩
  obtain ⟨j, hj⟩ := List.getElem?_of_mem hx
  exact isSmallM_get hs h hj
theorem suff_dot {m : List (List Int)} {a : Int} {v : List Int} (hm : isMat m = true) (hv : Nine m.length v) (hs : Suff m a v) {k : Nat} {r : List Int} {y : Int} (hr : m[k]? = some r) (hy : v[k]? = some y) : a * y ≤ dotI r v := by
  have h := hs k r y hr hy
  have hl := isMat_len hm
  have h1 := mat_row_in hm (List.mem_of_getElem? hr)
  rw [wdot_dot r v 0 h1.2 hv.2 (by omega) (by omega)] at h
  omega
set_option maxHeartbeats 4000000 in
theorem great_below {m : List (List Int)} {a b : Int} (h : great m a b = true) (hs : isSmallM m = true) : belowM m a 1 = false := by
  obtain ⟨hg, hn, hsu, h0, _⟩ := great_get h
  generalize greatL m a b = v at hn hsu h0
  have hm := isSmallM_mat hs
  cases hb : belowM m a 1
  · rfl
  exfalso
  have hd := bel_detI hs (by omega) (by omega) hb
  have hsd := fun {k : Nat} {r : List Int} {y : Int} (hr : m[k]? = some r) (hy : v[k]? = some y) => suff_dot hg.2.1 hn hsu hr hy
  have hrow := fun {k : Nat} {r : List Int} (hr : m[k]? = some r) => small_row hs hr
  clear hb hsu h hs
  have hn1 := hn.1
  have hn2 := hn.2
  clear hn
  have hcase : m.length = 1 ∨ m.length = 2 ∨ m.length = 3 ∨ m.length = 4 := by omega
  rcases hcase with hl | hl | hl | hl
  · obtain ⟨r0, rfl⟩ := len1 hl
    have q0 := hrow (k := 0) rfl
    obtain ⟨p, rfl⟩ := len1 (q0.1.trans hl)
    obtain ⟨x, rfl⟩ := len1 (hn1.trans hl)
    have d0 := hd 0 (by simp)
    simp only [partT, someT, iota, pickRow, qT, qRow, List.range, List.range.loop, List.length_cons, List.length_nil, List.map, List.getD, List.getElem?_cons_zero, List.getElem?_cons_succ, Option.getD_some, Int.toNat_natCast] at d0
    simp at d0
    simp only [detI1] at d0
    have s0 := hsd (k := 0) rfl rfl
    have b0 := hn2 x (by simp)
    simp only [dotI] at s0
    have := z1 (a := a - p) (x := x) (by omega) b0.1 (by rw [Int.sub_mul]; omega)
    apply h0; simp [this]
  · obtain ⟨r0, r1, rfl⟩ := len2 hl
    have q0 := hrow (k := 0) rfl
    have q1 := hrow (k := 1) rfl
    obtain ⟨p, q, rfl⟩ := len2 (q0.1.trans hl)
    obtain ⟨r, s, rfl⟩ := len2 (q1.1.trans hl)
    obtain ⟨x, y, rfl⟩ := len2 (hn1.trans hl)
    have d0 := hd 0 (by simp)
    have d1 := hd 1 (by simp)
    simp only [partT, someT, iota, pickRow, qT, qRow, List.range, List.range.loop, List.length_cons, List.length_nil, List.map, List.getD, List.getElem?_cons_zero, List.getElem?_cons_succ, Option.getD_some, Int.toNat_natCast, detI1, detI2] at d0 d1
    simp at d0 d1
    simp only [detI1, detI2] at d0 d1
    have s0 := hsd (k := 0) rfl rfl
    have s1 := hsd (k := 1) rfl rfl
    have b0 := hn2 x (by simp)
    have b1 := hn2 y (by simp)
    have a1 := q0.2 q (by simp)
    have a2 := q1.2 r (by simp)
    simp only [dotI] at s0 s1
    have := z2 (a := a - p) (b := -q) (c := -r) (d := a - s) (x := x) (y := y) (by omega) (by omega) (by omega) (by simpa using d1) b0.1 b1.1 (by simp only [Int.sub_mul, Int.neg_mul]; omega) (by simp only [Int.sub_mul, Int.neg_mul]; omega)
    apply h0; simp [this]
  · obtain ⟨r0, r1, r2, rfl⟩ := len3 hl
    have q0 := hrow (k := 0) rfl
    have q1 := hrow (k := 1) rfl
    have q2 := hrow (k := 2) rfl
    obtain ⟨m11, m12, m13, rfl⟩ := len3 (q0.1.trans hl)
    obtain ⟨m21, m22, m23, rfl⟩ := len3 (q1.1.trans hl)
    obtain ⟨m31, m32, m33, rfl⟩ := len3 (q2.1.trans hl)
    obtain ⟨x, y, z, rfl⟩ := len3 (hn1.trans hl)
    have d0 := hd 0 (by simp)
    have d1 := hd 1 (by simp)
    have d2 := hd 2 (by simp)
    simp only [partT, someT, iota, pickRow, qT, qRow, List.range, List.range.loop, List.length_cons, List.length_nil, List.map, List.getD, List.getElem?_cons_zero, List.getElem?_cons_succ, Option.getD_some, Int.toNat_natCast, detI1, detI2, detI3] at d0 d1 d2
    simp at d0 d1 d2
    simp only [detI1, detI2, detI3] at d0 d1 d2
    have s0 := hsd (k := 0) rfl rfl
    have s1 := hsd (k := 1) rfl rfl
    have s2 := hsd (k := 2) rfl rfl
    have b0 := hn2 x (by simp)
    have b1 := hn2 y (by simp)
    have b2 := hn2 z (by simp)
    have c1 := q0.2 m12 (by simp)
    have c2 := q0.2 m13 (by simp)
    have c3 := q1.2 m21 (by simp)
    have c4 := q1.2 m23 (by simp)
    have c5 := q2.2 m31 (by simp)
    have c6 := q2.2 m32 (by simp)
    simp only [dotI] at s0 s1 s2
    have := z3 (a := a - m11) (b := -m12) (c := -m13) (d := -m21) (e := a - m22) (f := -m23) (g := -m31) (h := -m32) (i := a - m33) (x := x) (y := y) (z := z) (by omega) (by omega) (by omega) (by omega) (by omega) (by omega) (by omega) (by simpa using d1) (by simpa using d2) b0.1 b1.1 b2.1 (by simp only [Int.sub_mul, Int.neg_mul]; omega) (by simp only [Int.sub_mul, Int.neg_mul]; omega) (by simp only [Int.sub_mul, Int.neg_mul]; omega)
    apply h0; simp [this]
  · obtain ⟨r0, r1, r2, r3, rfl⟩ := len4 hl
    have q0 := hrow (k := 0) rfl
    have q1 := hrow (k := 1) rfl
    have q2 := hrow (k := 2) rfl
    have q3 := hrow (k := 3) rfl
    obtain ⟨m11, m12, m13, m14, rfl⟩ := len4 (q0.1.trans hl)
    obtain ⟨m21, m22, m23, m24, rfl⟩ := len4 (q1.1.trans hl)
    obtain ⟨m31, m32, m33, m34, rfl⟩ := len4 (q2.1.trans hl)
    obtain ⟨m41, m42, m43, m44, rfl⟩ := len4 (q3.1.trans hl)
    obtain ⟨x, y, z, w, rfl⟩ := len4 (hn1.trans hl)
    have d0 := hd 0 (by simp)
    have d1 := hd 1 (by simp)
    have d2 := hd 2 (by simp)
    have d3 := hd 3 (by simp)
    simp only [partT, someT, iota, pickRow, qT, qRow, List.range, List.range.loop, List.length_cons, List.length_nil, List.map, List.getD, List.getElem?_cons_zero, List.getElem?_cons_succ, Option.getD_some, Int.toNat_natCast, detI1, detI2, detI3, detI4] at d0 d1 d2 d3
    simp at d0 d1 d2 d3
    simp only [detI1, detI2, detI3, detI4] at d0 d1 d2 d3
    have s0 := hsd (k := 0) rfl rfl
    have s1 := hsd (k := 1) rfl rfl
    have s2 := hsd (k := 2) rfl rfl
    have s3 := hsd (k := 3) rfl rfl
    have b0 := hn2 x (by simp)
    have b1 := hn2 y (by simp)
    have b2 := hn2 z (by simp)
    have b3 := hn2 w (by simp)
    have c1 := q0.2 m12 (by simp)
    have c2 := q0.2 m13 (by simp)
    have c3 := q0.2 m14 (by simp)
    have c4 := q1.2 m21 (by simp)
    have c5 := q1.2 m23 (by simp)
    have c6 := q1.2 m24 (by simp)
    have c7 := q2.2 m31 (by simp)
    have c8 := q2.2 m32 (by simp)
    have c9 := q2.2 m34 (by simp)
    have c10 := q3.2 m41 (by simp)
    have c11 := q3.2 m42 (by simp)
    have c12 := q3.2 m43 (by simp)
    simp only [dotI] at s0 s1 s2 s3
    have := z4 (a := a - m11) (b := -m12) (c := -m13) (d := -m14) (e := -m21) (f := a - m22) (g := -m23) (h := -m24) (i := -m31) (j := -m32) (k := a - m33) (l := -m34) (m := -m41) (n := -m42) (o := -m43) (p := a - m44) (x := x) (y := y) (z := z) (w := w)
      (by omega) (by omega) (by omega) (by omega) (by omega) (by omega) (by omega) (by omega) (by omega) (by omega) (by omega) (by omega) (by omega) (by simpa using d1) (by unfold dt3; simpa using d2) (by unfold dt3; simpa using d3) b0.1 b1.1 b2.1 b3.1
      (by simp only [Int.sub_mul, Int.neg_mul]; omega) (by simp only [Int.sub_mul, Int.neg_mul]; omega) (by simp only [Int.sub_mul, Int.neg_mul]; omega) (by simp only [Int.sub_mul, Int.neg_mul]; omega)
    apply h0; simp [this]
theorem canEnc_below {m t : List (List Int)} {p q : Int} (h : canEnc m p q = true) (ht : powM m q = some t) (hs : isSmallM t = true) : belowM t (2 ^ p.toNat) 1 = false := by
  simp only [canEnc, ht, Bool.and_eq_true] at h
  obtain ⟨k, hk, _⟩ := least_great h.2.2.2
  exact great_below hk hs
end Go.Proofs.Ytgcemkpinmjaeaa

namespace Go.Proofs.Ytgcemkpinmjaeaa
open Go.RowKit
set_option linter.all false
/- The laws' own sum of products. -/
theorem wdot_endR {r v : List Int} {j : Nat} {a b : Int} (hj : r.length ≤ j ∨ v.length ≤ j) (h : wdot a (r.drop j) (v.drop j) = b) : a = b := by
  rcases hj with hj | hj
  · rw [drop_all r j hj] at h; exact h
  · rw [drop_all v j hj] at h
    cases hr : r.drop j with
    | nil => rw [hr] at h; exact h
    | cons x xs => rw [hr] at h; exact h
set_option maxHeartbeats 1600000 in
theorem lRow_any (p : Option Addr) (n c : Nat) (r : List Int) (p' : Option Addr) (n' c' : Nat) (v : List Int) (w : World) (h : Ints w p n r) (h' : Ints w p' n' v) :
    Calls Try.prog 56 #[.slice p n c, .slice p' n' c'] w fun e w' => e = .returned (.int .i64 (wdot 0 r v)) ∧ Drew w w' := by
  have HL : Hid (r.length = n) := h.1
  have HL' : Hid (v.length = n') := h'.1
  have hm := h.2.1
  have H := Lib.hid h
  have H' := Lib.hid h'
  clear h h'
  go_enter Try.func56, Try.ntmps56
  go_wp2_with fail
  go_loopw [5, 6] (fun s x wr => ∃ (k : Nat) (a : Int), k ≤ n ∧ s = .int .i64 a ∧ x = .int .i64 k ∧ Hid (wdot a (r.drop k) (v.drop k) = wdot 0 r v) ∧ Drew w wr) (fun _ x _ => n - (intOf x).toNat)
  case atStart => exact ⟨0, 0, Nat.zero_le _, rfl, rfl, rfl, Drew.refl _⟩
  case round =>
    obtain ⟨k, a, hk, rfl, rfl, hr, ⟨q, rfl⟩⟩ := hrel
    by_cases hlt : k < n
    · by_cases hlt' : k < n'
      · obtain ⟨b1, o1, x, rfl, hcx, hx⟩ := H.out.at_ hlt
        obtain ⟨b2, o2, y, rfl, hcy, hy⟩ := H'.out.at_ hlt'
        have HN := Lib.hid (wdot_step hx.out hy.out hr.out)
        clear hx hy hr
        go_wp2_with fail
        go_quiet (fail)
        all_goals (go_wp2_with fail)
        all_goals refine ⟨?_, ?_⟩
        all_goals first
          | exact ⟨k + 1, _, hlt, rfl, by go_num, HN.out, Drew.mk _ _⟩
          | (simp [intOf]; omega)
      · have HE := Lib.hid (wdot_endR (.inr (by have := HL'.out; omega)) hr.out)
        clear hr
        go_wp2_with fail
        go_ret
        exact ⟨ret_int HE.out, Drew.mk _ _⟩
    · have HE := Lib.hid (wdot_endR (.inl (by have := HL.out; omega)) hr.out)
      clear hr
      go_wp2_with fail
      go_ret
      exact ⟨ret_int HE.out, Drew.mk _ _⟩
end Go.Proofs.Ytgcemkpinmjaeaa

namespace Go.Proofs.Ytgcemkpinmjaeaa
open Go.RowKit
set_option linter.all false
set_option maxHeartbeats 1600000 in
theorem sIsSmall_any (ao : Option Addr) (n cap : Nat) (xss : List (List Int)) (w : World) (h : Intss w ao n xss) :
    Calls Try.prog 53 #[.slice ao n cap] w fun e w' => e = .returned (.bool (isSmallM xss)) ∧ w = w' := by
  have hm := h.2.1
  have HL := Lib.hid h.1
  have H := Lib.hid h
  have hg0 : Hid (isSmallM xss = (isMat xss && (!decide (4 < n) && le9T xss))) := by show isSmallM xss = _; unfold isSmallM; rw [h.1]
  clear h
  go_enter Try.func53, Try.ntmps53
  go_wp2
  go_loop [3] (fun i => ∃ k : Nat, k ≤ n ∧ i = .int .i64 k ∧ Hid (le9T (xss.drop k) = le9T xss)) (fun i => n - (intOf i).toNat)
  case atStart => exact ⟨0, Nat.zero_le _, rfl, rfl⟩
  case round =>
    obtain ⟨k, hk, rfl, hr⟩ := hrel
    by_cases hlt : k < n
    · obtain ⟨b, o, ai, ci, r, rfl, hcell, hrow, hget⟩ := H.out.at_ hlt
      have hrb := hrow.2.1
      have Hst := Lib.hid (le9T_step hget.out hr.out)
      have Hrow := Lib.hid hrow
      clear hrow hr H
      go_wp2_with fail
      go_loop [4] (fun i => ∃ j : Nat, j ≤ r.length ∧ i = .int .i64 j ∧ Hid (le9 (r.drop j) = le9 r)) (fun i => r.length - (intOf i).toNat)
      case atStart => exact ⟨0, Nat.zero_le _, rfl, rfl⟩
      case round =>
        obtain ⟨j, hj, rfl, hrj⟩ := hrel
        by_cases hjn : j < r.length
        · obtain ⟨b', o', x, rfl, hcell', hget'⟩ := Hrow.out.at_ hjn
          have Hsj := Lib.hid (le9_step hget'.out hrj.out)
          clear hrj Hrow
          by_cases h9 : 9 < x
          · have hr1 : Hid _ := Hst.out.1 (Hsj.out.1 h9)
            clear Hst Hsj
            go_wp2_with fail
            go_ret
            exact ⟨ret_bool (by rw [hg0.out, hr1.out]; simp), rfl⟩
          · have hr1 : Hid _ := Hsj.out.2 h9
            clear Hst Hsj
            go_wp2_with fail
            go_round
            case rel => exact ⟨j + 1, hjn, by go_num, hr1⟩
            case measure => simp [intOf]; omega
        · have hr1 : Hid _ := Hst.out.2 (by have := hrj.out; rw [drop_all r j (by omega)] at this; exact this.symm)
          clear Hst hrj Hrow
          go_wp2_with fail
          go_round
          case rel => exact ⟨k + 1, hlt, by go_num, hr1⟩
          case measure => simp [intOf]; omega
    · rw [drop_all xss k (by have := HL.out; omega)] at hr
      have hr1 : Hid _ := hr.out.symm
      clear hr
      cases hmat : isMat xss
      · have hg : Hid (isSmallM xss = false) := by show isSmallM xss = _; rw [hg0.out, hmat]; rfl
        go_wp2_with (first | (go_at_call 125; refine (sIsMatrix_any _ _ _ xss _ H.out).mono ?_; rintro e w' ⟨rfl, rfl⟩))
        go_ret
        exact ⟨ret_bool hg.out.symm, rfl⟩
      · have hg : Hid (isSmallM xss = decide ((n : Int) ≤ 4)) := by
          show isSmallM xss = _
          rw [hg0.out, hmat, hr1.out]
          by_cases h4 : n ≤ 4
          · have e1 : ¬ 4 < n := by omega
            have e2 : (n : Int) ≤ 4 := by omega
            simp [e1, e2, le9T]
          · have e1 : 4 < n := by omega
            have e2 : ¬ (n : Int) ≤ 4 := by omega
            simp [e1, e2]
        go_wp2_with (first | (go_at_call 125; refine (sIsMatrix_any _ _ _ xss _ H.out).mono ?_; rintro e w' ⟨rfl, rfl⟩))
        go_ret
        exact ⟨ret_bool hg.out.symm, rfl⟩
end Go.Proofs.Ytgcemkpinmjaeaa

namespace Go.Proofs.Ytgcemkpinmjaeaa
open Go.RowKit
set_option linter.all false
set_option maxHeartbeats 3200000 in
theorem sMinor_any (p : Option Addr) (n c : Nat) (t : List (List Int)) (i j m : Nat) (w : World) (h : Intss w p n t) (hr : RowsLen t m) (hj : j < m) (hm : m ≤ 1048576) (hn : n ≤ 1048576) :
    Calls Try.prog 148 #[.slice p n c, .int .i64 i, .int .i64 j] w fun e w' => ∃ v, e = .returned v ∧ OIntss w' w.heap.size v (minorT t i j).length (minorT t i j) ∧ Below w.heap.size w w' := by
  have H := Lib.hid h
  have HL : Hid (t.length = n) := h.1
  have HR := Lib.hid hr
  clear h hr
  go_enter Try.func148, Try.ntmps148
  go_wp2_with fail
  go_loopw [7, 8] (fun v x wr => ∃ k : Nat, k ≤ n ∧ x = .int .i64 k ∧ OIntss wr w.heap.size v (minorTo t i j k).length (minorTo t i j k) ∧ Below w.heap.size w wr) (fun _ x _ => n - (intOf x).toNat)
  case atStart => exact ⟨0, Nat.zero_le _, rfl, by rw [minorTo_zero]; exact OIntss.empty w _ (Nat.le_refl _), (Below.refl _ _).alloc (Nat.le_refl _) _⟩
  case round =>
    obtain ⟨k, hk, rfl, hown, hbl⟩ := hrel
    obtain ⟨wo, rfl⟩ : ∃ wo : World, wo = wr := ⟨_, rfl⟩
    by_cases hlt : k < n
    · obtain ⟨b1, o1, a1, c1, r, rfl, hca, hrow, hget, hcap⟩ := H.out.cap_ hlt
      have h1 := (hbl.cell (World.block_lt_of_cell? w _ hca)).trans hca
      have hrl : r.length = m := HR.out _ _ hget.out
      by_cases hki : k = i
      · subst hki
        have e : minorTo t k j (k + 1) = minorTo t k j k := minorTo_skip (by have := HL.out; omega)
        rw [← e] at hown
        have Hown := Lib.hid hown
        have Hbl := Lib.hid hbl
        have hne : ((k : Int) == (k : Int)) = true := by simp
        clear hown hbl hca hrow hrl e
        go_wp2_with fail
        go_roundw
        case rel => exact ⟨k + 1, hlt, by go_num, Hown.out, Hbl.out⟩
        case measure => simp [intOf]; omega
      · have hne : ((k : Int) == (i : Int)) = false := by simp; omega
        have e : minorTo t i j (k + 1) = minorTo t i j k ++ [cut j r] := minorTo_step hget.out hki
        have Hown := Lib.hid hown
        have Hbl := Lib.hid hbl
        have hjr2 : j ≤ r.length := by omega
        have hjr3 : j + 1 ≤ r.length := by omega
        have hjc : j ≤ c1 := by omega
        have Hrow := Lib.hid hrow
        have E := Lib.hid e
        have HRL := Lib.hid hrl
        clear hown hbl hca hki hrow e hrl
        obtain ⟨A2, hA2⟩ : ∃ A2, (if c1 = j + 1 then a1 else a1.map (·.add (j + 1))) = A2 := ⟨_, rfl⟩
        have Hd : Hid (Ints wo A2 (r.length - (j + 1)) (r.drop (j + 1))) := by rw [← hA2]; exact (Hrow.out.keep (Hbl.out.mono (Nat.le_refl _))).drop hjr3 hcap
        have Ht : Hid (Ints wo a1 j (r.take j)) := (Hrow.out.keep (Hbl.out.mono (Nat.le_refl _))).take hjr2
        have hs1 := slice_to a1 r.length c1 j hjc
        have hs2 := slice_from a1 r.length c1 j hjr3
        rw [hA2] at hs2
        have HA2 := Lib.hid hA2
        have hw0 : Below wo.heap.size wo (wo.alloc (.cells #[] 3)) := (Below.refl _ _).alloc (Nat.le_refl _) _
        have Hw0 := Lib.hid hw0
        have ho0 : Hid (OInts (wo.alloc (.cells #[] 3)) wo.heap.size (.slice (some ⟨wo.heap.size, 0, none⟩) 0 0) 0 []) := OInts.empty wo wo.heap.size (Nat.le_refl _)
        have hjm : j ≤ 1048576 := by omega
        have hrm : r.length ≤ 1048576 := by have := HRL.out; omega
        have hjr4 : j + 1 ≤ r.length := hjr3
        have hml := minorTo_len (t := t) (i := i) (j := j) (k := k)
        have H1 := Lib.hid h1
        have h10 := (hw0.cell (World.block_lt_of_cell? wo _ h1)).trans h1
        clear h1 hcap hA2 hjc hjr2 hjr3 hw0
        go_wp2_with (first
          | (at_builtin; refine wpList_app_ints _ rfl (.tmp 20) (.tmp 26) rfl wo.heap.size _ 0 [] rfl ho0.out a1 j _ (r.take j) rfl (Ht.out.keep Hw0.out) (by omega) (by exact Hw0.out.size) ?_; intro v1 w1 ho1 hg1; rw [Nat.zero_add, List.nil_append] at ho1; obtain ⟨ao1, cap1, rfl, _⟩ := ho1.form; have Ho1 := Lib.hid ho1; have Hb1 : Hid (Below wo.heap.size wo w1) := Hw0.out.grown hg1 Hw0.out.size (fun k hk => (ho0.out.ownlt k hk).1); have h1' := (Hb1.out.cell (World.block_lt_of_cell? wo _ H1.out)).trans H1.out; clear ho1 hg1)
          | (at_builtin; refine wpList_app_ints _ rfl (.tmp 29) (.tmp 36) rfl wo.heap.size _ _ _ rfl Ho1.out A2 _ _ (r.drop (j + 1)) rfl (Hd.out.keep Hb1.out) (by omega) (by exact Hb1.out.size) ?_; intro v2 w2 ho2 hg2; obtain ⟨ao2, cap2, rfl, _⟩ := ho2.form; have Ho2 := Lib.hid ho2; have Hb2 : Hid (Below wo.heap.size wo w2) := Hb1.out.grown hg2 Hb1.out.size (fun k hk => (Ho1.out.ownlt k hk).1); clear ho2 hg2)
          | (at_builtin; refine wpList_push_fresh _ _ wo rfl (.tmp 28) (.tmp 38) rfl w.heap.size _ _ _ rfl Hown.out (by omega) Hbl.out.size Hb2.out _ _ Ho2.out _ (by rfl) rfl ?_; intro v3 w3 ho3 hb3 _; have Ho3 := Lib.hid ho3; have Hb3 := Lib.hid hb3; clear ho3 hb3))
        go_roundw
        case rel =>
          refine ⟨k + 1, hlt, by go_num, ?_, Hbl.out.trans Hb3.out⟩
          have h9 := Ho3.out
          rw [E.out, List.length_append]
          exact h9
        case measure => simp [intOf]; omega
    · go_wp2_with fail
      go_ret
      rw [minorTo_end (by have := HL.out; omega)] at hown
      exact ⟨_, rfl, hown, hbl⟩
end Go.Proofs.Ytgcemkpinmjaeaa

namespace Go.Proofs.Ytgcemkpinmjaeaa
open Go.RowKit
set_option linter.all false
theorem sMinor0_any (p : Option Addr) (n c : Nat) (t : List (List Int)) (j m : Nat) (w : World) (h : Intss w p n t) (hr : RowsLen t m) (hj : j < m) (hm : m ≤ 1048576) (hn : n ≤ 1048576) :
    Calls Try.prog 148 #[.slice p n c, .int .i64 0, .int .i64 j] w fun e w' => ∃ v, e = .returned v ∧ OIntss w' w.heap.size v (minorT t 0 j).length (minorT t 0 j) ∧ Below w.heap.size w w' := by
  have := sMinor_any p n c t 0 j m w h hr hj hm hn
  simpa using this

set_option maxHeartbeats 1600000 in
theorem sDet_any (m : Nat) : ∀ (p : Option Addr) (n c : Nat) (t : List (List Int)) (w : World), n = m → m ≤ 9 → Intss w p n t → RowsLen t m →
    Calls Try.prog 173 #[.slice p n c] w fun e w' => e = .returned (.int .i64 (det m t)) ∧ Below w.heap.size w w' := by
  induction m with
  | zero =>
    intro p n c t w hn _ _ _
    subst hn
    go_enter Try.func173, Try.ntmps173
    go_wp2_with fail
    go_ret
    exact ⟨rfl, Below.refl _ _⟩
  | succ m ih =>
    intro p n c t w hn hm h hr
    subst hn
    have HL : Hid (t.length = m + 1) := h.1
    obtain ⟨b0, o0, a0, c0, r0, rfl, hc0, hrow0, hget0⟩ := h.at_ (k := 0) (by omega)
    rw [Nat.add_zero] at hc0
    have HR0 : Hid (r0.length = m + 1) := hr _ _ hget0.out
    have hl1 : r0.length ≤ m + 1 := by have := HR0.out; omega
    have hl2 : m + 1 ≤ r0.length := by have := HR0.out; omega
    have HD : Hid (det (m + 1) t = dloop (det m) t r0 0 0 1) := by
      show det (m + 1) t = _
      have e : t.getD 0 [] = r0 := by rw [List.getD, hget0.out]; rfl
      unfold det
      rw [e]
    have hne : ((m : Int) + 1 == 0) = false := by simp; omega
    have hn0 : 0 < m + 1 := by omega
    have H := Lib.hid h
    have HRL := Lib.hid hr
    have Hrow := Lib.hid hrow0
    have IH := Lib.hid ih
    have Hc0 := Lib.hid hc0
    clear h hr hrow0 ih hc0
    go_enter Try.func173, Try.ntmps173
    go_wp2_with fail
    go_loopw [3, 4, 5] (fun s g i wr => ∃ (j : Nat) (sv gv : Int), j ≤ m + 1 ∧ i = .int .i64 j ∧ s = .int .i64 sv ∧ g = .int .i64 gv ∧ -1 ≤ gv ∧ gv ≤ 1 ∧ Below w.heap.size w wr ∧ Hid (dloop (det m) t (r0.drop j) j sv gv = det (m + 1) t)) (fun _ _ i _ => (m + 1) - (intOf i).toNat)
    case atStart => exact ⟨0, 0, 1, Nat.zero_le _, rfl, rfl, rfl, by omega, by omega, Below.refl _ _, HD.out.symm⟩
    case round =>
      obtain ⟨j, sv, gv, hj, rfl, rfl, rfl, hg1, hg2, hbl, hd⟩ := hrel
      have hc0' := (hbl.cell (World.block_lt_of_cell? w _ Hc0.out)).trans Hc0.out
      by_cases hlt : j < m + 1
      · obtain ⟨b1, o1, x, rfl, hcx, hgetx⟩ := Hrow.out.at_ (k := j) (by omega)
        have hcx' := (hbl.cell (World.block_lt_of_cell? w _ hcx)).trans hcx
        have hjr : j < r0.length := by omega
        by_cases hx0 : x = 0
        · subst hx0
          have hd1 : Hid _ := dloop_zero hgetx.out hd.out
          clear hcx hd
          go_wp2_with fail
          go_roundw
          case rel => exact ⟨j + 1, sv, -gv, hlt, by go_num, rfl, rfl, by omega, by omega, hbl, hd1⟩
          case measure => simp [intOf]; omega
        · have hd1 : Hid _ := dloop_step hgetx.out hx0 hd.out
          have hne2 : (x != 0) = true := by simp [hx0]
          have Hbl := Lib.hid hbl.drew
          have Hcx0 := Lib.hid hcx
          clear hbl hcx hd hx0
          have HML : Hid ((minorT t 0 j).length = m) := by show (minorT t 0 j).length = m; rw [minorT_len (by have := HL.out; omega), HL.out]; omega
          go_wp2_with fail
          go_region_held3 (fun w' => w'.cell? ⟨b0, o0, none⟩ = some (.slice (some ⟨b1, o1, none⟩) r0.length c0) ∧ w'.cell? ⟨b1, o1 + j, none⟩ = some (.int .i64 x)) (first | go_keep | exact ⟨q1, q2⟩ | exact ⟨q3, q4⟩) (first
            | (go_at_call 148; refine (sMinor0_any _ _ _ t j (m + 1) _ (H.out.keep (Hbl.out.mono (Nat.le_refl _))) HRL.out (by omega) (by omega) (by omega)).mono ?_; rintro e w1 ⟨v1, rfl, ho1, hb1⟩; obtain ⟨ao1, cap1, rfl, hi1⟩ := ho1.form; have Hi1 := Lib.hid hi1; have Hb1 := Lib.hid (Hbl.out.trans (hb1.mono Hbl.out.size)); have q1 := (Hb1.out.cell (World.block_lt_of_cell? w _ Hc0.out)).trans Hc0.out; have q2 := (Hb1.out.cell (World.block_lt_of_cell? w _ Hcx0.out)).trans Hcx0.out; clear ho1 hb1 hi1)
            | (go_at_call 173; refine (IH.out _ _ _ (minorT t 0 j) _ HML.out (by omega) Hi1.out (minorT_rowsLen HRL.out (by omega))).mono ?_; rintro e w2 ⟨rfl, hb2⟩; have Hb2 := Lib.hid (Hb1.out.trans (hb2.mono Hb1.out.size)); have q3 := (Hb2.out.cell (World.block_lt_of_cell? w _ Hc0.out)).trans Hc0.out; have q4 := (Hb2.out.cell (World.block_lt_of_cell? w _ Hcx0.out)).trans Hcx0.out; clear hb2))
          go_wp2_with fail
          go_roundw
          case rel => exact ⟨j + 1, _, -gv, hlt, by go_num, rfl, rfl, by omega, by omega, Hb2.out, by simp only [wrap_i64_eq]; exact hd1⟩
          case measure => simp [intOf]; omega
      · go_wp2_with fail
        go_ret
        exact ⟨ret_int (dloop_end (by omega) hd.out), hbl⟩
end Go.Proofs.Ytgcemkpinmjaeaa

namespace Go.Proofs.Ytgcemkpinmjaeaa
open Go.RowKit
set_option linter.all false
set_option maxHeartbeats 800000 in
theorem iIsMatrix_any (ao : Option Addr) (n cap : Nat) (xss : List (List Int)) (w : World) (h : Intss w ao n xss) :
    Calls Try.prog 130 #[.slice ao n cap] w fun e w' => e = .returned (.bool (isMat xss)) ∧ w = w' := by
  have hm := h.2.1
  have HL := Lib.hid h.1
  have H := Lib.hid h
  have hg0 : Hid (isMat xss = (tabIn n 0 1000000 xss && inR n 1 9)) := by show isMat xss = _; unfold isMat; rw [h.1]
  clear h
  by_cases h1 : n < 1
  · have hg : Hid (isMat xss = false) := by show isMat xss = _; rw [hg0.out, inR_no (.inl (by omega))]; simp
    have hd : decide ((n : Int) < 1) = true := by simp; omega
    clear H hg0
    go_enter Try.func130, Try.ntmps130
    go_wp2
    go_ret
    exact ⟨ret_bool hg.out.symm, rfl⟩
  · by_cases h9 : 9 < n
    · have hg : Hid (isMat xss = false) := by show isMat xss = _; rw [hg0.out, inR_no (.inr (by omega))]; simp
      have hd : decide ((n : Int) < 1) = false := by simp; omega
      clear H hg0
      go_enter Try.func130, Try.ntmps130
      go_wp2
      go_ret
      exact ⟨ret_bool hg.out.symm, rfl⟩
    · have hg : Hid (isMat xss = tabIn n 0 1000000 xss) := by show isMat xss = _; rw [hg0.out, inR_mk ⟨by omega, by omega⟩]; simp
      have hd : decide ((n : Int) < 1) = false := by simp; omega
      clear hg0
      go_enter Try.func130, Try.ntmps130
      go_wp2
      go_loop [17] (fun i => ∃ k : Nat, k ≤ n ∧ i = .int .i64 k ∧ Hid (tabIn n 0 1000000 (xss.drop k) = tabIn n 0 1000000 xss)) (fun i => n - (intOf i).toNat)
      case atStart => exact ⟨0, Nat.zero_le _, rfl, rfl⟩
      case round =>
        obtain ⟨k, hk, rfl, hr⟩ := hrel
        by_cases hlt : k < n
        · obtain ⟨b, o, ai, ci, r, rfl, hcell, hrow, hget⟩ := H.out.at_ hlt
          clear H
          have Hst := Lib.hid (tabIn_step hget.out hr.out)
          have Hrow := Lib.hid hrow
          clear hrow hr
          by_cases hrl : r.length = n
          · have hne : ((r.length : Int) != (n : Int)) = false := by simp [hrl]
            have hrl1 : r.length ≤ n := by omega
            have hrl2 : n ≤ r.length := by omega
            have HRL := Lib.hid hrl
            clear hrl
            go_wp2
            go_loop [28] (fun i => ∃ j : Nat, j ≤ r.length ∧ i = .int .i64 j ∧ Hid (allIn 0 1000000 (r.drop j) = allIn 0 1000000 r)) (fun i => n - (intOf i).toNat)
            case atStart => exact ⟨0, Nat.zero_le _, rfl, rfl⟩
            case round =>
              obtain ⟨j, hj, rfl, hrj⟩ := hrel
              by_cases hjr : j < r.length
              · obtain ⟨b', o', x, rfl, hcell', hget'⟩ := Hrow.out.at_ (k := j) hjr
                clear Hrow
                have Hsj := Lib.hid (allIn_step hget'.out hrj.out)
                clear hrj
                by_cases h0 : x < 0
                · have hr1 : Hid _ := Hst.out.2.1 (Hsj.out.2 (inR_no (.inl h0)))
                  clear Hst Hsj
                  have hx : decide (x < 0) = true := by simpa using h0
                  go_wp2
                  go_ret
                  exact ⟨ret_bool (by rw [hg.out, hr1.out]), rfl⟩
                · have hx : decide (x < 0) = false := by simpa using h0
                  by_cases h2 : 1000000 < x
                  · have hr1 : Hid _ := Hst.out.2.1 (Hsj.out.2 (inR_no (.inr h2)))
                    clear Hst Hsj
                    go_wp2
                    go_ret
                    exact ⟨ret_bool (by rw [hg.out, hr1.out]), rfl⟩
                  · have hr1 : Hid _ := Hsj.out.1 (inR_mk ⟨by omega, by omega⟩)
                    clear Hst Hsj
                    go_wp2
                    go_round
                    case rel => exact ⟨j + 1, hjr, by go_num, hr1⟩
                    case measure => simp [intOf]; omega
              · have hr1 : Hid _ := Hst.out.2.2 HRL.out (by have := hrj.out; rw [drop_all r j (by omega)] at this; exact this.symm)
                clear Hst hrj Hrow
                go_wp2
                go_round
                case rel => exact ⟨k + 1, hlt, by go_num, hr1⟩
                case measure => simp [intOf]; omega
          · have hne : ((r.length : Int) != (n : Int)) = true := by simp; omega
            have hr1 : Hid _ := Hst.out.1 hrl
            clear Hst hrl
            go_wp2
            go_ret
            exact ⟨ret_bool (by rw [hg.out, hr1.out]), rfl⟩
        · rw [drop_all xss k (by have := HL.out; omega)] at hr
          have hr1 : Hid _ := hr.out.symm
          clear hr H
          go_wp2
          go_ret
          exact ⟨ret_bool (by rw [hg.out, hr1.out]; rfl), rfl⟩
end Go.Proofs.Ytgcemkpinmjaeaa

namespace Go.Proofs.Ytgcemkpinmjaeaa
open Go.RowKit
set_option linter.all false
set_option maxHeartbeats 800000 in
theorem iSumOf_any (ao : Option Addr) (n cap : Nat) (xss : List (List Int)) (w : World) (h : Intss w ao n xss) :
    Calls Try.prog 167 #[.slice ao n cap] w fun e w' => e = .returned (.int .i64 (sumOf xss)) ∧ w = w' := by
  have hm := h.2.1
  have HL := Lib.hid h.1
  have H := Lib.hid h
  clear h
  cases hmat : isMat xss
  · have hg : Hid (sumOf xss = -1) := by show sumOf xss = _; simp [sumOf, hmat]
    go_enter Try.func167, Try.ntmps167
    go_wp2_with (first | (go_at_call 130; refine (iIsMatrix_any _ _ _ xss _ H.out).mono ?_; rintro e w' ⟨rfl, rfl⟩))
    go_ret
    exact ⟨ret_int hg.out.symm, rfl⟩
  · have hg : Hid (sumOf xss = msum xss) := by show sumOf xss = _; simp [sumOf, hmat]
    have HM := Lib.hid hmat
    have hms := isMat_msum hmat
    go_enter Try.func167, Try.ntmps167
    go_wp2_with (first | (go_at_call 130; refine (iIsMatrix_any _ _ _ xss _ H.out).mono ?_; rintro e w' ⟨rfl, rfl⟩))
    go_loop [3, 11] (fun s i => ∃ (k : Nat) (t : Int), k ≤ n ∧ i = .int .i64 k ∧ s = .int .i64 t ∧ 0 ≤ t ∧ Hid (t + msum (xss.drop k) = msum xss)) (fun _ i => n - (intOf i).toNat)
    case atStart => exact ⟨0, 0, Nat.zero_le _, rfl, rfl, by omega, Int.zero_add _⟩
    case round =>
      obtain ⟨k, t, hk, rfl, rfl, ht, hr⟩ := hrel
      by_cases hlt : k < n
      · obtain ⟨b, o, ai, ci, r, rfl, hcell, hrow, hget⟩ := H.out.at_ hlt
        have Hrow := Lib.hid hrow
        clear hrow H
        have h1 := row_sum HM.out hget.out
        have h2 := rest_nonneg HM.out (k + 1)
        have hd := hr.out
        rw [drop_of_get hget.out, msum_cons] at hd
        have h0 : 0 ≤ isum 0 r := by omega
        have h3 : t + isum 0 r ≤ 81000000 := by omega
        have hr1 : Hid (t + isum 0 r + msum (xss.drop (k + 1)) = msum xss) := by show t + isum 0 r + msum (xss.drop (k + 1)) = msum xss; omega
        clear hr hd h1 h2
        go_wp2_with (first | (go_at_call 116; refine (total_any _ _ _ r _ Hrow.out).mono ?_; rintro e w' ⟨rfl, rfl⟩))
        go_round
        case rel => exact ⟨k + 1, _, hlt, by go_num, rfl, by omega, hr1⟩
        case measure => simp [intOf]; omega
      · go_wp2
        go_ret
        rw [drop_all xss k (by have := HL.out; omega)] at hr
        exact ⟨ret_int (by rw [hg.out, ← hr.out]; simp [msum]), rfl⟩
end Go.Proofs.Ytgcemkpinmjaeaa

namespace Go.Proofs.Ytgcemkpinmjaeaa
open Go.RowKit
set_option linter.all false
set_option maxHeartbeats 800000 in
theorem iIsGraph_any (ao : Option Addr) (n cap : Nat) (xss : List (List Int)) (w : World) (h : Intss w ao n xss) :
    Calls Try.prog 112 #[.slice ao n cap] w fun e w' => e = .returned (.bool (isGraph xss)) ∧ w = w' := by
  have H := Lib.hid h
  clear h
  cases hmat : isMat xss
  · have hg : Hid (isGraph xss = false) := by show isGraph xss = _; simp [isGraph, hmat]
    go_enter Try.func112, Try.ntmps112
    go_wp2_with (first | (go_at_call 130; refine (iIsMatrix_any _ _ _ xss _ H.out).mono ?_; rintro e w' ⟨rfl, rfl⟩))
    go_ret
    exact ⟨ret_bool hg.out.symm, rfl⟩
  · have hg : Hid (isGraph xss = decide (sumOf xss ≤ 60)) := by show isGraph xss = _; simp [isGraph, hmat]
    go_enter Try.func112, Try.ntmps112
    go_wp2_with (first | (go_at_call 130; refine (iIsMatrix_any _ _ _ xss _ H.out).mono ?_; rintro e w' ⟨rfl, rfl⟩) | (go_at_call 167; refine (iSumOf_any _ _ _ xss _ H.out).mono ?_; rintro e w' ⟨rfl, rfl⟩))
    go_ret
    exact ⟨ret_bool hg.out.symm, rfl⟩
end Go.Proofs.Ytgcemkpinmjaeaa

namespace Go.Proofs.Ytgcemkpinmjaeaa
open Go.RowKit
set_option linter.all false
set_option maxHeartbeats 800000 in
theorem weighed_any (p : Option Addr) (n c : Nat) (r : List Int) (p' : Option Addr) (n' c' : Nat) (v : List Int) (w : World) (h : Ints w p n r) (h' : Ints w p' n' v) (hl : n ≤ n') :
    Calls Try.prog 114 #[.slice p n c, .slice p' n' c'] w fun e w' => e = .returned (.int .i64 (wdot 0 r v)) ∧ w = w' := by
  have hm := h.2.1
  have hm' := h'.2.1
  have HL := Lib.hid h.1
  have H := Lib.hid h
  have H' := Lib.hid h'
  clear h h'
  go_enter Try.func114, Try.ntmps114
  go_wp2
  go_loop [5, 10] (fun s i => ∃ (k : Nat) (t : Int), k ≤ n ∧ i = .int .i64 k ∧ s = .int .i64 t ∧ Hid (wdot t (r.drop k) (v.drop k) = wdot 0 r v)) (fun _ i => n - (intOf i).toNat)
  case atStart => exact ⟨0, 0, Nat.zero_le _, rfl, rfl, rfl⟩
  case round =>
    obtain ⟨k, t, hk, rfl, rfl, hr⟩ := hrel
    by_cases hlt : k < n
    · obtain ⟨b, o, x, rfl, hcell, hget⟩ := H.out.at_ hlt
      obtain ⟨b', o', y, rfl, hcell', hget'⟩ := H'.out.at_ (k := k) (by omega)
      have hlt' : k < n' := by omega
      have hr1 : Hid _ := wdot_step hget.out hget'.out hr.out
      clear H H' hr
      go_wp2
      go_round
      case rel => exact ⟨k + 1, _, hlt, by go_num, rfl, hr1⟩
      case measure => simp [intOf]; omega
    · go_wp2
      go_ret
      exact ⟨ret_int (wdot_end (by have := HL.out; omega) hr.out), rfl⟩
end Go.Proofs.Ytgcemkpinmjaeaa

namespace Go.Proofs.Ytgcemkpinmjaeaa
open Go.RowKit
set_option linter.all false
set_option maxHeartbeats 400000 in
theorem isDigit_any (x : Int) (w : World) :
    Calls Try.prog 113 #[.int .i64 x] w fun e w' => e = .returned (.bool (inR x 1 9)) ∧ w = w' := by
  by_cases h : 1 ≤ x
  · have h1 : decide (1 ≤ x) = true := by simpa using h
    have H : Hid (inR x 1 9 = decide (x ≤ 9)) := by show inR x 1 9 = _; simp [inR, h]
    go_enter Try.func113, Try.ntmps113
    go_wp2
    go_ret
    exact ⟨ret_bool H.out.symm, rfl⟩
  · have h1 : decide (1 ≤ x) = false := by simpa using h
    have H : Hid (inR x 1 9 = false) := by show inR x 1 9 = _; simp [inR, h]
    go_enter Try.func113, Try.ntmps113
    go_wp2
    go_ret
    exact ⟨ret_bool H.out.symm, rfl⟩
end Go.Proofs.Ytgcemkpinmjaeaa

namespace Go.Proofs.Ytgcemkpinmjaeaa
open Go.RowKit
set_option linter.all false
set_option maxHeartbeats 400000 in
theorem iVectorSum_any (ao : Option Addr) (n cap : Nat) (xs : List Int) (w : World) (h : Ints w ao n xs) :
    Calls Try.prog 51 #[.slice ao n cap] w fun e w' => e = .returned (.int .i64 (vsum xs)) ∧ w = w' := by
  have H0 := Lib.hid h
  obtain ⟨hn, hm, hc⟩ := h
  subst hn
  by_cases h9 : 9 < xs.length
  · have hg : Hid (vsum xs = -1) := by show vsum xs = -1; simp [vsum, h9]
    clear H0 hc
    go_enter Try.func51, Try.ntmps51
    go_wp2
    go_ret
    exact ⟨ret_int hg.out.symm, rfl⟩
  · have hg : Hid (vsum xs = if all9 xs then isum 0 xs else -1) := by show vsum xs = _; simp [vsum, h9]
    go_enter Try.func51, Try.ntmps51
    go_wp2
    go_loop [10] (fun i => ∃ (k : Nat), k ≤ xs.length ∧ i = .int .i64 k ∧ Hid (all9 (xs.drop k) = all9 xs)) (fun i => xs.length - (intOf i).toNat)
    case atStart => exact ⟨0, Nat.zero_le _, rfl, rfl⟩
    case round =>
      obtain ⟨k, hk, rfl, hr⟩ := hrel
      by_cases hlt : k < xs.length
      · obtain ⟨b, of, rfl, hcell⟩ := hc k hlt
        clear hc H0
        have Hst := Lib.hid (all9_step hlt hr.out)
        clear hr
        by_cases h0 : xs[k] < 0
        · have hr1 : Hid _ := Hst.out.2 (inR_no (.inl h0))
          clear Hst
          go_wp2
          go_ret
          exact ⟨ret_int (by rw [hg.out, hr1.out]; rfl), rfl⟩
        · by_cases h1 : 9 < xs[k]
          · have hr1 : Hid _ := Hst.out.2 (inR_no (.inr h1))
            clear Hst
            have hd : decide (xs[k] < 0) = false := by simpa using h0
            go_wp2
            go_ret
            exact ⟨ret_int (by rw [hg.out, hr1.out]; rfl), rfl⟩
          · have hr1 : Hid _ := Hst.out.1 (inR_mk ⟨by omega, by omega⟩)
            clear Hst
            have hd : decide (xs[k] < 0) = false := by simpa using h0
            go_wp2
            go_round
            case rel => exact ⟨k + 1, hlt, by go_num, hr1⟩
            case measure => simp [intOf]; omega
      · go_wp2_with (first | (go_at_call 116; refine (total_any _ _ _ xs _ H0.out).mono ?_; rintro e w' ⟨rfl, rfl⟩))
        go_ret
        rw [drop_all xs k (by omega)] at hr
        exact ⟨ret_int (by rw [hg.out, ← hr.out]; rfl), rfl⟩
end Go.Proofs.Ytgcemkpinmjaeaa

namespace Go.Proofs.Ytgcemkpinmjaeaa
open Go.RowKit
set_option linter.all false
set_option maxHeartbeats 1600000 in
theorem iIsVector_any (p : Option Addr) (n c : Nat) (m : List (List Int)) (a : Int) (p' : Option Addr) (n' c' : Nat) (v : List Int) (w : World) (h : Intss w p n m) (h' : Ints w p' n' v) :
    Calls Try.prog 47 #[.slice p n c, .int .i64 a, .slice p' n' c'] w fun e w' => e = .returned (.bool (isVec m a v)) ∧ Drew w w' := by
  have hm := h.2.1
  have hm' := h'.2.1
  have HL := Lib.hid h.1
  have HL' := Lib.hid h'.1
  have H := Lib.hid h
  have H' := Lib.hid h'
  clear h h'
  cases hgr : isGraph m
  · have hg : Hid (isVec m a v = false) := by show isVec m a v = _; simp [isVec, hgr]
    go_enter Try.func47, Try.ntmps47
    go_wp2_with (first | (go_at_call 112; refine (iIsGraph_any _ _ _ m _ H.out).mono ?_; rintro e w' ⟨rfl, rfl⟩))
    go_ret
    exact ⟨ret_bool hg.out.symm, Drew.refl w⟩
  cases hin : inR a 1 9
  · have hg : Hid (isVec m a v = false) := by show isVec m a v = _; simp [isVec, hin]
    go_enter Try.func47, Try.ntmps47
    go_wp2_with (first | (go_at_call 112; refine (iIsGraph_any _ _ _ m _ H.out).mono ?_; rintro e w' ⟨rfl, rfl⟩) | (go_at_call 113; refine (isDigit_any _ _).mono ?_; rintro e w' ⟨rfl, rfl⟩))
    go_ret
    exact ⟨ret_bool hg.out.symm, Drew.refl w⟩
  by_cases hnn : n' = n
  · subst hnn
    have hvl : v.length = m.length := by rw [HL.out, HL'.out]
    have hne : ((n' : Int) != (n' : Int)) = false := by simp
    have hn9 : v.length ≤ 9 := by
      have := hgr
      simp only [isGraph, Bool.and_eq_true] at this
      have := (isMat_len this.1).2
      omega
    have hvs := vsum_small hn9
    by_cases hz : vsum v < 1
    · have hg : Hid (isVec m a v = false) := by
        show isVec m a v = _
        unfold isVec
        rcases hvs.1 hz with h9 | h9
        · rw [h9]; simp
        · rw [h9]; simp
      have hd : decide (vsum v < 1) = true := by simpa using hz
      clear hvl hn9 hvs hz
      go_enter Try.func47, Try.ntmps47
      go_wp2_with (first | (go_at_call 112; refine (iIsGraph_any _ _ _ m _ H.out).mono ?_; rintro e w' ⟨rfl, rfl⟩) | (go_at_call 113; refine (isDigit_any _ _).mono ?_; rintro e w' ⟨rfl, rfl⟩) | (go_at_call 51; refine (iVectorSum_any _ _ _ v _ H'.out).mono ?_; rintro e w' ⟨rfl, rfl⟩))
      go_ret
      exact ⟨ret_bool hg.out.symm, Drew.refl w⟩
    · have hg : Hid (isVec m a v = vrows a v m v) := by
        show isVec m a v = _
        have hq : ¬ (all9 v = false ∨ vsum v = 0) := fun e => hz (hvs.2 e)
        have h9 : all9 v = true := by
          cases h9 : all9 v with
          | true => rfl
          | false => exact absurd (.inl h9) hq
        have h0 : vsum v ≠ 0 := fun e => hq (.inr e)
        have h0' : (vsum v == 0) = false := by simpa using h0
        unfold isVec
        rw [hgr, hin, h9, h0']
        simp [hvl]
      have hd : decide (vsum v < 1) = false := by simpa using hz
      have HG := Lib.hid hgr
      clear hvl hn9 hvs hz
      go_enter Try.func47, Try.ntmps47
      go_wp2_with (first | (go_at_call 112; refine (iIsGraph_any _ _ _ m _ H.out).mono ?_; rintro e w' ⟨rfl, rfl⟩) | (go_at_call 113; refine (isDigit_any _ _).mono ?_; rintro e w' ⟨rfl, rfl⟩) | (go_at_call 51; refine (iVectorSum_any _ _ _ v _ H'.out).mono ?_; rintro e w' ⟨rfl, rfl⟩))
      clear hgr hin hd
      go_loopw [31] (fun i wr => ∃ k : Nat, k ≤ n' ∧ i = .int .i64 k ∧ Drew w wr ∧ Hid (vrows a v (m.drop k) (v.drop k) = vrows a v m v)) (fun i _ => n' - (intOf i).toNat)
      case atStart => exact ⟨0, Nat.zero_le _, rfl, Drew.refl w, rfl⟩
      case round =>
        obtain ⟨k, hk, rfl, ⟨q, rfl⟩, hr⟩ := hrel
        by_cases hlt : k < n'
        · obtain ⟨b, o, ai, ci, r, rfl, hcell, hrow, hget⟩ := H.out.at_ hlt
          obtain ⟨b', o', y, rfl, hcell', hget'⟩ := H'.out.at_ hlt
          have HR : Hid (r.length = n') := by
            have := HG.out
            simp only [isGraph, Bool.and_eq_true] at this
            have := (isMat_row this.1 hget.out).1
            show r.length = n'
            rw [this, HL.out]
          have Hrow := Lib.hid hrow
          have Hst := Lib.hid (vrows_step hget.out hget'.out hr.out)
          clear hrow hr
          by_cases ht : wdot 0 r v < wrap64 (a * y)
          · have hr1 : Hid _ := Hst.out.1 ht
            have hd : decide (wdot 0 r v < wrap64 (a * y)) = true := by simpa using ht
            clear Hst ht
            go_wp2_with fail
            go_quiet ((go_at_call 114; exact quiet_La (weighed_any _ _ _ r _ _ _ v _ Hrow.out H'.out (Nat.le_of_eq HR.out))))
            go_wp2
            go_ret
            exact ⟨ret_bool (hr1.out.symm.trans hg.out.symm), (by first | exact Drew.refl _ | exact Drew.mk _ _ | exact (Drew.mk _ _).drewN _)⟩
          · have hr1 : Hid _ := Hst.out.2 ht
            have hd : decide (wdot 0 r v < wrap64 (a * y)) = false := by simpa using ht
            clear Hst ht
            go_wp2_with fail
            go_quiet ((go_at_call 114; exact quiet_La (weighed_any _ _ _ r _ _ _ v _ Hrow.out H'.out (Nat.le_of_eq HR.out))))
            go_wp2
            go_roundw
            case rel => exact ⟨k + 1, hlt, by go_num, (by first | exact Drew.refl _ | exact Drew.mk _ _ | exact (Drew.mk _ _).drewN _), hr1⟩
            case measure => simp [intOf]; omega
        · have hr1 : Hid _ := vrows_end (by have := HL.out; omega) hr.out
          clear hr
          go_wp2
          go_ret
          exact ⟨ret_bool (by rw [hg.out, hr1.out]), (by first | exact Drew.refl _ | exact Drew.mk _ _ | exact (Drew.mk _ _).drewN _)⟩
  · have hg : Hid (isVec m a v = false) := by
      show isVec m a v = _
      have : ¬ v.length = m.length := by rw [HL.out, HL'.out]; exact hnn
      simp [isVec, this]
    have hne : ((n' : Int) != (n : Int)) = true := by simp; omega
    clear hnn
    go_enter Try.func47, Try.ntmps47
    go_wp2_with (first | (go_at_call 112; refine (iIsGraph_any _ _ _ m _ H.out).mono ?_; rintro e w' ⟨rfl, rfl⟩) | (go_at_call 113; refine (isDigit_any _ _).mono ?_; rintro e w' ⟨rfl, rfl⟩))
    go_ret
    exact ⟨ret_bool hg.out.symm, Drew.refl w⟩
end Go.Proofs.Ytgcemkpinmjaeaa

namespace Go.Proofs.Ytgcemkpinmjaeaa
open Go.RowKit
set_option linter.all false
set_option maxHeartbeats 1600000 in
theorem sIsVector_any (p : Option Addr) (n c : Nat) (m : List (List Int)) (a : Int) (p' : Option Addr) (n' c' : Nat) (v : List Int) (w : World) (h : Intss w p n m) (h' : Ints w p' n' v) :
    Calls Try.prog 48 #[.slice p n c, .int .i64 a, .slice p' n' c'] w fun e w' => e = .returned (.bool (isVec m a v)) ∧ Drew w w' := by
  have hm := h.2.1
  have hm' := h'.2.1
  have HL := Lib.hid h.1
  have HL' := Lib.hid h'.1
  have H := Lib.hid h
  have H' := Lib.hid h'
  clear h h'
  cases hgr : isGraph m
  · have hg : Hid (isVec m a v = false) := by show isVec m a v = _; simp [isVec, hgr]
    go_enter Try.func48, Try.ntmps48
    go_wp2_with (first | (go_at_call 117; refine (sIsGraph_any _ _ _ m _ H.out).mono ?_; rintro e w' ⟨rfl, rfl⟩))
    go_ret
    exact ⟨ret_bool hg.out.symm, Drew.refl w⟩
  cases hin : inR a 1 9
  · have hg : Hid (isVec m a v = false) := by show isVec m a v = _; simp [isVec, hin]
    go_enter Try.func48, Try.ntmps48
    go_wp2_with (first | (go_at_call 117; refine (sIsGraph_any _ _ _ m _ H.out).mono ?_; rintro e w' ⟨rfl, rfl⟩) | (go_at_call 76; refine (l1In_any _ _ _ _).mono ?_; rintro e w' ⟨rfl, rfl⟩))
    go_ret
    exact ⟨ret_bool hg.out.symm, Drew.refl w⟩
  cases hfit : (all9 v && ((n' : Int) == (n : Int)))
  · have hg : Hid (isVec m a v = false) := by
      show isVec m a v = _
      have e1 : ((n' : Int) == (n : Int)) = decide (v.length = m.length) := by rw [Bool.eq_iff_iff]; simp [HL.out, HL'.out]; omega
      rw [e1] at hfit
      unfold isVec
      cases h9 : all9 v
      · simp
      · rw [h9, Bool.true_and] at hfit
        rw [hfit]
        simp
    have HF := Lib.hid hfit
    clear hfit
    go_enter Try.func48, Try.ntmps48
    go_wp2_with (first | (go_at_call 117; refine (sIsGraph_any _ _ _ m _ H.out).mono ?_; rintro e w' ⟨rfl, rfl⟩) | (go_at_call 76; refine (l1In_any _ _ _ _).mono ?_; rintro e w' ⟨rfl, rfl⟩) | (go_at_call 122; refine (l26Fits_any _ _ _ v _ _ H'.out).mono ?_; rw [HF.out]; rintro e w' ⟨rfl, rfl⟩))
    go_ret
    exact ⟨ret_bool hg.out.symm, Drew.refl w⟩
  have HF := Lib.hid hfit
  have hnn : n' = n := by have := hfit; simp only [Bool.and_eq_true, beq_iff_eq] at this; omega
  have h9 : Hid (all9 v = true) := by have := hfit; simp only [Bool.and_eq_true] at this; exact this.1
  clear hfit
  subst hnn
  have hvl : v.length = m.length := by rw [HL.out, HL'.out]
  cases hz : (vsum v == 0)
  · have hg : Hid (isVec m a v = vrows a v m v) := by
      show isVec m a v = _
      unfold isVec
      rw [hgr, hin, hz, h9.out]
      simp [hvl]
    have HG := Lib.hid hgr
    clear hvl
    go_enter Try.func48, Try.ntmps48
    go_wp2_with (first | (go_at_call 117; refine (sIsGraph_any _ _ _ m _ H.out).mono ?_; rintro e w' ⟨rfl, rfl⟩) | (go_at_call 76; refine (l1In_any _ _ _ _).mono ?_; rintro e w' ⟨rfl, rfl⟩) | (go_at_call 122; refine (l26Fits_any _ _ _ v _ _ H'.out).mono ?_; rw [HF.out]; rintro e w' ⟨rfl, rfl⟩) | (go_at_call 52; refine (sVectorSum_any _ _ _ v _ H'.out).mono ?_; rintro e w' ⟨rfl, rfl⟩))
    clear hgr hin hz
    go_loopw [7] (fun i wr => ∃ k : Nat, k ≤ n' ∧ i = .int .i64 k ∧ Drew w wr ∧ Hid (vrows a v (m.drop k) (v.drop k) = vrows a v m v)) (fun i _ => n' - (intOf i).toNat)
    case atStart => exact ⟨0, Nat.zero_le _, rfl, Drew.refl w, rfl⟩
    case round =>
      obtain ⟨k, hk, rfl, ⟨q, rfl⟩, hr⟩ := hrel
      by_cases hlt : k < n'
      · obtain ⟨b, o, ai, ci, r, rfl, _, hrow, hget⟩ := H.out.at_ hlt
        obtain ⟨b', o', y, rfl, hcell', hget'⟩ := H'.out.at_ hlt
        have HR : Hid (r.length = n') := by
          have := HG.out
          simp only [isGraph, Bool.and_eq_true] at this
          have := (isMat_row this.1 hget.out).1
          show r.length = n'
          rw [this, HL.out]
        have Hst := Lib.hid (vrows_step hget.out hget'.out hr.out)
        clear hrow hr
        by_cases ht : wdot 0 r v < wrap64 (a * y)
        · have hr1 : Hid _ := Hst.out.1 ht
          have hd : decide (wdot 0 r v < wrap64 (a * y)) = true := by simpa using ht
          clear Hst ht
          go_wp2_with fail
          go_quiet ((go_at_call 119; exact quiet_Da (l26Row_any _ _ _ m _ _ _ v _ k r _ H.out H'.out rfl hget.out HR.out (Nat.le_refl _))))
          go_wp2
          go_ret
          exact ⟨ret_bool (hr1.out.symm.trans hg.out.symm), (by first | exact Drew.refl _ | exact Drew.mk _ _ | exact (Drew.mk _ _).drewN _)⟩
        · have hr1 : Hid _ := Hst.out.2 ht
          have hd : decide (wdot 0 r v < wrap64 (a * y)) = false := by simpa using ht
          clear Hst ht
          go_wp2_with fail
          go_quiet ((go_at_call 119; exact quiet_Da (l26Row_any _ _ _ m _ _ _ v _ k r _ H.out H'.out rfl hget.out HR.out (Nat.le_refl _))))
          go_wp2
          go_roundw
          case rel => exact ⟨k + 1, hlt, by go_num, (by first | exact Drew.refl _ | exact Drew.mk _ _ | exact (Drew.mk _ _).drewN _), hr1⟩
          case measure => simp [intOf]; omega
      · have hr1 : Hid _ := vrows_end (by have := HL.out; omega) hr.out
        clear hr
        go_wp2
        go_ret
        exact ⟨ret_bool (by rw [hg.out, hr1.out]), (by first | exact Drew.refl _ | exact Drew.mk _ _ | exact (Drew.mk _ _).drewN _)⟩
  · have hg : Hid (isVec m a v = false) := by show isVec m a v = _; unfold isVec; rw [hz]; simp
    clear hvl
    go_enter Try.func48, Try.ntmps48
    go_wp2_with (first | (go_at_call 117; refine (sIsGraph_any _ _ _ m _ H.out).mono ?_; rintro e w' ⟨rfl, rfl⟩) | (go_at_call 76; refine (l1In_any _ _ _ _).mono ?_; rintro e w' ⟨rfl, rfl⟩) | (go_at_call 122; refine (l26Fits_any _ _ _ v _ _ H'.out).mono ?_; rw [HF.out]; rintro e w' ⟨rfl, rfl⟩) | (go_at_call 52; refine (sVectorSum_any _ _ _ v _ H'.out).mono ?_; rintro e w' ⟨rfl, rfl⟩))
    go_ret
    exact ⟨ret_bool hg.out.symm, Drew.refl w⟩
end Go.Proofs.Ytgcemkpinmjaeaa

namespace Go.Proofs.Ytgcemkpinmjaeaa
open Go.RowKit
set_option linter.all false
set_option maxHeartbeats 3200000 in
theorem iTimes_any (pa : Option Addr) (na ca : Nat) (a : List (List Int)) (pb : Option Addr) (nb cb : Nat) (b : List (List Int)) (c : Nat) (w : World) (ha : Intss w pa na a) (hb : Intss w pb nb b)
    (hra : RowsLen a nb) (hrb : RowsLen b c) (hna : na ≤ 1048576) (hc : c ≤ 1048576) (hnb : 0 < nb) :
    Calls Try.prog 140 #[.slice pa na ca, .slice pb nb cb] w fun e w' => ∃ v, e = .returned v ∧ OIntss w' w.heap.size v na (mulT a b c) ∧ Below w.heap.size w w' := by
  have hmb := hb.2.1
  have HA := Lib.hid ha
  have HB := Lib.hid hb
  have HRA := Lib.hid hra
  have HRB := Lib.hid hrb
  have HLA : Hid (a.length = na) := ha.1
  have HLB : Hid (b.length = nb) := hb.1
  obtain ⟨b0, o0, a0, c0, r0, rfl, hc0, hrow0, hget0⟩ := hb.at_ hnb
  have hr0 : r0.length = c := hrb _ _ hget0.out
  rw [hr0, Nat.add_zero] at hc0
  have HC0 := Lib.hid hc0
  clear ha hb hra hrb hrow0 hget0 hr0 hc0
  have hmk := make_ints c (by omega)
  go_enter Try.func140, Try.ntmps140
  go_wp2_with fail
  go_loopw [5, 16] (fun v i wr => ∃ k : Nat, k ≤ na ∧ i = .int .i64 k ∧ OIntss wr w.heap.size v k ((mulT a b c).take k) ∧ Below w.heap.size w wr) (fun _ i _ => na - (intOf i).toNat)
  case atStart => exact ⟨0, Nat.zero_le _, rfl, OIntss.empty w _ (Nat.le_refl _), (Below.refl _ _).alloc (Nat.le_refl _) _⟩
  case round =>
    obtain ⟨i, hi, rfl, hown, hbl⟩ := hrel
    obtain ⟨wo, rfl⟩ : ∃ wo : World, wo = wr := ⟨_, rfl⟩
    by_cases hlt : i < na
    · obtain ⟨b1, o1, a1, c1, ra, rfl, hca, hrow, hgeta⟩ := HA.out.at_ hlt
      have Hrow := Lib.hid hrow
      have HRL : Hid (ra.length = nb) := HRA.out _ _ hgeta.out
      have hrl1 : ra.length ≤ nb := by have := HRL.out; omega
      have h1 := (hbl.cell (World.block_lt_of_cell? w _ hca)).trans hca
      have h0 := (hbl.cell (World.block_lt_of_cell? w _ HC0.out)).trans HC0.out
      have Hown := Lib.hid hown
      have Hbl := Lib.hid hbl
      clear hrow hca hown hbl
      go_wp2_with fail
      clear h1 h0
      have hmade := OInts.made wo c (by omega)
      rw [← wline_zero b ra] at hmade
      go_loopw [27] (fun i' wx => ∃ k : Nat, k ≤ ra.length ∧ i' = .int .i64 k ∧ OInts wx wo.heap.size (.slice (some ⟨wo.heap.size, 0, none⟩) c c) c (wline b ra c k) ∧ Below wo.heap.size wo wx) (fun i _ => ra.length - (intOf i).toNat)
      case atStart => exact ⟨0, Nat.zero_le _, rfl, hmade, (Below.refl _ _).alloc (Nat.le_refl _) _⟩
      case round =>
        obtain ⟨k, hk, rfl, hline, hbx⟩ := hrel
        clear hmade
        have hbw := Hbl.out.trans (hbx.mono Hbl.out.size)
        by_cases hkr : k < ra.length
        · obtain ⟨b2, o2, a2, c2, rb, e, hcb, hrowb, hgetb⟩ := HB.out.at_ (k := k) (by omega)
          injection e with e
          injection e with e1 e2
          subst e1
          subst e2
          have hrbl : rb.length = c := HRB.out _ _ hgetb.out
          obtain ⟨b3, o3, x, rfl, hcx, hgetx⟩ := Hrow.out.at_ (k := k) hkr
          have h2 := (hbw.cell (World.block_lt_of_cell? w _ hcb)).trans hcb
          have h3 := (hbw.cell (World.block_lt_of_cell? w _ hcx)).trans hcx
          have hkb : k < nb := by omega
          have hlc1 : rb.length ≤ c := by omega
          have hlc2 : c ≤ rb.length := by omega
          have Hrowb := Lib.hid hrowb
          have Hline := Lib.hid hline
          have Hbx := Lib.hid hbx
          clear hrowb hrbl hcb hcx hline hbx hbw
          go_wp2_with fail
          clear h2 h3
          go_loopw [37] (fun i' wy => ∃ j : Nat, j ≤ rb.length ∧ i' = .int .i64 j ∧ OInts wy wo.heap.size (.slice (some ⟨wo.heap.size, 0, none⟩) c c) c ((wline b ra c (k + 1)).take j ++ (wline b ra c k).drop j) ∧ Below wo.heap.size wo wy) (fun i _ => c - (intOf i).toNat)
          case atStart => exact ⟨0, Nat.zero_le _, rfl, by simpa using Hline.out, Hbx.out⟩
          case round =>
            obtain ⟨j, hj, rfl, hline, hbx⟩ := hrel
            clear Hline Hbx
            have hbw := Hbl.out.trans (hbx.mono Hbl.out.size)
            by_cases hjc : j < rb.length
            · obtain ⟨b4, o4, y, rfl, hcy, hgety⟩ := Hrowb.out.at_ (k := j) hjc
              have HW : Hid (wd b ra (k + 1) j = wrap64 (wd b ra k j + wrap64 (x * y))) := wd_succ hgetx.out hgetb.out hgety.out
              have h4 := (hbw.cell (World.block_lt_of_cell? w _ hcy)).trans hcy
              have hjc' : j < c := by omega
              have h6 := hline.cell j hjc'
              rw [List.getD, mix_get (by rw [wline_len]; omega) (wline_get hjc'), Option.getD_some] at h6
              have h7 := hline.frozen j
              have hset := hline.set j (wd b ra (k + 1) j)
              rw [mix_set (wline_get hjc') (wline_get hjc')] at hset
              have hb' := hbx.setCell (p := ⟨wo.heap.size, j, none⟩) (Nat.le_refl _) (.int .i64 (wd b ra (k + 1) j))
              have Hset := Lib.hid hset
              have Hb' := Lib.hid hb'
              clear hset hb' hline hbx hbw hcy
              go_wp2_with fail
              go_roundw
              case rel => exact ⟨j + 1, hjc, by go_num, by rw [← HW.out]; first | exact Hset.out | exact Hset.out.drewN 1, by rw [← HW.out]; first | exact Hb'.out | exact Hb'.out.drew⟩
              case measure => simp [intOf]; omega
            · have hjc' : j = c := by omega
              subst hjc'
              rw [mix_end (wline_len b ra j (k + 1)) (wline_len b ra j k)] at hline
              have Hline := Lib.hid hline
              have Hbx := Lib.hid hbx
              clear hline hbx hbw
              go_wp2_with fail
              go_roundw
              case rel => exact ⟨k + 1, hkr, by go_num, Hline.out, Hbx.out⟩
              case measure => simp [intOf]; omega
        · rw [wline_end (by omega) (by have := HLB.out; have := HRL.out; omega)] at hline
          have Hline := Lib.hid hline
          have Hbx := Lib.hid hbx
          clear hline hbx hbw
          go_wp2_with (first | (at_builtin; refine wpList_push_fresh _ _ wo rfl _ _ rfl w.heap.size _ i _ rfl Hown.out (by omega) Hbl.out.size Hbx.out c _ Hline.out _ ?ctb rfl ?_))
          case ctb => rfl
          intro v' w' hown' hbel _
          rw [push_take (mulT_get hgeta.out)] at hown'
          have hb' := Hbl.out.trans hbel
          go_wp2_with fail
          go_roundw
          case rel => exact ⟨i + 1, hlt, by go_num, hown', hb'⟩
          case measure => simp [intOf]; omega
    · have Hown := Lib.hid hown
      have Hbl := Lib.hid hbl
      clear hown hbl
      go_wp2_with fail
      go_ret
      have : i = na := by omega
      subst this
      have h := Hown.out
      rw [List.take_of_length_le (by rw [mulT_len]; have := HLA.out; omega)] at h
      exact ⟨_, rfl, h, Hbl.out⟩
end Go.Proofs.Ytgcemkpinmjaeaa

namespace Go.Proofs.Ytgcemkpinmjaeaa
open Go.RowKit
set_option linter.all false
set_option maxHeartbeats 800000 in
theorem iChecked_any (p : Option Addr) (n c : Nat) (a : List (List Int)) (lo : Nat) (w : World) (h : OIntss w lo (.slice p n c) n a) :
    Calls Try.prog 202 #[.slice p n c] w fun e w' => ∃ v, e = .returned (.tuple #[v, .bool (isMat a)]) ∧ OIntss w' lo v (if isMat a then a else []).length (if isMat a then a else []) ∧ w = w' := by
  obtain ⟨ao, cap, e, hi⟩ := h.form
  injection e with e1 e2 e3
  subst e1
  subst e3
  have Hi := Lib.hid hi
  have H := Lib.hid h
  clear h hi
  cases h1 : isMat a
  · go_enter Try.func202, Try.ntmps202
    go_wp2_with (first | (go_at_call 130; refine (iIsMatrix_any _ _ _ a _ Hi.out).mono ?_; rintro e w' ⟨rfl, rfl⟩))
    go_ret2
    exact ⟨_, rfl, OIntss.none_ _ _, rfl⟩
  · go_enter Try.func202, Try.ntmps202
    go_wp2_with (first | (go_at_call 130; refine (iIsMatrix_any _ _ _ a _ Hi.out).mono ?_; rintro e w' ⟨rfl, rfl⟩))
    go_ret2
    refine ⟨_, rfl, ?_, rfl⟩
    show OIntss w lo _ a.length a
    rw [H.out.len]
    exact H.out

set_option maxHeartbeats 1600000 in
theorem iMulM_any (pa : Option Addr) (na ca : Nat) (a : List (List Int)) (pb : Option Addr) (nb cb : Nat) (b : List (List Int)) (w : World) (ha : Intss w pa na a) (hb : Intss w pb nb b) :
    Calls Try.prog 172 #[.slice pa na ca, .slice pb nb cb] w fun e w' => ∃ v, e = .returned (.tuple #[v, .bool (mulM a b).isSome]) ∧ OIntss w' w.heap.size v ((mulM a b).getD []).length ((mulM a b).getD []) ∧ Below w.heap.size w w' := by
  have hma := ha.2.1
  have hmb := hb.2.1
  have HA := Lib.hid ha
  have HB := Lib.hid hb
  have HLA : Hid (a.length = na) := ha.1
  have HLB : Hid (b.length = nb) := hb.1
  clear ha hb
  cases h1 : isMat a
  · have hg : Hid (mulM a b = none) := mulM_none1 h1
    go_enter Try.func172, Try.ntmps172
    go_wp2_with (first | (go_at_call 130; refine (iIsMatrix_any _ _ _ a _ HA.out).mono ?_; rintro e w' ⟨rfl, rfl⟩))
    go_ret2
    rw [hg.out]
    exact ⟨_, rfl, OIntss.none_ _ _, Below.refl _ _⟩
  cases h2 : isMat b
  · have hg : Hid (mulM a b = none) := mulM_none2 h2
    go_enter Try.func172, Try.ntmps172
    go_wp2_with fail
    refine (iIsMatrix_any _ _ _ a _ HA.out).mono ?_
    rintro e w' ⟨rfl, rfl⟩
    go_wp2_with fail
    refine (iIsMatrix_any _ _ _ b _ HB.out).mono ?_
    rintro e w' ⟨rfl, rfl⟩
    go_wp2_with fail
    go_ret2
    rw [hg.out]
    exact ⟨_, rfl, OIntss.none_ _ _, Below.refl _ _⟩
  by_cases hn : na = nb
  · subst hn
    have hne : ((na : Int) != (na : Int)) = false := by simp
    have hn9 : na ≤ 9 := by have := isMat_len h1; have := HLA.out; omega
    have hn0 : 0 < na := by have := isMat_len h1; have := HLA.out; omega
    have HRA := Lib.hid (isMat_rowsLen h1 HLA.out)
    have HRB := Lib.hid (isMat_rowsLen h2 HLB.out)
    have hg : Hid (mulM a b = if isMat (mulT a b na) then some (mulT a b na) else none) := by
      show mulM a b = _
      unfold mulM
      rw [h1, h2, HLA.out, HLB.out]
      simp
    go_enter Try.func172, Try.ntmps172
    go_wp2_with fail
    refine (iIsMatrix_any _ _ _ a _ HA.out).mono ?_
    rintro e w' ⟨rfl, rfl⟩
    go_wp2_with fail
    refine (iIsMatrix_any _ _ _ b _ HB.out).mono ?_
    rintro e w' ⟨rfl, rfl⟩
    go_wp2_with fail
    clear h1 h2
    refine (iTimes_any _ _ _ a _ _ _ b na _ HA.out HB.out HRA.out HRB.out (by omega) (by omega) hn0).mono ?_
    rintro e w1 ⟨v, rfl, hown, hbl⟩
    obtain ⟨ao, cap, rfl, hi⟩ := hown.form
    have Hown := Lib.hid hown
    have Hbl := Lib.hid hbl
    clear hown hbl hi
    go_wp2_with fail
    refine (iChecked_any _ _ _ (mulT a b na) _ _ Hown.out).mono ?_
    rintro e w' ⟨v, rfl, hv, rfl⟩
    have Hv := Lib.hid hv
    clear hv
    go_wp2_with fail
    go_ret2
    rw [hg.out]
    refine ⟨v, ?_, ?_, Hbl.out⟩
    · cases isMat (mulT a b na) <;> rfl
    · have := Hv.out
      revert this
      cases isMat (mulT a b na) <;> exact id
  · have hg : Hid (mulM a b = none) := mulM_none3 (by rw [HLA.out, HLB.out]; exact hn)
    have hne : ((na : Int) != (nb : Int)) = true := by simp; omega
    clear hn
    go_enter Try.func172, Try.ntmps172
    go_wp2_with fail
    refine (iIsMatrix_any _ _ _ a _ HA.out).mono ?_
    rintro e w' ⟨rfl, rfl⟩
    go_wp2_with fail
    refine (iIsMatrix_any _ _ _ b _ HB.out).mono ?_
    rintro e w' ⟨rfl, rfl⟩
    go_wp2_with fail
    go_ret2
    rw [hg.out]
    exact ⟨_, rfl, OIntss.none_ _ _, Below.refl _ _⟩
end Go.Proofs.Ytgcemkpinmjaeaa

namespace Go.Proofs.Ytgcemkpinmjaeaa
open Go.RowKit
set_option linter.all false
set_option maxHeartbeats 1600000 in
theorem iZeros_any (n : Nat) (w : World) (hn : n ≤ 1048576) :
    Calls Try.prog 201 #[.int .i64 n] w fun e w' => ∃ v, e = .returned v ∧ OIntss w' w.heap.size v n (List.replicate n (List.replicate n 0)) ∧ Below w.heap.size w w' := by
  have hmk := make_ints n (by omega)
  go_enter Try.func201, Try.ntmps201
  go_wp2
  go_loopw [3, 6] (fun v i wr => ∃ k : Nat, k ≤ n ∧ i = .int .i64 k ∧ OIntss wr w.heap.size v k (List.replicate k (List.replicate n 0)) ∧ Below w.heap.size w wr) (fun _ i _ => n - (intOf i).toNat)
  case atStart => exact ⟨0, Nat.zero_le _, rfl, OIntss.empty w _ (Nat.le_refl _), (Below.refl _ _).alloc (Nat.le_refl _) _⟩
  case round =>
    obtain ⟨k, hk, rfl, hown, hb⟩ := hrel
    by_cases hlt : k < n
    · have Hown := Lib.hid hown
      have Hb := Lib.hid hb
      clear hown hb
      go_wp2_with (first | (at_builtin; refine wpList_push_fresh _ _ wr rfl _ _ rfl w.heap.size _ k _ rfl Hown.out (by omega) Hb.out.size ((Below.refl _ _).alloc (Nat.le_refl _) _) n _ (OInts.made wr n (by omega)) _ ?ctb rfl ?_))
      case ctb => simp
      intro v' w' hown' hbel _
      rw [rep_push] at hown'
      have hb' := Hb.out.trans hbel
      go_wp2_with fail
      go_roundw
      case rel => exact ⟨k + 1, hlt, by go_num, hown', hb'⟩
      case measure => simp [intOf]; omega
    · go_wp2
      go_ret
      have : k = n := by omega
      subst this
      exact ⟨_, rfl, hown, hb⟩
end Go.Proofs.Ytgcemkpinmjaeaa

namespace Go.Proofs.Ytgcemkpinmjaeaa
open Go.RowKit
set_option linter.all false
set_option maxHeartbeats 1600000 in
theorem iUnit_any (n : Nat) (w : World) (hn : n ≤ 1048576) :
    Calls Try.prog 171 #[.int .i64 n] w fun e w' => ∃ v, e = .returned v ∧ OIntss w' w.heap.size v n (oneT n) ∧ Below w.heap.size w w' := by
  go_enter Try.func171, Try.ntmps171
  go_wp2_with fail
  refine (iZeros_any n _ hn).mono ?_
  rintro e w1 ⟨v, rfl, hown, hb⟩
  obtain ⟨ao, cap, rfl, _⟩ := hown.form
  go_wp2_with fail
  go_loopw [9] (fun i wr => ∃ k : Nat, k ≤ n ∧ i = .int .i64 k ∧ OIntss wr w.heap.size (.slice ao n cap) n ((oneT n).take k ++ List.replicate (n - k) (List.replicate n 0)) ∧ Below w.heap.size w wr) (fun i _ => n - (intOf i).toNat)
  case atStart => exact ⟨0, Nat.zero_le _, rfl, by rw [fill_start]; exact hown, hb⟩
  case round =>
    obtain ⟨k, hk, rfl, hown, hb⟩ := hrel
    by_cases hlt : k < n
    · rw [fill_open hlt] at hown
      obtain ⟨g, cap', e⟩ := hown.head (by omega)
      injection e with e1 e2 e3
      subst e1
      clear e2 e3 cap'
      have hAl : ((oneT n).take k).length = k := take_len (by rw [oneT_len]; omega)
      obtain ⟨gk, ck, hc, ho, hne, hlo⟩ := hown.rowAt (at_mid hAl) (by simp; omega)
      have hset := hown.setIn (at_mid hAl) hc ho k 1
      rw [set_mid hAl] at hset
      have hset' := (congrArg (OIntss _ w.heap.size _ n) (fill_shut (oneT_get hlt))) ▸ hset
      have hc0 := ho.cell k (by simp; omega)
      have hf0 := ho.frozen k
      have hb' := hb.setCell (p := ⟨gk, k, none⟩) hlo (.int .i64 1)
      simp only [List.length_replicate] at hc hc0
      clear hown ho hset hb hAl
      go_wp2_with fail
      go_roundw
      case rel => exact ⟨k + 1, hlt, by go_num, hset', hb'⟩
      case measure => simp [intOf]; omega
    · go_wp2_with fail
      go_ret
      have : k = n := by omega
      subst this
      rw [fill_end (oneT_len k)] at hown
      exact ⟨_, rfl, hown, hb⟩
end Go.Proofs.Ytgcemkpinmjaeaa

namespace Go.Proofs.Ytgcemkpinmjaeaa
open Go.RowKit
set_option linter.all false
set_option maxHeartbeats 1600000 in
theorem iPowM_any (pm : Option Addr) (nm cm : Nat) (m : List (List Int)) (n : Int) (w : World) (hm : Intss w pm nm m) :
    Calls Try.prog 124 #[.slice pm nm cm, .int .i64 n] w fun e w' => ∃ v, e = .returned (.tuple #[v, .bool (powM m n).isSome]) ∧ OIntss w' w.heap.size v ((powM m n).getD []).length ((powM m n).getD []) ∧ Below w.heap.size w w' := by
  have HM := Lib.hid hm
  have HLM : Hid (m.length = nm) := hm.1
  clear hm
  cases h1 : isMat m
  · have hg : Hid (powM m n = none) := powM_none1 h1
    go_enter Try.func124, Try.ntmps124
    go_wp2_with (first | (go_at_call 130; refine (iIsMatrix_any _ _ _ m _ HM.out).mono ?_; rintro e w' ⟨rfl, rfl⟩))
    go_ret2
    rw [hg.out]
    exact ⟨_, rfl, OIntss.none_ _ _, Below.refl _ _⟩
  by_cases h2 : n < 0
  · have hg : Hid (powM m n = none) := powM_none2 (inR_no (.inl h2))
    have hd : decide (n < 0) = true := by simpa using h2
    go_enter Try.func124, Try.ntmps124
    go_wp2_with (first | (go_at_call 130; refine (iIsMatrix_any _ _ _ m _ HM.out).mono ?_; rintro e w' ⟨rfl, rfl⟩))
    go_ret2
    rw [hg.out]
    exact ⟨_, rfl, OIntss.none_ _ _, Below.refl _ _⟩
  by_cases h3 : 30 < n
  · have hg : Hid (powM m n = none) := powM_none2 (inR_no (.inr h3))
    have hd : decide (n < 0) = false := by simpa using h2
    go_enter Try.func124, Try.ntmps124
    go_wp2_with (first | (go_at_call 130; refine (iIsMatrix_any _ _ _ m _ HM.out).mono ?_; rintro e w' ⟨rfl, rfl⟩))
    go_ret2
    rw [hg.out]
    exact ⟨_, rfl, OIntss.none_ _ _, Below.refl _ _⟩
  obtain ⟨q, rfl⟩ := Int.eq_ofNat_of_zero_le (show 0 ≤ n by omega)
  have hq : q ≤ 30 := by omega
  have hd : decide ((q : Int) < 0) = false := by simp
  have hg : Hid (powM m q = iterM m q (oneT nm)) := by have := powM_iter h1 (n := q) (inR_mk ⟨by omega, by omega⟩); rw [HLM.out] at this; exact this
  have hn9 : nm ≤ 9 := by have := isMat_len h1; have := HLM.out; omega
  clear h2 h3
  go_enter Try.func124, Try.ntmps124
  go_wp2_with (first | (go_at_call 130; refine (iIsMatrix_any _ _ _ m _ HM.out).mono ?_; rintro e w' ⟨rfl, rfl⟩))
  clear h1 hd
  refine (iUnit_any nm _ (by omega)).mono ?_
  rintro e w1 ⟨v, rfl, hown, hbl⟩
  have Hown := Lib.hid hown
  have Hbl := Lib.hid hbl
  clear hown hbl
  go_wp2_with fail
  go_loopw [6, 23] (fun v i wr => ∃ (k : Nat) (acc : List (List Int)), k ≤ q ∧ i = .int .i64 k ∧ OIntss wr w.heap.size v nm acc ∧ Hid (iterM m (q - k) acc = iterM m q (oneT nm)) ∧ Below w.heap.size w wr) (fun _ i _ => q - (intOf i).toNat)
  case atStart => exact ⟨0, _, Nat.zero_le _, rfl, Hown.out, rfl, Hbl.out⟩
  case round =>
    obtain ⟨k, acc, hk, rfl, hown, hit, hbl⟩ := hrel
    obtain ⟨wo, rfl⟩ : ∃ wo : World, wo = wr := ⟨_, rfl⟩
    clear Hown Hbl
    by_cases hlt : k < q
    · have Hstep : Hid (q - k = (q - (k + 1)) + 1) := by show q - k = _; omega
      obtain ⟨ao, cap, rfl, hi⟩ := hown.form
      have Hi := Lib.hid hi
      have Hbl := Lib.hid hbl
      clear hi hbl hown
      go_wp2_with fail
      refine (iMulM_any _ _ _ acc _ _ _ m _ Hi.out (HM.out.keep (Hbl.out.mono (Nat.le_refl _)))).mono ?_
      rintro e w2 ⟨v2, rfl, hown2, hb2⟩
      cases hp : mulM acc m with
      | none =>
        have hr1 : Hid (powM m q = none) := by
          have h5 := hit.out
          rw [Hstep.out, iterM_none hp] at h5
          show powM m q = none
          rw [hg.out, h5]
        have Hb2 := Lib.hid (Hbl.out.trans (hb2.mono Hbl.out.size))
        clear hown2 hb2 hit
        go_wp2_with fail
        go_ret2
        rw [hr1.out]
        exact ⟨_, rfl, OIntss.none_ _ _, Hb2.out⟩
      | some p =>
        have hit' : Hid (iterM m (q - (k + 1)) p = iterM m q (oneT nm)) := by
          have h5 := hit.out
          rw [Hstep.out, iterM_some hp] at h5
          exact h5
        have hpl : p.length = nm := by have := (mulM_mat hp).2; rw [this, HLM.out]
        rw [hp] at hown2
        have hown3 : OIntss w2 w.heap.size v2 nm p := by
          have h6 : OIntss w2 wo.heap.size v2 p.length p := hown2
          rw [hpl] at h6
          exact h6.mono Hbl.out.size
        have Hown3 := Lib.hid hown3
        have Hb2 := Lib.hid (Hbl.out.trans (hb2.mono Hbl.out.size))
        clear hown2 hb2 hit hown3 hpl
        go_wp2_with fail
        go_roundw
        case rel => exact ⟨k + 1, p, hlt, by go_num, Hown3.out, hit', Hb2.out⟩
        case measure => simp [intOf]; omega
    · have hr1 : Hid (powM m q = some acc) := by
        have h5 := hit.out
        rw [show q - k = 0 from by omega] at h5
        show powM m q = some acc
        rw [hg.out, ← h5]
        rfl
      have Hown := Lib.hid hown
      have Hbl := Lib.hid hbl
      clear hown hbl hit
      go_wp2_with fail
      go_ret2
      rw [hr1.out]
      refine ⟨_, rfl, ?_, Hbl.out⟩
      show OIntss wo w.heap.size _ acc.length acc
      rw [Hown.out.len]
      exact Hown.out
end Go.Proofs.Ytgcemkpinmjaeaa

namespace Go.Proofs.Ytgcemkpinmjaeaa
open Go.RowKit
set_option linter.all false
set_option maxHeartbeats 1600000 in
theorem iIsSmall_any (ao : Option Addr) (n cap : Nat) (xss : List (List Int)) (w : World) (h : Intss w ao n xss) :
    Calls Try.prog 123 #[.slice ao n cap] w fun e w' => e = .returned (.bool (isSmallM xss)) ∧ w = w' := by
  have hm := h.2.1
  have HL := Lib.hid h.1
  have H := Lib.hid h
  have hg0 : Hid (isSmallM xss = (isMat xss && (!decide (4 < n) && le9T xss))) := by show isSmallM xss = _; unfold isSmallM; rw [h.1]
  clear h
  cases hmat : isMat xss
  · have hg : Hid (isSmallM xss = false) := by show isSmallM xss = _; rw [hg0.out, hmat]; rfl
    go_enter Try.func123, Try.ntmps123
    go_wp2_with (first | (go_at_call 130; refine (iIsMatrix_any _ _ _ xss _ H.out).mono ?_; rintro e w' ⟨rfl, rfl⟩))
    go_ret
    exact ⟨ret_bool hg.out.symm, rfl⟩
  by_cases h4 : 4 < n
  · have hg : Hid (isSmallM xss = false) := by show isSmallM xss = _; rw [hg0.out]; simp [h4]
    go_enter Try.func123, Try.ntmps123
    go_wp2_with (first | (go_at_call 130; refine (iIsMatrix_any _ _ _ xss _ H.out).mono ?_; rintro e w' ⟨rfl, rfl⟩))
    go_ret
    exact ⟨ret_bool hg.out.symm, rfl⟩
  · have hg : Hid (isSmallM xss = le9T xss) := by show isSmallM xss = _; rw [hg0.out, hmat]; simp [h4]
    go_enter Try.func123, Try.ntmps123
    go_wp2_with (first | (go_at_call 130; refine (iIsMatrix_any _ _ _ xss _ H.out).mono ?_; rintro e w' ⟨rfl, rfl⟩))
    clear hmat
    go_loop [17] (fun i => ∃ k : Nat, k ≤ n ∧ i = .int .i64 k ∧ Hid (le9T (xss.drop k) = le9T xss)) (fun i => n - (intOf i).toNat)
    case atStart => exact ⟨0, Nat.zero_le _, rfl, rfl⟩
    case round =>
      obtain ⟨k, hk, rfl, hr⟩ := hrel
      by_cases hlt : k < n
      · obtain ⟨b, o, ai, ci, r, rfl, hcell, hrow, hget⟩ := H.out.at_ hlt
        have hrb := hrow.2.1
        have Hst := Lib.hid (le9T_step hget.out hr.out)
        have Hrow := Lib.hid hrow
        clear hrow hr H
        go_wp2_with fail
        go_loop [23] (fun i => ∃ j : Nat, j ≤ r.length ∧ i = .int .i64 j ∧ Hid (le9 (r.drop j) = le9 r)) (fun i => r.length - (intOf i).toNat)
        case atStart => exact ⟨0, Nat.zero_le _, rfl, rfl⟩
        case round =>
          obtain ⟨j, hj, rfl, hrj⟩ := hrel
          by_cases hjn : j < r.length
          · obtain ⟨b', o', x, rfl, hcell', hget'⟩ := Hrow.out.at_ hjn
            have Hsj := Lib.hid (le9_step hget'.out hrj.out)
            clear hrj Hrow
            by_cases h9 : 9 < x
            · have hr1 : Hid _ := Hst.out.1 (Hsj.out.1 h9)
              clear Hst Hsj
              go_wp2_with fail
              go_ret
              exact ⟨ret_bool (by rw [hg.out, hr1.out]), rfl⟩
            · have hr1 : Hid _ := Hsj.out.2 h9
              clear Hst Hsj
              go_wp2_with fail
              go_round
              case rel => exact ⟨j + 1, hjn, by go_num, hr1⟩
              case measure => simp [intOf]; omega
          · have hr1 : Hid _ := Hst.out.2 (by have := hrj.out; rw [drop_all r j (by omega)] at this; exact this.symm)
            clear Hst hrj Hrow
            go_wp2_with fail
            go_round
            case rel => exact ⟨k + 1, hlt, by go_num, hr1⟩
            case measure => simp [intOf]; omega
      · rw [drop_all xss k (by have := HL.out; omega)] at hr
        have hr1 : Hid _ := hr.out.symm
        clear hr H
        go_wp2_with fail
        go_ret
        exact ⟨ret_bool (by rw [hg.out, hr1.out]; rfl), rfl⟩
end Go.Proofs.Ytgcemkpinmjaeaa
