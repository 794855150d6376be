/- Sums that grow arc by arc. -/
import Derived.Test.YtaomoahcdlkifaaProg
import Derived.Test.YtaomoahcdlkifaaIIsLab
import Derived.Test.YtaomoahcdlkifaaLabArcs
import Derived.Test.YtaomoahcdlkifaaBase
namespace Go.Proofs.Ytaomoahcdlkifaa
open Go.RowKit
set_option linter.all false
def cntT (S k : Nat) (xs : List Ar) : List Int := sumsL S (xs.take k)
theorem cnt_zero (S : Nat) (xs : List Ar) : cntT S 0 xs = List.replicate S 0 := by
  apply List.ext_getElem?
  intro i
  by_cases h : i < S <;> simp [cntT, sumsL, fromL, h]
theorem fromL_app (p : Int) : ∀ (xs : List Ar) (x : Ar), fromL p (xs ++ [x]) = fromL p xs ++ (if x.1 = p then [x] else [])
  | [], x => by by_cases h : x.1 = p <;> simp [fromL, h]
  | y :: r, x => by
    rw [List.cons_append, fromL, fromL, fromL_app p r x]
    by_cases h : y.1 = p <;> simp [h]
theorem cnt_step {S k : Nat} {xs : List Ar} {a : Nat} {y z : Int} (hx : xs[k]? = some ((a : Int), y, z)) (ha : a < S) : (cntT S k xs).set a (((fromL (a : Nat) (xs.take k)).length : Int) + 1) = cntT S (k + 1) xs := by
  apply List.ext_getElem?
  intro i
  rw [cntT, cntT, ← push_take hx, List.getElem?_set]
  by_cases hi : i < S
  · by_cases e : a = i
    · subst e
      rw [if_pos rfl, if_pos (by rw [sumsL_len]; exact hi), sumsL_get hi, fromL_app]
      simp
    · rw [if_neg e, sumsL_get hi, sumsL_get hi, fromL_app]
      have e2 : ¬ (a : Int) = (i : Int) := by omega
      simp [e2]
  · have h1 : (sumsL S (xs.take k)).length ≤ i := by rw [sumsL_len]; omega
    have h2 : (sumsL S (xs.take k ++ [((a : Int), y, z)])).length ≤ i := by rw [sumsL_len]; omega
    rw [List.getElem?_eq_none h1, List.getElem?_eq_none h2]
    split
    · simp [sumsL_len] at *; omega
    · rfl
set_option maxRecDepth 20000 in
set_option maxHeartbeats 3200000 in
theorem iStateSums_any (L S : Int) (ao : Option Addr) (n cap : Nat) (xs : List Ar) (w : World) (h : Arcs w ao n xs) :
    Calls Try.prog 22 #[.agg #[.int .i64 L, .int .i64 S, .slice ao n cap]] w fun e w' => ∃ v, e = .returned v ∧ OInts w' w.heap.size v (stSums L S xs).length (stSums L S xs) ∧ Below w.heap.size w w' := by
  have hm := h.2.1
  have HL := Lib.hid h.1
  have HB1 := Lib.hid (below1 w (.cells #[.int .i64 L, .int .i64 S, .slice ao n cap] 26))
  have H := Lib.hid (h.keep HB1.out)
  have HK := Lib.hid (Blk.new w 26 #[.int .i64 L, .int .i64 S, .slice ao n cap])
  clear h
  cases b1 : isLab L S xs
  · have HR : Hid (stSums L S xs = []) := by show _ = _; simp [stSums, b1]
    have B1 := Lib.hid b1
    clear b1
    go_enter Try.func22, Try.ntmps22
    go_wp2_with fail
    generalize w.alloc (.cells #[.int .i64 L, .int .i64 S, .slice ao n cap] 26) = w1 at HB1 H HK ⊢
    refine (iIsLabels_any _ _ _ _ _ xs _ H.out).mono ?_
    rw [B1.out]
    rintro e w2 ⟨rfl, hb2⟩
    go_wp2_with fail
    go_ret
    rw [HR.out]
    exact ⟨_, rfl, OInts.none_ _ _, step2 HB1.out hb2⟩
  · obtain ⟨_, hSr, hok⟩ := isLab_get b1
    have HOK := Lib.hid (okFrom_all hok)
    obtain ⟨m, rfl⟩ : ∃ m : Nat, S = m := ⟨S.toNat, by omega⟩
    have HR : Hid (stSums L m xs = sumsL m xs) := by show _ = _; simp [stSums, b1]
    have B1 := Lib.hid b1
    have hm12 : m ≤ 12 := by omega
    clear b1 hok
    have hmk := make_ints m (by omega)
    have HMa := Lib.hid (fun (W : World) => OInts.made W m (by omega))
    go_enter Try.func22, Try.ntmps22
    go_wp2_with fail
    generalize w.alloc (.cells #[.int .i64 L, .int .i64 m, .slice ao n cap] 26) = w1 at HB1 H HK ⊢
    refine (iIsLabels_any _ _ _ _ _ xs _ H.out).mono ?_
    rw [B1.out]
    rintro e w2 ⟨rfl, hb2⟩
    have HB2 := Lib.hid hb2
    have q := HK.out.keep hb2
    have q0 := q.c0
    have q1 := q.c1
    have q2 := q.c2
    have H2 := Lib.hid (H.out.keep hb2)
    have HO := Lib.hid (HMa.out w2)
    have HB3 := Lib.hid (below1 w2 (.cells (madeCells #[.int .i64 0] m) 3))
    have H3 := Lib.hid (H2.out.keep HB3.out)
    have HK3 := Lib.hid ((HK.out.keep hb2).keep HB3.out)
    have r2 := HK3.out.c2
    clear q hb2
    go_wp2_with fail
    clear q0 q1 q2 r2
    obtain ⟨g, hg⟩ : ∃ g, w2.heap.size = g := ⟨_, rfl⟩
    rw [hg] at HO
    simp only [hg]
    generalize w2.alloc (.cells (madeCells #[.int .i64 0] m) 3) = w3 at HO HB3 H3 HK3 ⊢
    go_loopw [15] (fun x wr => ∃ k : Nat, k ≤ n ∧ x = .int .i64 k ∧ OInts wr g (.slice (some ⟨g, 0, none⟩) m m) m (cntT m k xs) ∧ Below w2.heap.size w2 wr) (fun x _ => n - (intOf x).toNat)
    case atStart => exact ⟨0, Nat.zero_le _, rfl, by rw [cnt_zero]; exact HO.out, HB3.out⟩
    case round =>
      obtain ⟨k, hk, rfl, ho, hbl⟩ := hrel
      have HOw := Lib.hid ho
      have HB := Lib.hid hbl
      have hsz := hbl.size
      clear hbl ho HO
      by_cases hlt : k < n
      · obtain ⟨b, o, x, y, z, rfl, c1, c2, c3, hx⟩ := (H2.out.keep HB.out).at_ hlt
        have hxr := arcB_get (HOK.out _ (List.mem_of_getElem? hx.out))
        obtain ⟨a, rfl⟩ : ∃ a : Nat, x = a := ⟨x.toNat, by omega⟩
        have ham : a < m := by omega
        have HST := Lib.hid (cnt_step (S := m) hx.out ham)
        have HG : Hid ((cntT m k xs).getD a 0 = ((fromL (a : Nat) (xs.take k)).length : Int)) := by show _ = _; rw [cntT, List.getD, sumsL_get ham]; rfl
        have hle := fromL_le (a : Nat) (xs.take k)
        have hle2 : (xs.take k).length ≤ 1099511627776 := by simp; omega
        have HO5 := Lib.hid (HOw.out.alloc (.cells #[.int .i64 (a : Int), .int .i64 y, .int .i64 z] 58))
        have HA := Lib.hid (Blk.new wr 58 #[.int .i64 (a : Int), .int .i64 y, .int .i64 z])
        have HB5 := Lib.hid (HB.out.trans ((below1 wr (.cells #[.int .i64 (a : Int), .int .i64 y, .int .i64 z] 58)).mono hsz))
        have cc := HO5.out.cell a ham
        rw [HG.out] at cc
        have ff := HO5.out.frozen a
        have a0 := HA.out.c0
        have HS := Lib.hid (HO5.out.set a (((fromL (a : Nat) (xs.take k)).length : Int) + 1))
        have HB6 := Lib.hid (HB5.out.setCell (p := ⟨g, a, none⟩) (by rw [hg]; exact Nat.le_refl _) (.int .i64 (((fromL (a : Nat) (xs.take k)).length : Int) + 1)))
        clear hx
        generalize (fromL (a : Nat) (xs.take k)).length = cn at cc hle HS HB6 HST HG
        go_wp2_with fail
        go_roundw
        case rel =>
          have h6 := HS.out
          rw [HST.out] at h6
          exact ⟨k + 1, hlt, by go_num, h6, HB6.out⟩
        case measure => simp [intOf]; omega
      · have hkn : k = n := by omega
        have HT : Hid (cntT m k xs = stSums L m xs) := by show _ = _; rw [HR.out, cntT, List.take_of_length_le (by have := HL.out; omega)]
        have HN : Hid ((stSums L m xs).length = m) := by show _ = _; rw [HR.out, sumsL_len]
        go_wp2_with fail
        go_ret
        have h5 := HOw.out
        rw [HT.out] at h5
        exact ⟨_, rfl, by rw [HN.out]; exact h5.mono (by rw [← hg]; exact Nat.le_trans HB1.out.size HB2.out.size), step2 HB1.out (step2 HB2.out HB.out)⟩
end Go.Proofs.Ytaomoahcdlkifaa
