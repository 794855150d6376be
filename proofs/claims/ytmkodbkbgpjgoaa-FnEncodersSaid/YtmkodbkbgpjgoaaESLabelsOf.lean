/- SLabelsOf: a part of the proofs of this seat. -/
import Derived.BigQuiet
import Derived.Deep.RegionLaw
import Derived.Test.YtmkodbkbgpjgoaaProg
import Derived.Test.YtmkodbkbgpjgoaaEG2a
import Derived.Test.YtmkodbkbgpjgoaaESInsort
import Derived.Test.YtmkodbkbgpjgoaaEG0c
namespace Go.Proofs.Ytmkodbkbgpjgoaa
open Go.RowKit
set_option linter.all false
theorem insS_len (out : List Ar) (x : Ar) : (insS out x).length ≤ out.length + 1 := by
  have h := posG_le out x out.length
  unfold insS
  simp only []
  split
  · omega
  · simp only [List.length_append, List.length_take, List.length_cons, List.length_drop]
    omega
theorem foldS_len : ∀ (xs out : List Ar), (xs.foldl insS out).length ≤ out.length + xs.length
  | [], out => by simp
  | x :: r, out => by
    rw [List.foldl_cons, List.length_cons]
    have h1 := foldS_len r (insS out x)
    have h2 := insS_len out x
    omega
theorem sortS_len (xs : List Ar) : (sortS xs).length ≤ xs.length := by
  have := foldS_len xs []
  simpa [sortS] using this
/-- Some labelled graph and whether it is one. -/
def labT (w w' : World) (e : Ending) : Prop := ∃ (L S : Int) (v : Value) (xs : List Ar) (ok : Bool), e = .returned (.tuple #[.agg #[.int .i64 L, .int .i64 S, v], .bool ok]) ∧ OArcs w' w.heap.size v xs.length xs ∧ xs.length ≤ 100 ∧ Below w.heap.size w w'
set_option maxRecDepth 20000 in
set_option maxHeartbeats 12800000 in
theorem sLabelsOf_any (K : Int) (aF : Option Addr) (nF cF : Nat) (F : List ByteArray) (w : World) (h : Strs w aF nF F) (hF : ∀ f ∈ F, f.size ≤ 1048576) :
    Calls Try.prog 59 #[.agg #[.int .i64 K, .slice aF nF cF]] w fun e w' => labT w w' e := by
  have HB2 := Lib.hid (below2 w (.cells #[.int .i64 K, .slice aF nF cF] 78) (.cells #[.int .i64 0, .int .i64 0, .slice none 0 0] 26))
  have HA2 := Lib.hid (h.keep HB2.out)
  have HK2 := Lib.hid ((Blk.new w 78 #[.int .i64 K, .slice aF nF cF]).alloc (.cells #[.int .i64 0, .int .i64 0, .slice none 0 0] 26))
  have HZ2 := Lib.hid (Blk.new (w.alloc (.cells #[.int .i64 K, .slice aF nF cF] 78)) 26 #[.int .i64 0, .int .i64 0, .slice none 0 0])
  have k0 : ((w.alloc (.cells #[.int .i64 K, .slice aF nF cF] 78)).alloc (.cells #[.int .i64 0, .int .i64 0, .slice none 0 0] 26)).cell? ⟨w.heap.size, 0, none⟩ = some (.int .i64 K) := HK2.out.cell 0
  have k1 : ((w.alloc (.cells #[.int .i64 K, .slice aF nF cF] 78)).alloc (.cells #[.int .i64 0, .int .i64 0, .slice none 0 0] 26)).cell? ⟨w.heap.size, 1, none⟩ = some (.slice aF nF cF) := HK2.out.cell 1
  have z1 : (w.alloc (.cells #[.int .i64 K, .slice aF nF cF] 78)).heap.size = w.heap.size + 1 := by simp
  have HZ2' := HZ2.out
  rw [z1] at HZ2'
  have HZ2 := Lib.hid HZ2'
  have HC := Lib.hid (fun W (q : Strs W aF nF F) => sStates_any K aF nF cF F W q hF)
  have HG := Lib.hid (fun W (q : Strs W aF nF F) => sGraphOf_any K aF nF cF F W q hF)
  have HSZ : Hid (∀ s ∈ lang K F 2, s.size = 2) := fun s hs => by have := lang_size hs; omega
  have HGN := Lib.hid (graphL_len F (lang K F 2))
  have hS9 := lang2_len (K := K) (F := F)
  have HRN : Hid (∀ r ∈ graphL F (lang K F 2), r.length = (lang K F 2).length) := by
    show ∀ r ∈ _, _
    intro r hr
    simp only [graphL, List.mem_map] at hr
    obtain ⟨x, _, rfl⟩ := hr
    exact adjRow_len _ _ _
  generalize graphL F (lang K F 2) = G at HG HGN HRN
  generalize lang K F 2 = S at HC HG HSZ HGN HRN hS9
  obtain ⟨n, hn⟩ : ∃ n, S.length = n := ⟨_, rfl⟩
  have HN := Lib.hid hn
  have HG2 := HG.out
  rw [isEmpty_len hn, HGN.out, hn] at HG2
  have HC2 := HC.out
  rw [hn] at HC2 hS9
  have HGl : Hid (G.length = n) := HGN.out.trans hn
  have HRN2 := HRN.out
  rw [hn] at HRN2
  have HRN := Lib.hid HRN2
  clear h hF z1 HZ2' HC HG HGN hn HRN2
  by_cases h0 : n = 0
  · have hdd : (!decide (n = 0)) = false := by simp [h0]
    rw [hdd] at HG2
    have HG := Lib.hid HG2
    clear HG2 HC2 hdd h0
    go_enter Try.func59, Try.ntmps59
    go_wp2_with fail
    generalize (w.alloc (.cells #[.int .i64 K, .slice aF nF cF] 78)).alloc (.cells #[.int .i64 0, .int .i64 0, .slice none 0 0] 26) = w2 at HB2 HA2 HK2 HZ2 k0 k1 ⊢
    refine (HG.out _ HA2.out).mono ?_
    rintro e w3 ⟨v3, rfl, ho3, hb3⟩
    have HB3 := Lib.hid (HB2.out.trans (hb3.mono HB2.out.size))
    have q := HZ2.out.keep hb3
    have q0 := q.c0
    have q1 := q.c1
    have q2 := q.c2
    have f0 := q.frozen 0
    have f1 := q.frozen 1
    have f2 := q.frozen 2
    clear q ho3 hb3 k0 k1
    go_wp2_with fail
    refine bodyPost_ret (v := .tuple #[.agg #[.int .i64 0, .int .i64 0, .slice none 0 0], .bool false]) (by simp [results, Try.results59, go_sem, *]) rfl ?_
    exact ⟨0, 0, _, [], false, rfl, OArcs.none_ _ _, by simp, below_lab HB3.out (by omega) _ _ _⟩
  have hdd : (!decide (n = 0)) = true := by simp [h0]
  rw [hdd] at HG2
  have HG := Lib.hid HG2
  have HC := Lib.hid HC2
  have hn1 : 0 < n := by omega
  clear HG2 HC2 hdd h0
  go_enter Try.func59, Try.ntmps59
  go_wp2_with fail
  generalize (w.alloc (.cells #[.int .i64 K, .slice aF nF cF] 78)).alloc (.cells #[.int .i64 0, .int .i64 0, .slice none 0 0] 26) = w2 at HB2 HA2 HK2 HZ2 k0 k1 ⊢
  refine (HG.out _ HA2.out).mono ?_
  rintro e w3 ⟨v3, rfl, ho3, hb3⟩
  obtain ⟨a3, c3, rfl, hi3⟩ := ho3.form
  have HB3 := Lib.hid (HB2.out.trans (hb3.mono HB2.out.size))
  have HI3 := Lib.hid hi3
  have HZ3 := Lib.hid (HZ2.out.keep hb3)
  have HA3 := Lib.hid (HA2.out.keep hb3)
  have HK3 := Lib.hid (HK2.out.keep hb3)
  have k0 : w3.cell? ⟨w.heap.size, 0, none⟩ = some (.int .i64 K) := HK3.out.cell 0
  have k1 : w3.cell? ⟨w.heap.size, 1, none⟩ = some (.slice aF nF cF) := HK3.out.cell 1
  clear ho3 hb3 hi3 HA2 HK2 HZ2 HB2
  go_wp2_with fail
  refine (HC.out _ HA3.out).mono ?_
  rintro e w4 ⟨v4, rfl, ho4, hb4⟩
  obtain ⟨a4, c4, rfl, hi4⟩ := ho4.form
  have HB4 := Lib.hid (HB3.out.trans (hb4.mono HB3.out.size))
  have HI34 := Lib.hid (HI3.out.keep hb4)
  have HI4 := Lib.hid hi4
  have HZ4 := Lib.hid (HZ3.out.keep hb4)
  have HK4 := Lib.hid (HK3.out.keep hb4)
  have k0 : w4.cell? ⟨w.heap.size, 0, none⟩ = some (.int .i64 K) := HK4.out.cell 0
  clear ho4 hb4 hi4 k1 HA3 HK3 HZ3 HB3 HI3
  have HGr := Lib.hid (show Gr (w4.alloc (.cells #[.int .i64 K, .int .i64 n, .slice none 0 0] 26)) w4.heap.size w4.heap.size K n (.slice none 0 0) [] from ⟨Blk.new w4 _ _, OArcs.none_ _ _, by simp [Value.ownBlock], Nat.le_refl _⟩)
  have HB5 := Lib.hid (below1 w4 (.cells #[.int .i64 K, .int .i64 n, .slice none 0 0] 26))
  go_wp2_with fail
  clear k0
  go_loopw [8] (fun x wr => ∃ (i : Nat) (v : Value) (xs : List Ar), i ≤ n ∧ xs.length ≤ i * 9 ∧ x = .int .i64 i ∧ Gr wr w4.heap.size w4.heap.size K n v xs ∧ Below w4.heap.size w4 wr) (fun x _ => n - (intOf x).toNat)
  case atStart => exact ⟨0, _, [], Nat.zero_le _, by simp, rfl, HGr.out, HB5.out⟩
  case round =>
    obtain ⟨i, v, xs, hi, hxl, rfl, hgr, hbl⟩ := hrel
    have Hgr := Lib.hid hgr
    have Hbl := Lib.hid hbl
    clear hgr hbl HGr HB5
    by_cases hlt : i < n
    · obtain ⟨wo, rfl⟩ : ∃ wo : World, wo = wr := ⟨_, rfl⟩
      go_wp2_with fail
      go_loopw [9] (fun x wr => ∃ (j : Nat) (v : Value) (xs : List Ar), j ≤ n ∧ xs.length ≤ i * 9 + j ∧ x = .int .i64 j ∧ Gr wr w4.heap.size w4.heap.size K n v xs ∧ Below w4.heap.size w4 wr) (fun x _ => n - (intOf x).toNat)
      case atStart => exact ⟨0, v, xs, Nat.zero_le _, by omega, rfl, Hgr.out, Hbl.out⟩
      case round =>
        clear hxl Hgr Hbl
        obtain ⟨j, v, xs, hj, hxl, rfl, hgr, hbl⟩ := hrel
        have Hgr := Lib.hid hgr
        have Hbl := Lib.hid hbl
        by_cases hjn : j < n
        · obtain ⟨b1, o1, a1, c1, r, rfl, hca, hrow, hget⟩ := (HI34.out.keep hbl).at_ hlt
          have hrl := HRN.out r (List.mem_of_getElem? hget.out)
          obtain ⟨b2, o2, a, rfl, hcb, hga⟩ := hrow.at_ (k := j) (by omega)
          have hjr : j < r.length := by omega
          clear hrow hget hga hrl hgr hbl
          by_cases ha : 0 < a
          · obtain ⟨b, o, y, rfl, hcy, hy⟩ := (HI4.out.keep Hbl.out).at_ hjn
            have hy2 := HSZ.out y (List.mem_of_getElem? hy.out)
            have hy1 : 1 < y.size := by omega
            have hy1i : (1 : Int) < (y.size : Int) := by omega
            obtain ⟨c, hcc⟩ : ∃ c : Nat, y[1].toNat = c := ⟨_, rfl⟩
            obtain ⟨tt, htt⟩ : ∃ tt : Int, IntKind.i64.wrap (IntKind.i64.wrap (c : Int) - 97) = tt := ⟨_, rfl⟩
            obtain ⟨ao, cc, rfl, _⟩ := Hgr.out.o.form
            have hd : decide (0 < a) = true := decide_eq_true ha
            have q0 : wr.cell? ⟨w4.heap.size, 2, none⟩ = some (.slice ao xs.length cc) := Hgr.out.kb.c2
            have q0' : (wr.alloc (.cells #[.int .i64 (i : Int), .int .i64 (j : Int), .int .i64 tt] 55)).cell? ⟨w4.heap.size, 2, none⟩ = some (.slice ao xs.length cc) := (Hgr.out.kb.alloc _).c2
            have HGd := Lib.hid (Hgr.out.drewN 1)
            have HBd : Hid (Below w4.heap.size w4 wr.drew) := below_drewN Hbl.out 1
            have hsz := Hbl.out.size
            clear hy hy2 ha
            go_wp2_with fail
            clear hca hcb
            go_region_law (first
              | (refine step_of_wp rfl (wp_push_arc wr.drew ((i : Int), (j : Int), tt) (.tmp 46) (.tmp 57) rfl w4.heap.size _ _ _ rfl (by exact HGd.out.o) (by omega) (by exact HBd.out.size) _ rfl rfl ?_); intro v5 w5 ho hg hn; have q := (HGd.out.grownB hg).c2; have f := (HGd.out.grownB hg).frozen 2; have E5 := Lib.hid (HGd.out.pushed ho rfl hg hn); have F5 := Lib.hid (HGd.out.belowP HBd.out hg (by exact HBd.out.size) (Nat.le_refl _) v5); obtain ⟨ao5, cc5, rfl, _⟩ := ho.form; clear ho hg hn))
            all_goals
              go_wp2_with fail
              go_roundw
            all_goals first
              | exact ⟨j + 1, _, _, hjn, by simp; omega, by go_num, E5.out, F5.out⟩
              | (simp [intOf] <;> omega)
          · have hd : decide (0 < a) = false := decide_eq_false ha
            clear ha
            go_wp2_with fail
            go_roundw
            case rel => exact ⟨j + 1, v, xs, hjn, by omega, by go_num, Hgr.out, Hbl.out⟩
            case measure => (simp [intOf] <;> omega)
        · clear hgr hbl
          go_wp2_with fail
          go_roundw
          case rel => exact ⟨i + 1, v, xs, hlt, by omega, by go_num, Hgr.out, Hbl.out⟩
          case measure => (simp [intOf] <;> omega)
    · obtain ⟨ao, cc, rfl, _⟩ := Hgr.out.o.form
      have hxm : xs.length ≤ 81 := by omega
      have q2 := Hgr.out.kb.c2
      go_wp2_with fail
      refine (sSort_any _ _ _ xs _ Hgr.out.o.read (by omega)).mono ?_
      rintro e w6 ⟨v6, rfl, ho6, hb6⟩
      have hl6 := sortS_len xs
      have HG6 := Lib.hid (Hgr.out.keep hb6)
      have HF6 := Lib.hid (HG6.out.kb.frozen 2)
      have HNE : Hid (v6.ownBlock ≠ some w4.heap.size) := by
        show _
        intro e
        have h1 := (ho6.ownlt _ e).1
        have h2 := Hgr.out.kb.lt
        omega
      have HB6 := Lib.hid (Hbl.out.trans (hb6.mono Hbl.out.size))
      have HG7 := Lib.hid (HG6.out.put (ho6.mono Hbl.out.size) HNE.out)
      have HB7 := Lib.hid (HB6.out.setCell (p := ⟨w4.heap.size, 2, none⟩) (Nat.le_refl _) v6)
      generalize sortS xs = ys at hl6 ho6 HG7
      have q2 := HG6.out.kb.c2
      have f2 := HF6.out
      obtain ⟨a6, c6, rfl, _⟩ := ho6.form
      have a0 := HG7.out.kb.c0
      have a1 := HG7.out.kb.c1
      have a2 := HG7.out.kb.c2
      have qr := HZ4.out.keep HB7.out
      have b0 := qr.c0
      have b1 := qr.c1
      have b2 := qr.c2
      have g0 := qr.frozen 0
      have g1 := qr.frozen 1
      have g2 := qr.frozen 2
      have HO7 := Lib.hid (HG7.out.o.mono HB4.out.size)
      have HNR : Hid ((Value.slice a6 ys.length c6).ownBlock ≠ some (w.heap.size + 1)) := by
        show _
        intro e
        have h1 := (HG7.out.o.ownlt _ e).1
        have h2 := HZ4.out.lt
        omega
      have HBz := Lib.hid (HB4.out.trans (HB7.out.mono HB4.out.size))
      have hs2 : w.heap.size + 1 < w4.heap.size := HZ4.out.lt
      clear ho6 hb6 qr
      go_wp2_with fail
      refine bodyPost_ret (v := .tuple #[.agg #[.int .i64 K, .int .i64 n, .slice a6 ys.length c6], .bool true]) (by simp [results, Try.results59, go_sem, *]) rfl ?_
      exact ⟨K, n, _, ys, true, rfl, ((HO7.out.setFar HNR.out _).setFar HNR.out _).setFar HNR.out _, by omega, below_lab HBz.out (by omega) _ _ _⟩
end Go.Proofs.Ytmkodbkbgpjgoaa
