/- SGraphOf: a part of the proofs of this seat. -/
import Derived.BigQuiet
import Derived.Test.YtbjoblgklcilpaaGreatProg
import Derived.Test.YtbjoblgklcilpaaGreatZSLang
import Derived.Test.YtbjoblgklcilpaaGreatZG0a
import Derived.Test.YtbjoblgklcilpaaGreatZG1a
namespace Go.Proofs.YtbjoblgklcilpaaGreat
open Go.RowKit
set_option linter.all false
theorem lang2_len {K : Int} {F : List ByteArray} : (lang K F 2).length ≤ 9 := lang_len (n := 2)
theorem isEmpty_len {α : Type} {S : List α} {n : Nat} (h : S.length = n) : S.isEmpty = decide (n = 0) := by
  subst h
  cases S <;> simp
set_option maxRecDepth 20000 in
set_option maxHeartbeats 6400000 in
theorem sGraphOf_any (K : Int) (aF : Option Addr) (nF cF : Nat) (F : List ByteArray) (w : World) (h : Strs w aF nF F) (hF : ∀ f ∈ F, f.size ≤ 1048576) :
    Calls Tryz.prog 25 #[.agg #[.int .i64 K, .slice aF nF cF]] w fun e w' => ∃ v, e = .returned (.tuple #[v, .bool (!(lang K F 2).isEmpty)]) ∧ OIntss w' w.heap.size v (graphL F (lang K F 2)).length (graphL F (lang K F 2)) ∧ Below w.heap.size w w' := by
  have HB1 := Lib.hid (below1 w (.cells #[.int .i64 K, .slice aF nF cF] 32))
  have HA1 := Lib.hid (h.keep HB1.out)
  have HK1 := Lib.hid (Blk.new w 32 #[.int .i64 K, .slice aF nF cF])
  have k0 : (w.alloc (.cells #[.int .i64 K, .slice aF nF cF] 32)).cell? ⟨w.heap.size, 0, none⟩ = some (.int .i64 K) := HK1.out.cell 0
  have k1 : (w.alloc (.cells #[.int .i64 K, .slice aF nF cF] 32)).cell? ⟨w.heap.size, 1, none⟩ = some (.slice aF nF cF) := HK1.out.cell 1
  have HFs := Lib.hid hF
  have HC := Lib.hid (fun W (q : Strs W aF nF F) => sStates_any K aF nF cF F W q hF)
  have HF1 : Hid (0 < (lang K F 2).length → ∀ f ∈ F, f.size ≤ 100) := by
    show _ → _
    intro h0 f hf
    have := (lang_mem (List.getElem_mem h0)).1.1
    have := ((isSh_get this).2.2 f hf).2
    omega
  have HSZ : Hid (∀ s ∈ lang K F 2, s.size = 2) := fun s hs => by have := lang_size hs; omega
  have hS9 := lang2_len (K := K) (F := F)
  generalize lang K F 2 = S at HC HF1 HSZ hS9 ⊢
  clear h hF
  obtain ⟨n, hn⟩ : ∃ n, S.length = n := ⟨_, rfl⟩
  have HN := Lib.hid hn
  rw [isEmpty_len hn]
  rw [hn] at HF1 hS9
  simp only [hn] at HC
  clear hn
  by_cases h0 : n = 0
  · have HR : Hid (graphL F S = []) := by show _ = _; have e : S = [] := List.eq_nil_of_length_eq_zero (by rw [HN.out]; exact h0); subst e; rfl
    have d0 : ((n : Int) == 0) = true := beq_iff_eq.2 (by omega)
    have hdd : (!decide (n = 0)) = false := by simp [h0]
    rw [hdd]
    clear h0 hdd
    go_enter Tryz.func25, Tryz.ntmps25
    go_wp2_with fail
    generalize w.alloc (.cells #[.int .i64 K, .slice aF nF cF] 32) = w1 at HB1 HA1 HK1 k0 k1 ⊢
    refine (HC.out _ HA1.out).mono ?_
    rintro e w2 ⟨v2, rfl, ho2, hb2⟩
    obtain ⟨a2, c2, rfl, hi2⟩ := ho2.form
    have HI2 := Lib.hid hi2
    have HB2 := Lib.hid (step2 HB1.out hb2)
    have HA2 := Lib.hid (HA1.out.keep hb2)
    have HK2 := Lib.hid (HK1.out.keep hb2)
    clear ho2 hb2 k0 k1 HA1 HK1 hi2
    have HE := Lib.hid (OIntss.lit (W := w2) (lo := w.heap.size) (n := 0) (vs := []) (xss := []) (arr := #[]) HB2.out.size rfl rfl rfl (by omega) (fun i u r hu hx => by simp at hu) (fun i j u u' hij hu hu' => by simp at hu))
    have HBE := Lib.hid (HB2.out.alloc HB2.out.size (.cells #[] 27))
    go_wp2_with fail
    go_ret2
    rw [HR.out]
    exact ⟨_, rfl, HE.out, HBE.out⟩
  have d0 : ((n : Int) == 0) = false := beq_eq_false_iff_ne.2 (by omega)
  have hdd : (!decide (n = 0)) = true := by simp [h0]
  rw [hdd]
  have hn1 : 0 < n := by omega
  have HF2 := Lib.hid (HF1.out hn1)
  clear h0 hdd HF1
  go_enter Tryz.func25, Tryz.ntmps25
  go_wp2_with fail
  generalize w.alloc (.cells #[.int .i64 K, .slice aF nF cF] 32) = w1 at HB1 HA1 HK1 k0 k1 ⊢
  refine (HC.out _ HA1.out).mono ?_
  rintro e w2 ⟨v2, rfl, ho2, hb2⟩
  obtain ⟨a2, c2, rfl, hi2⟩ := ho2.form
  have HI2 := Lib.hid hi2
  have HB2 := Lib.hid (step2 HB1.out hb2)
  have HA2 := Lib.hid (HA1.out.keep hb2)
  have HK2 := Lib.hid (HK1.out.keep hb2)
  clear ho2 hb2 k0 k1 HA1 HK1 hi2
  go_wp2_with fail
  refine (sL4Zero_any n n _ (by omega) (by omega)).mono ?_
  rintro e w3 ⟨v3, rfl, ho3, hb3⟩
  obtain ⟨g, cap, rfl⟩ := ho3.head hn1
  have HO3 := Lib.hid ho3
  have HB3 := Lib.hid hb3
  clear ho3 hb3 d0
  go_wp2_with fail
  go_loopw [6] (fun x wr => ∃ i : Nat, i ≤ n ∧ x = .int .i64 i ∧ OIntss wr w2.heap.size (.slice (some ⟨g, 0, none⟩) n cap) n ((graphL F S).take i ++ List.replicate (n - i) (List.replicate n 0)) ∧ Below w2.heap.size w2 wr) (fun x _ => n - (intOf x).toNat)
  case atStart => exact ⟨0, Nat.zero_le _, rfl, by rw [fill_start]; exact HO3.out, HB3.out⟩
  case round =>
    obtain ⟨i, hi, rfl, hown, hbl⟩ := hrel
    clear HO3 HB3
    by_cases hlt : i < n
    · have hil : i < S.length := by rw [HN.out]; exact hlt
      obtain ⟨x, hx⟩ : ∃ x, S[i]? = some x := ⟨_, List.getElem?_eq_getElem hil⟩
      have HX := Lib.hid hx
      have HMG := Lib.hid (graphL_get (F := F) hx)
      rw [fill_open hlt] at hown
      have HAl : Hid (((graphL F S).take i).length = i) := take_len (by rw [graphL_len, HN.out]; omega)
      have Hown := Lib.hid hown
      have Hbl := Lib.hid hbl
      have hx2 := HSZ.out x (List.mem_of_getElem? hx)
      have hx1 : 1 < x.size := by omega
      have hx50 : x.size ≤ 50 := by omega
      obtain ⟨c, hcb⟩ : ∃ c : Nat, x[1].toNat = c := ⟨_, rfl⟩
      have hbx : Hid (bl x 1 = c) := (bl_get hx1).trans hcb
      clear hown hbl hx hil hx2
      obtain ⟨wo, rfl⟩ : ∃ wo : World, wo = wr := ⟨_, rfl⟩
      go_wp2_with fail
      go_loopw [7] (fun y wr => ∃ j : Nat, j ≤ n ∧ y = .int .i64 j ∧ OIntss wr w2.heap.size (.slice (some ⟨g, 0, none⟩) n cap) n ((graphL F S).take i ++ ((adjRow F S x).take j ++ List.replicate (n - j) 0) :: List.replicate (n - (i + 1)) (List.replicate n 0)) ∧ Below w2.heap.size w2 wr) (fun y _ => n - (intOf y).toNat)
      case atStart => exact ⟨0, Nat.zero_le _, rfl, by rw [fill_start]; exact Hown.out, Hbl.out⟩
      case round =>
        obtain ⟨j, hj, rfl, hown, hbl⟩ := hrel
        clear Hown Hbl
        by_cases hjn : j < n
        · obtain ⟨b, o, y, rfl, hcy, hy⟩ := (HI2.out.keep hbl).at_ hjn
          obtain ⟨b', o', x', e', hcx, hx'⟩ := (HI2.out.keep hbl).at_ hlt
          injection e' with e'
          injection e' with e1 e2
          subst e1
          subst e2
          have hxx : x = x' := Option.some.inj (HX.out.symm.trans hx'.out)
          subst hxx
          have hy2 := HSZ.out y (List.mem_of_getElem? hy.out)
          have hy0 : 0 < y.size := by omega
          have hy1 : 1 ≤ y.size := by omega
          have hy50 : y.size ≤ 50 := by omega
          have hq : ¬ (9223372036854775807 < x.size + (y.size - 1)) := by omega
          obtain ⟨d, hdb⟩ : ∃ d : Nat, y[0].toNat = d := ⟨_, rfl⟩
          have hby : bl y 0 = d := (bl_get hy0).trans hdb
          have HAD : Hid (adj F x y = ((c == d) && avB F (x ++ y.extract 1 y.size))) := by show _ = _; simp [adj, hby, hbx.out]
          have HG := Lib.hid (adjRow_get (F := F) (x := x) hy.out)
          have hsz := cat_size hx50 hy50
          rw [fill_open hjn] at hown
          have HBl : Hid (((adjRow F S x).take j).length = j) := take_len (by rw [adjRow_len, HN.out]; omega)
          have hlenr : ((adjRow F S x).take j ++ 0 :: List.replicate (n - (j + 1)) 0).length = n := by
            rw [List.length_append, HBl.out]; simp; omega
          have k1 : wr.cell? ⟨w.heap.size, 1, none⟩ = some (.slice aF nF cF) := (HK2.out.keep hbl).cell 1
          have HFr := Lib.hid (HA2.out.keep hbl)
          clear hy hx' hy2 hby
          have hno : ∀ (a : Int), (adjRow F S x)[j]? = some a → a = 0 → OIntss wr w2.heap.size (.slice (some ⟨g, 0, none⟩) n cap) n ((graphL F S).take i ++ ((adjRow F S x).take (j + 1) ++ List.replicate (n - (j + 1)) 0) :: List.replicate (n - (i + 1)) (List.replicate n 0)) := by
            intro a ha h0
            subst h0
            rw [← fill_shut ha]
            exact hown
          have HNO := Lib.hid hno
          clear hno
          by_cases e : c = d
          · have de : ((c : Int) == (d : Int)) = true := beq_iff_eq.2 (by omega)
            cases hav : avB F (x ++ y.extract 1 y.size)
            · have HN0 := Lib.hid (HNO.out _ HG.out (by simp [adjI, HAD.out, hav]))
              have Hbl := Lib.hid hbl
              clear e HNO hown hbl HAD
              go_wp2_with fail
              go_quiet ((go_at_call 50; first | exact quiet_La (sAvoids_any _ _ _ F _ _ (HFr.out.drewN _) hsz HF2.out) | exact quiet_L (sAvoids_any _ _ _ F _ _ (HFr.out.drewN _) hsz HF2.out)))
              go_wp2_with fail
              go_roundw
              case rel => exact ⟨j + 1, hjn, by go_num, HN0.out.drewN _, below_drewN Hbl.out _⟩
              case measure => simp [intOf]; omega
            · have HA1 : Hid (adjI F x y = 1) := by show _ = _; simp [adjI, HAD.out, hav, e]
              obtain ⟨gk, ck, h5, ho, hne, hlo⟩ := hown.rowAt (at_mid HAl.out) (by rw [hlenr]; omega)
              have hset := fun z => hown.setIn (at_mid HAl.out) h5 ho j z
              have hb' := fun z => hbl.setCell (p := ⟨gk, j, none⟩) hlo (.int .i64 z)
              rw [hlenr] at h5 ho
              have h6 := ho.cell j hjn
              have h7 := ho.frozen j
              have HSet := Lib.hid (hset 1)
              have Hb' := Lib.hid (hb' 1)
              rw [HA1.out] at HG
              rw [set_mid HAl.out, set_mid HBl.out, fill_shut HG.out] at HSet
              clear hset hb' ho hown hbl hlenr e HNO HAD HA1
              go_wp2_with fail
              go_quiet ((go_at_call 50; first | exact quiet_La (sAvoids_any _ _ _ F _ _ (HFr.out.drewN _) hsz HF2.out) | exact quiet_L (sAvoids_any _ _ _ F _ _ (HFr.out.drewN _) hsz HF2.out)))
              go_wp2_with fail
              go_roundw
              case rel => exact ⟨j + 1, hjn, by go_num, by first | exact HSet.out | exact HSet.out.drewN _, by first | exact Hb'.out | exact below_drewN Hb'.out _⟩
              case measure => simp [intOf]; omega
          · have de : ((c : Int) == (d : Int)) = false := beq_eq_false_iff_ne.2 (by omega)
            have HN0 := Lib.hid (HNO.out _ HG.out (by simp [adjI, HAD.out, e]))
            have Hbl := Lib.hid hbl
            clear e HNO hown hbl HAD hq
            go_wp2_with fail
            go_quiet (fail)
            go_wp2_with fail
            go_roundw
            case rel => exact ⟨j + 1, hjn, by go_num, HN0.out.drewN _, below_drewN Hbl.out _⟩
            case measure => simp [intOf]; omega
        · have hjn' : j = n := by omega
          subst hjn'
          rw [fill_end (by rw [adjRow_len]; exact HN.out), fill_shut HMG.out] at hown
          have Hown := Lib.hid hown
          have Hbl := Lib.hid hbl
          clear hown hbl
          go_wp2_with fail
          go_roundw
          case rel => exact ⟨i + 1, hlt, by go_num, Hown.out, Hbl.out⟩
          case measure => simp [intOf]; omega
    · have e : i = n := by omega
      subst e
      rw [fill_end (by rw [graphL_len]; exact HN.out)] at hown
      have HO := Lib.hid (hown.mono HB2.out.size)
      have HB := Lib.hid (HB2.out.trans (hbl.mono HB2.out.size))
      have HGL : Hid ((graphL F S).length = i) := by show _ = _; rw [graphL_len, HN.out]
      clear hown hbl
      go_wp2_with fail
      go_ret2
      rw [HGL.out]
      exact ⟨_, rfl, HO.out, HB.out⟩
end Go.Proofs.YtbjoblgklcilpaaGreat
