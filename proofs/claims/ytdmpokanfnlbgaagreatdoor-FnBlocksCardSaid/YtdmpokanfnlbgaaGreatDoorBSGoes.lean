/- SGoes: a part of the proofs of this seat. -/
import Derived.BigQuiet
import Derived.Test.YtdmpokanfnlbgaaGreatDoorProg
import Derived.Test.YtdmpokanfnlbgaaGreatDoorBG0b
namespace Go.Proofs.YtdmpokanfnlbgaaGreatDoor
open Go.RowKit
set_option linter.all false
theorem cat_size {x y : ByteArray} (hx : x.size ≤ 50) (hy : y.size ≤ 50) : (x ++ y.extract 1 y.size).size ≤ 100 := by
  rw [ByteArray.size_append, ByteArray.size_extract]; omega
set_option maxRecDepth 20000 in
set_option maxHeartbeats 3200000 in
theorem sGoesT_any (K : Int) (aF : Option Addr) (nF cF : Nat) (F : List ByteArray) (aP : Option Addr) (n cP : Nat) (P : List ByteArray) (x : ByteArray) (w : World) (h : Strs w aF nF F) (hF : ∀ f ∈ F, f.size ≤ 100) (hp : Strs w aP n P) (hP : ∀ p ∈ P, p.size = 2) (hx : x.size = 2) :
    Calls Tryz.prog 99 #[.agg #[.int .i64 K, .slice aF nF cF], .slice aP n cP, .string x, .bool true] w fun e w' => e = .returned (.bool (goesB F P x true)) ∧ Below w.heap.size w w' := by
  have hm := hp.2.1
  have HB1 := Lib.hid (below1 w (.cells #[.int .i64 K, .slice aF nF cF] 30))
  have HF1 := Lib.hid (h.keep HB1.out)
  have HP1 := Lib.hid (hp.keep HB1.out)
  have HK1 := Lib.hid (Blk.new w 30 #[.int .i64 K, .slice aF nF cF])
  have HL := Lib.hid hp.1
  have HPs := Lib.hid hP
  have hx1 : 1 < x.size := by omega
  have hx50 : x.size ≤ 50 := by omega
  obtain ⟨d, hd⟩ : ∃ d : Nat, x[1].toNat = d := ⟨_, rfl⟩
  have hbx : Hid (bl x 1 = d) := (bl_get hx1).trans hd
  clear h hp hP hx
  go_enter Tryz.func99, Tryz.ntmps99
  go_wp2_with fail
  generalize w.alloc (.cells #[.int .i64 K, .slice aF nF cF] 30) = w1 at HB1 HF1 HP1 HK1 ⊢
  have k1 : w1.cell? ⟨w.heap.size, 1, none⟩ = some (.slice aF nF cF) := HK1.out.cell 1
  go_loopw [9] (fun v wr => ∃ k : Nat, k ≤ n ∧ v = .int .i64 k ∧ Hid ((P.drop k).any (goP F x true) = goesB F P x true) ∧ Drew w1 wr) (fun v _ => n - (intOf v).toNat)
  case atStart => exact ⟨0, Nat.zero_le _, rfl, rfl, Drew.refl _⟩
  case round =>
    obtain ⟨k, hk, rfl, hr, ⟨m, rfl⟩⟩ := hrel
    by_cases hlt : k < n
    · obtain ⟨b, o, p, rfl, hc, hp⟩ := HP1.out.at_ hlt
      have hp2 := HPs.out p (List.mem_of_getElem? hp.out)
      have hp0 : 0 < p.size := by omega
      have hp1 : 1 ≤ p.size := by omega
      have hp50 : p.size ≤ 50 := by omega
      have hq : ¬ (9223372036854775807 < x.size + (p.size - 1)) := by omega
      obtain ⟨c, hcb⟩ : ∃ c : Nat, p[0].toNat = c := ⟨_, rfl⟩
      have hbp : bl p 0 = c := (bl_get hp0).trans hcb
      have HG : Hid (goP F x true p = ((c == d) && avB F (x ++ p.extract 1 p.size))) := by show _ = _; simp [goP, hbp, hbx.out]
      have HST := Lib.hid (any_step hp.out hr.out)
      have hsz := cat_size hx50 hp50
      clear hp hr hp2 hbp
      by_cases e : c = d
      · have de : ((c : Int) == (d : Int)) = true := beq_iff_eq.2 (by omega)
        cases hav : avB F (x ++ p.extract 1 p.size)
        · have HN := Lib.hid (HST.out.2 (by rw [HG.out, hav]; simp))
          clear HST HG e
          go_wp2_with fail
          go_quiet ((go_at_call 100; first | exact quiet_La (sAvoids_any _ _ _ F _ _ (HF1.out.drewN _) hsz hF) | exact quiet_L (sAvoids_any _ _ _ F _ _ (HF1.out.drewN _) hsz hF)))
          go_wp2_with fail
          go_quiet (fail)
          go_wp2_with fail
          go_roundw
          case rel => exact ⟨k + 1, hlt, by go_num, HN.out, (by first | exact Drew.refl _ | exact Drew.mk _ _ | exact (Drew.mk _ _).drewN _)⟩
          case measure => simp [intOf]; omega
        · have HN := Lib.hid (HST.out.1 (by rw [HG.out, hav]; simp [e]))
          clear HST HG e
          go_wp2_with fail
          go_quiet ((go_at_call 100; first | exact quiet_La (sAvoids_any _ _ _ F _ _ (HF1.out.drewN _) hsz hF) | exact quiet_L (sAvoids_any _ _ _ F _ _ (HF1.out.drewN _) hsz hF)))
          go_wp2_with fail
          go_ret
          exact ⟨ret_bool HN.out.symm, (by first | exact below_drewN HB1.out _ | exact below_drewN (below_drewN HB1.out _) _ | exact below_drewN (below_drewN (below_drewN HB1.out _) _) _)⟩
      · have de : ((c : Int) == (d : Int)) = false := beq_eq_false_iff_ne.2 (by omega)
        have HN := Lib.hid (HST.out.2 (by rw [HG.out]; simp [e]))
        clear HST HG e hq
        go_wp2_with fail
        go_quiet (fail)
        go_wp2_with fail
        go_quiet (fail)
        go_wp2_with fail
        go_roundw
        case rel => exact ⟨k + 1, hlt, by go_num, HN.out, (by first | exact Drew.refl _ | exact Drew.mk _ _ | exact (Drew.mk _ _).drewN _)⟩
        case measure => simp [intOf]; omega
    · have HE := Lib.hid (any_end (by have := HL.out; omega) hr.out)
      clear hr
      go_wp2_with fail
      go_ret
      exact ⟨ret_bool HE.out.symm, below_drewN HB1.out _⟩
set_option maxRecDepth 20000 in
set_option maxHeartbeats 3200000 in
theorem sGoesF_any (K : Int) (aF : Option Addr) (nF cF : Nat) (F : List ByteArray) (aP : Option Addr) (n cP : Nat) (P : List ByteArray) (x : ByteArray) (w : World) (h : Strs w aF nF F) (hF : ∀ f ∈ F, f.size ≤ 100) (hp : Strs w aP n P) (hP : ∀ p ∈ P, p.size = 2) (hx : x.size = 2) :
    Calls Tryz.prog 99 #[.agg #[.int .i64 K, .slice aF nF cF], .slice aP n cP, .string x, .bool false] w fun e w' => e = .returned (.bool (goesB F P x false)) ∧ Below w.heap.size w w' := by
  have hm := hp.2.1
  have HB1 := Lib.hid (below1 w (.cells #[.int .i64 K, .slice aF nF cF] 30))
  have HF1 := Lib.hid (h.keep HB1.out)
  have HP1 := Lib.hid (hp.keep HB1.out)
  have HK1 := Lib.hid (Blk.new w 30 #[.int .i64 K, .slice aF nF cF])
  have HL := Lib.hid hp.1
  have HPs := Lib.hid hP
  have hx0 : 0 < x.size := by omega
  have hx1 : 1 ≤ x.size := by omega
  have hx50 : x.size ≤ 50 := by omega
  obtain ⟨d, hd⟩ : ∃ d : Nat, x[0].toNat = d := ⟨_, rfl⟩
  have hbx : Hid (bl x 0 = d) := (bl_get hx0).trans hd
  clear h hp hP hx
  go_enter Tryz.func99, Tryz.ntmps99
  go_wp2_with fail
  generalize w.alloc (.cells #[.int .i64 K, .slice aF nF cF] 30) = w1 at HB1 HF1 HP1 HK1 ⊢
  have k1 : w1.cell? ⟨w.heap.size, 1, none⟩ = some (.slice aF nF cF) := HK1.out.cell 1
  go_loopw [9] (fun v wr => ∃ k : Nat, k ≤ n ∧ v = .int .i64 k ∧ Hid ((P.drop k).any (goP F x false) = goesB F P x false) ∧ Drew w1 wr) (fun v _ => n - (intOf v).toNat)
  case atStart => exact ⟨0, Nat.zero_le _, rfl, rfl, Drew.refl _⟩
  case round =>
    obtain ⟨k, hk, rfl, hr, ⟨m, rfl⟩⟩ := hrel
    by_cases hlt : k < n
    · obtain ⟨b, o, p, rfl, hc, hp⟩ := HP1.out.at_ hlt
      have hp2 := HPs.out p (List.mem_of_getElem? hp.out)
      have hp1 : 1 < p.size := by omega
      have hp50 : p.size ≤ 50 := by omega
      have hq : ¬ (9223372036854775807 < p.size + (x.size - 1)) := by omega
      obtain ⟨c, hcb⟩ : ∃ c : Nat, p[1].toNat = c := ⟨_, rfl⟩
      have hbp : bl p 1 = c := (bl_get hp1).trans hcb
      have HG : Hid (goP F x false p = ((c == d) && avB F (p ++ x.extract 1 x.size))) := by show _ = _; simp [goP, hbp, hbx.out]
      have HST := Lib.hid (any_step hp.out hr.out)
      have hsz := cat_size hp50 hx50
      clear hp hr hp2 hbp
      by_cases e : c = d
      · have de : ((c : Int) == (d : Int)) = true := beq_iff_eq.2 (by omega)
        cases hav : avB F (p ++ x.extract 1 x.size)
        · have HN := Lib.hid (HST.out.2 (by rw [HG.out, hav]; simp))
          clear HST HG e
          go_wp2_with fail
          go_quiet (fail)
          go_wp2_with fail
          go_quiet ((go_at_call 100; first | exact quiet_La (sAvoids_any _ _ _ F _ _ (HF1.out.drewN _) hsz hF) | exact quiet_L (sAvoids_any _ _ _ F _ _ (HF1.out.drewN _) hsz hF)))
          go_wp2_with fail
          go_roundw
          case rel => exact ⟨k + 1, hlt, by go_num, HN.out, (by first | exact Drew.refl _ | exact Drew.mk _ _ | exact (Drew.mk _ _).drewN _)⟩
          case measure => simp [intOf]; omega
        · have HN := Lib.hid (HST.out.1 (by rw [HG.out, hav]; simp [e]))
          clear HST HG e
          go_wp2_with fail
          go_quiet (fail)
          go_wp2_with fail
          go_quiet ((go_at_call 100; first | exact quiet_La (sAvoids_any _ _ _ F _ _ (HF1.out.drewN _) hsz hF) | exact quiet_L (sAvoids_any _ _ _ F _ _ (HF1.out.drewN _) hsz hF)))
          go_wp2_with fail
          go_ret
          exact ⟨ret_bool HN.out.symm, (by first | exact below_drewN HB1.out _ | exact below_drewN (below_drewN HB1.out _) _ | exact below_drewN (below_drewN (below_drewN HB1.out _) _) _)⟩
      · have de : ((c : Int) == (d : Int)) = false := beq_eq_false_iff_ne.2 (by omega)
        have HN := Lib.hid (HST.out.2 (by rw [HG.out]; simp [e]))
        clear HST HG e hq
        go_wp2_with fail
        go_quiet (fail)
        go_wp2_with fail
        go_quiet (fail)
        go_wp2_with fail
        go_roundw
        case rel => exact ⟨k + 1, hlt, by go_num, HN.out, (by first | exact Drew.refl _ | exact Drew.mk _ _ | exact (Drew.mk _ _).drewN _)⟩
        case measure => simp [intOf]; omega
    · have HE := Lib.hid (any_end (by have := HL.out; omega) hr.out)
      clear hr
      go_wp2_with fail
      go_ret
      exact ⟨ret_bool HE.out.symm, below_drewN HB1.out _⟩
end Go.Proofs.YtdmpokanfnlbgaaGreatDoor
