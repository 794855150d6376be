/- Parts of the proof of a law, joined: IsShT SPut D3 FiltT LangT SHas SGoes SAllW SWordsS SL4Zero ArcHead GrA SRes SArcs LastOp SLabs ILetters IRes IFrom IIsWord OBytes. -/
import Derived.BigQuiet
import Derived.Test.YtmkodbkbgpjgoaaProg
import Derived.Deep.RegionLaw
import Derived.Deep.RegionHeld3
import Derived.WalkKit
import Derived.Laws.BytesString
import Derived.Laws.Cells
import Derived.Test.YtmkodbkbgpjgoaaEG0b
import Derived.Test.YtmkodbkbgpjgoaaEG0a
namespace Go.Proofs.Ytmkodbkbgpjgoaa
open Go.RowKit
set_option linter.all false
/- Valid shifts. -/
def prevF (F : List ByteArray) (k : Nat) : Option ByteArray := if k = 0 then none else F[k - 1]?
def upF (q : Option ByteArray) (f : ByteArray) : Bool := match q with
  | none => true
  | some g => Op.bytesLess g.toList f.toList
def okF (K : Int) : Option ByteArray → List ByteArray → Bool
  | _, [] => true
  | q, f :: r => (isWd K f && (inR f.size 1 3 && upF q f)) && okF K (some f) r
def isSh (K : Int) (F : List ByteArray) : Bool := inR K 1 3 && (decide (F.length ≤ 8) && okF K none F)
theorem okF_step {K : Int} {F : List ByteArray} {k : Nat} {f : ByteArray} {b : Bool} (hf : F[k]? = some f) (h : okF K (prevF F k) (F.drop k) = b) :
    (isWd K f = false → b = false) ∧ (inR f.size 1 3 = false → b = false) ∧ (upF (prevF F k) f = false → b = false) ∧ (isWd K f = true → inR f.size 1 3 = true → upF (prevF F k) f = true → okF K (prevF F (k + 1)) (F.drop (k + 1)) = b) := by
  rw [drop_of_get hf, okF] at h
  have e : prevF F (k + 1) = some f := by simp [prevF, hf]
  rw [e]
  refine ⟨fun q => ?_, fun q => ?_, fun q => ?_, fun q1 q2 q3 => ?_⟩
  · rw [q] at h; exact h.symm
  · rw [q] at h; simpa using h.symm
  · rw [q] at h; simpa using h.symm
  · rw [q1, q2, q3] at h; exact h
theorem okF_end {K : Int} {F : List ByteArray} {k : Nat} {b : Bool} (hk : F.length ≤ k) (h : okF K (prevF F k) (F.drop k) = b) : b = true := by
  rw [List.drop_eq_nil_of_le hk] at h
  exact h.symm
theorem okF_size {K : Int} : ∀ {F : List ByteArray} {q : Option ByteArray}, okF K q F = true → ∀ f ∈ F, 0 < f.size ∧ f.size ≤ 3
  | [], _, _, f, hf => by simp at hf
  | x :: r, q, h, f, hf => by
    simp only [okF, Bool.and_eq_true] at h
    rcases List.mem_cons.1 hf with rfl | hf
    · have := inR_true h.1.2.1; omega
    · exact okF_size h.2 f hf
theorem isSh_get {K : Int} {F : List ByteArray} (h : isSh K F = true) : (1 ≤ K ∧ K ≤ 3) ∧ F.length ≤ 8 ∧ ∀ f ∈ F, 0 < f.size ∧ f.size ≤ 3 := by
  simp only [isSh, Bool.and_eq_true, decide_eq_true_eq] at h
  exact ⟨inR_true h.1, h.2.1, okF_size h.2.2⟩
set_option maxRecDepth 20000 in
set_option maxHeartbeats 3200000 in
theorem sIsShift_any (K : Int) (ao : Option Addr) (n cap : Nat) (F : List ByteArray) (w : World) (h : Strs w ao n F) (hF : ∀ f ∈ F, f.size ≤ 1048576) :
    Calls Try.prog 86 #[.agg #[.int .i64 K, .slice ao n cap]] w fun e w' => e = .returned (.bool (isSh K F)) ∧ Below w.heap.size w w' := by
  have hn := h.1
  have hm1 := h.2.1
  have HB := Lib.hid (below1 w (.cells #[.int .i64 K, .slice ao n cap] 78))
  have H := Lib.hid (h.keep HB.out)
  have HK := Blk.new w 78 #[.int .i64 K, .slice ao n cap]
  have k0 : (w.alloc (.cells #[.int .i64 K, .slice ao n cap] 78)).cell? ⟨w.heap.size, 0, none⟩ = some (.int .i64 K) := HK.cell 0
  have k1 : (w.alloc (.cells #[.int .i64 K, .slice ao n cap] 78)).cell? ⟨w.heap.size, 1, none⟩ = some (.slice ao n cap) := HK.cell 1
  have HL := Lib.hid hn
  clear h HK hn
  go_enter Try.func86, Try.ntmps86
  go_wp2_with fail
  generalize w.alloc (.cells #[.int .i64 K, .slice ao n cap] 78) = w1 at HB H k0 k1 ⊢
  go_loop [3] (fun x => ∃ k : Nat, k ≤ n ∧ x = .int .i64 k ∧ Hid (okF K (prevF F k) (F.drop k) = okF K none F)) (fun x => n - (intOf x).toNat)
  case atStart => exact ⟨0, Nat.zero_le _, rfl, rfl⟩
  case round =>
    obtain ⟨k, hk, rfl, hr⟩ := hrel
    by_cases hlt : k < n
    · obtain ⟨b, o, f, rfl, hc, hf⟩ := H.out.at_ hlt
      have HST := Lib.hid (okF_step hf.out hr.out)
      have hfs := hF f (List.mem_of_getElem? hf.out)
      have HNO : Hid (okF K none F = false → isSh K F = false) := fun e => by simp [isSh, e]
      clear hf hr
      cases hw : isWd K f
      · have HR := Lib.hid (HNO.out (HST.out.1 hw))
        have HW := Lib.hid hw
        clear hw HST
        go_wp2_with (go_at_call 35; refine (sIsWord_any K f _ hfs).mono ?_; rw [HW.out]; rintro e w' ⟨rfl, rfl⟩)
        go_ret
        exact ⟨ret_bool HR.out.symm, HB.out⟩
      have HW := Lib.hid hw
      cases hi : inR f.size 1 3
      · have HR := Lib.hid (HNO.out (HST.out.2.1 hi))
        have HI := Lib.hid hi
        clear hw hi HST
        go_wp2_with (first | (go_at_call 35; refine (sIsWord_any K f _ hfs).mono ?_; rw [HW.out]; rintro e w' ⟨rfl, rfl⟩) | (go_at_call 34; refine (l1In_any _ _ _ _).mono ?_; rw [HI.out]; rintro e w' ⟨rfl, rfl⟩))
        go_ret
        exact ⟨ret_bool HR.out.symm, HB.out⟩
      have HI := Lib.hid hi
      have HST3 := Lib.hid (HST.out.2.2.2 hw hi)
      have HST4 := Lib.hid HST.out.2.2.1
      clear hw hi HST
      by_cases hk0 : k = 0
      · subst hk0
        simp only [Nat.add_zero] at hc
        have HN := Lib.hid (HST3.out rfl)
        clear HST3 HST4
        go_wp2_with (first | (go_at_call 35; refine (sIsWord_any K f _ hfs).mono ?_; rw [HW.out]; rintro e w' ⟨rfl, rfl⟩) | (go_at_call 34; refine (l1In_any _ _ _ _).mono ?_; rw [HI.out]; rintro e w' ⟨rfl, rfl⟩))
        go_round
        case rel => exact ⟨1, hlt, by go_num, HN.out⟩
        case measure => simp [intOf]; omega
      · obtain ⟨j, rfl⟩ : ∃ j, k = j + 1 := ⟨k - 1, by omega⟩
        obtain ⟨b', o', g, e', hc', hg⟩ := H.out.at_ (k := j) (by omega)
        injection e' with e'
        injection e' with e1 e2
        subst e1; subst e2
        have hp : prevF F (j + 1) = some g := by simp [prevF, hg.out]
        rw [hp] at HST3 HST4
        have hd0 : decide ((0 : Int) < ((j + 1 : Nat) : Int)) = true := decide_eq_true (by omega)
        cases hu : Op.bytesLess g.toList f.toList
        · have HR := Lib.hid (HNO.out (HST4.out hu))
          clear HST3 HST4 hp hg
          go_wp2_with (first | (go_at_call 35; refine (sIsWord_any K f _ hfs).mono ?_; rw [HW.out]; rintro e w' ⟨rfl, rfl⟩) | (go_at_call 34; refine (l1In_any _ _ _ _).mono ?_; rw [HI.out]; rintro e w' ⟨rfl, rfl⟩))
          go_ret
          exact ⟨ret_bool HR.out.symm, HB.out⟩
        · have HN := Lib.hid (HST3.out hu)
          clear HST3 HST4 hp hg
          go_wp2_with (first | (go_at_call 35; refine (sIsWord_any K f _ hfs).mono ?_; rw [HW.out]; rintro e w' ⟨rfl, rfl⟩) | (go_at_call 34; refine (l1In_any _ _ _ _).mono ?_; rw [HI.out]; rintro e w' ⟨rfl, rfl⟩))
          go_round
          case rel => exact ⟨j + 2, hlt, by go_num, HN.out⟩
          case measure => simp [intOf]; omega
    · have HE := Lib.hid (okF_end (by have := HL.out; omega) hr.out)
      clear hr
      have hnn : k = n := by omega
      cases hK : inR K 1 3
      · have HR : Hid (isSh K F = false) := by show _ = _; simp [isSh, hK]
        have HK := Lib.hid hK
        clear hK
        go_wp2_with (go_at_call 34; refine (l1In_any _ _ _ _).mono ?_; rw [HK.out]; rintro e w' ⟨rfl, rfl⟩)
        go_ret
        exact ⟨ret_bool HR.out.symm, HB.out⟩
      · have HR : Hid (isSh K F = decide ((n : Int) ≤ 8)) := by show _ = _; simp [isSh, hK, HE.out, HL.out]; omega
        have HK := Lib.hid hK
        clear hK
        go_wp2_with (go_at_call 34; refine (l1In_any _ _ _ _).mono ?_; rw [HK.out]; rintro e w' ⟨rfl, rfl⟩)
        go_ret
        exact ⟨ret_bool HR.out.symm, HB.out⟩
end Go.Proofs.Ytmkodbkbgpjgoaa

namespace Go.Proofs.Ytmkodbkbgpjgoaa
open Go.RowKit
set_option linter.all false
theorem own_lt {w : World} {lo n p cap : Nat} {ao : Option Addr} {F : List ByteArray} (h : OStrs w lo (.slice ao n cap) n F) : ∀ g, (Value.slice ao p cap).ownBlock = some g → g < w.heap.size := fun g e => (h.ownlt g (by cases ao <;> exact e)).2
theorem rest_kept {w w7 w8 : World} {m c7 : Nat} {a7 : Option Addr} {R : List ByteArray} {u : Value} (h : OStrs w7 w.heap.size (.slice a7 m c7) m R) (hu : ∀ g, u.ownBlock = some g → g < w.heap.size) (hg : w7.grownBy w8 u.ownBlock) : Strs w8 a7 m R := by
  refine (h.grown hg ?_).read
  cases hv : (Value.slice a7 m c7).ownBlock with
  | none => exact .inl rfl
  | some g =>
    right
    intro e
    have h1 := (h.ownlt g hv).1
    have h2 := hu g e.symm
    omega
theorem put_mem (F : List ByteArray) (x : ByteArray) (p : Nat) : ∀ f ∈ F.take p ++ [x] ++ F.drop p, f ∈ F ∨ f = x := by
  intro f hf
  simp only [List.mem_append, List.mem_singleton] at hf
  rcases hf with (h | h) | h
  · exact .inl (List.mem_of_mem_take h)
  · exact .inr h
  · exact .inl (List.mem_of_mem_drop h)
def putT (lo : Nat) (F : List ByteArray) (x : ByteArray) (w w' : World) (e : Ending) : Prop := ∃ (v : Value) (G : List ByteArray), e = .returned v ∧ OStrs w' lo v G.length G ∧ (∀ f ∈ G, f ∈ F ∨ f = x) ∧ G.length ≤ F.length + 1 ∧ Below lo w w'
set_option maxRecDepth 20000 in
set_option maxHeartbeats 6400000 in
theorem l2Put_any (lo : Nat) (v : Value) (F : List ByteArray) (x : ByteArray) (w : World) (h : OStrs w lo v F.length F) (hn : F.length ≤ 1000) (hlo : lo ≤ w.heap.size) :
    Calls Try.prog 75 #[v, .string x] w fun e w' => putT lo F x w w' e := by
  obtain ⟨ao, cap, rfl, hr⟩ := h.form
  have HO := Lib.hid h
  have HI := Lib.hid hr
  obtain ⟨n, hnn⟩ : ∃ n, F.length = n := ⟨_, rfl⟩
  have HN := Lib.hid hnn
  rw [hnn] at HO HI hn ⊢
  clear h hr hnn
  go_enter Try.func75, Try.ntmps75
  go_wp2_with fail
  go_loop [5] (fun y => ∃ p : Nat, p ≤ n ∧ y = .int .i64 p) (fun y => n - (intOf y).toNat)
  case atStart => exact ⟨0, Nat.zero_le _, rfl⟩
  case round =>
    obtain ⟨p, hp, rfl⟩ := hrel
    by_cases hlt : p < n
    · obtain ⟨b, o, s, rfl, hc, hs⟩ := HI.out.at_ hlt
      clear hs
      cases hl : Op.bytesLess s.toList x.toList
      · cases he : (s.toList == x.toList)
        · have hs1 := slice_fromS (some ⟨b, o, none⟩) HO.out.ok2 n cap p (by omega)
          have hs2 := slice_toS (some ⟨b, o, none⟩) n cap p (by have := HO.out.capLe rfl; omega)
          obtain ⟨pa, hpa⟩ : ∃ pa, fromAd (some ⟨b, o, none⟩) cap p = pa := ⟨_, rfl⟩
          have hdr := HO.out.dropped (i := p) (by omega)
          obtain ⟨q, hq⟩ : ∃ q, n - p = q := ⟨_, rfl⟩
          have HQ : Hid (p + 1 + q = n + 1) := by show _ = _; omega
          have hq1 : p + 1 + q ≤ 1099511627776 := by omega
          have hq0 : 0 + q ≤ 1099511627776 := by omega
          have hp1 : p + 1 ≤ 1099511627776 := by omega
          have hpn' : p ≤ n := by omega
          rw [hpa, hq] at hs1 hdr
          clear hq
          have HDR := Lib.hid hdr
          have HAP : Hid (∀ (g : Nat), (Value.slice (some ⟨b, o, none⟩) p cap).ownBlock = some g → g < w.heap.size) := own_lt HO.out
          clear hdr hpa
          go_wp2_with (first
            | (at_builtin; refine wpList_app_strs w8 rfl (.tmp 44) (.tmp 45) rfl lo _ (p + 1) _ rfl HO8.out _ _ _ (F.drop p) rfl HR8.out hq1 (Nat.le_trans hlo HB8.out.size) ?_; intro v9 w9 ho9 hg9 hn9; have HO9 := Lib.hid ho9; have HB9 : Hid (Below lo w w9) := HB8.out.grown hg9 (Nat.le_trans hlo HB8.out.size) (fun b hb => (HO8.out.ownlt b hb).1); clear ho9 hg9 hn9)
            | (at_builtin; refine wpList_push_strAt w7 x rfl (.tmp 41) (.tmp 43) rfl lo (.slice (some ⟨b, o, none⟩) p cap) p (F.take p) rfl HC7.out hp1 (Nat.le_trans hlo HB7.out.size) _ rfl rfl ?_; intro v8 w8 ho8 hg8 hn8; have HO8 := Lib.hid ho8; have HR8 : Hid (Strs w8 a7 q (F.drop p)) := rest_kept (u := .slice (some ⟨b, o, none⟩) p cap) HO7.out HAP.out (by exact hg8); have HB8 : Hid (Below lo w w8) := HB7.out.grown hg8 (Nat.le_trans hlo HB7.out.size) (fun b hb => (HC7.out.ownlt b hb).1); clear ho8 hg8 hn8)
            | (at_builtin; refine wpList_app_strs (w.alloc (.cells #[] 9)) rfl (.tmp 34) (.tmp 37) rfl w.heap.size _ 0 [] rfl (OStrs.empty _ _ (Nat.le_refl _)) pa q (cap - p) (F.drop p) rfl (HDR.out.keep (belowA w _)) hq0 (by simp) ?_; intro v7 w7 ho7 hg7 _; rw [Nat.zero_add, List.nil_append] at ho7; obtain ⟨a7, c7, rfl, _⟩ := ho7.form; have HO7 := Lib.hid ho7; have HBw : Hid (Below w.heap.size w w7) := (belowA w _).grown hg7 (by simp) (fun b hb => ((OStrs.empty w w.heap.size (Nat.le_refl _)).ownlt b hb).1); have HC7 := Lib.hid ((HO.out.keep HBw.out).cutTo hpn'); have HB7 := Lib.hid (HBw.out.mono hlo); clear ho7 hg7))
          go_ret
          have h9 := HO9.out
          rw [HQ.out] at h9
          have e9 := h9.len
          exact ⟨_, _, rfl, (by rw [← e9] at h9; exact h9), put_mem _ _ _, (by rw [e9, HN.out]; exact Nat.le_refl _), HB9.out⟩
        · go_wp2_with fail
          go_ret
          exact ⟨_, F, rfl, (by rw [HN.out]; exact HO.out), (fun f hf => .inl hf), Nat.le_succ _, Below.refl _ _⟩
      · go_wp2_with fail
        go_round
        case rel => exact ⟨p + 1, hlt, by go_num⟩
        case measure => simp [intOf]; omega
    · have hpn : n ≤ p := by omega
      have hs1 := slice_fromS ao HO.out.ok2 n cap p (by omega)
      have hs2 := slice_toS ao n cap p (by have := HO.out.capLe rfl; omega)
      obtain ⟨pa, hpa⟩ : ∃ pa, fromAd ao cap p = pa := ⟨_, rfl⟩
      have hdr := HO.out.dropped (i := p) (by omega)
      obtain ⟨q, hq⟩ : ∃ q, n - p = q := ⟨_, rfl⟩
      have HQ : Hid (p + 1 + q = n + 1) := by show _ = _; omega
      have hq1 : p + 1 + q ≤ 1099511627776 := by omega
      have hq0 : 0 + q ≤ 1099511627776 := by omega
      have hp1 : p + 1 ≤ 1099511627776 := by omega
      have hpn' : p ≤ n := by omega
      rw [hpa, hq] at hs1 hdr
      clear hq
      have HDR := Lib.hid hdr
      have HAP : Hid (∀ (g : Nat), (Value.slice ao p cap).ownBlock = some g → g < w.heap.size) := own_lt HO.out
      clear hdr hpa
      go_wp2_with (first
        | (at_builtin; refine wpList_app_strs w8 rfl (.tmp 44) (.tmp 45) rfl lo _ (p + 1) _ rfl HO8.out _ _ _ (F.drop p) rfl HR8.out hq1 (Nat.le_trans hlo HB8.out.size) ?_; intro v9 w9 ho9 hg9 hn9; have HO9 := Lib.hid ho9; have HB9 : Hid (Below lo w w9) := HB8.out.grown hg9 (Nat.le_trans hlo HB8.out.size) (fun b hb => (HO8.out.ownlt b hb).1); clear ho9 hg9 hn9)
        | (at_builtin; refine wpList_push_strAt w7 x rfl (.tmp 41) (.tmp 43) rfl lo (.slice ao p cap) p (F.take p) rfl HC7.out hp1 (Nat.le_trans hlo HB7.out.size) _ rfl rfl ?_; intro v8 w8 ho8 hg8 hn8; have HO8 := Lib.hid ho8; have HR8 : Hid (Strs w8 a7 q (F.drop p)) := rest_kept (u := .slice ao p cap) HO7.out HAP.out (by exact hg8); have HB8 : Hid (Below lo w w8) := HB7.out.grown hg8 (Nat.le_trans hlo HB7.out.size) (fun b hb => (HC7.out.ownlt b hb).1); clear ho8 hg8 hn8)
        | (at_builtin; refine wpList_app_strs (w.alloc (.cells #[] 9)) rfl (.tmp 34) (.tmp 37) rfl w.heap.size _ 0 [] rfl (OStrs.empty _ _ (Nat.le_refl _)) pa q (cap - p) (F.drop p) rfl (HDR.out.keep (belowA w _)) hq0 (by simp) ?_; intro v7 w7 ho7 hg7 _; rw [Nat.zero_add, List.nil_append] at ho7; obtain ⟨a7, c7, rfl, _⟩ := ho7.form; have HO7 := Lib.hid ho7; have HBw : Hid (Below w.heap.size w w7) := (belowA w _).grown hg7 (by simp) (fun b hb => ((OStrs.empty w w.heap.size (Nat.le_refl _)).ownlt b hb).1); have HC7 := Lib.hid ((HO.out.keep HBw.out).cutTo hpn'); have HB7 := Lib.hid (HBw.out.mono hlo); clear ho7 hg7))
      go_ret
      have h9 := HO9.out
      rw [HQ.out] at h9
      have e9 := h9.len
      exact ⟨_, _, rfl, (by rw [← e9] at h9; exact h9), put_mem _ _ _, (by rw [e9, HN.out]; exact Nat.le_refl _), HB9.out⟩
end Go.Proofs.Ytmkodbkbgpjgoaa

namespace Go.Proofs.Ytmkodbkbgpjgoaa
open Go.RowKit
set_option linter.all false
/- The draws of words and of shifts. -/
theorem Cur.put {w : World} {b lo : Nat} (h : Cur w b lo) {p : Addr} (hp : b < p.block) (u : Value) : Cur (w.setCell p u) b lo :=
  h.grown (row := some p.block) (only_setCell (World.grownBy.refl w (some p.block)) rfl u) (fun g e => by injection e; omega)
theorem Cur.below {B : Nat} {w w' : World} {b lo : Nat} (h : Cur w b lo) (hb : Below B w w') (hB : b < B) : Cur w' b lo := by
  have hl := h.lt
  obtain ⟨h1, ao, n, c, k, x, hh, h2, h3, h4⟩ := h
  refine ⟨h1, ao, n, c, k, x, (hb.block b hB).trans hh, h2, h3, fun i hi => ?_⟩
  obtain ⟨q, o, y, e, hq, hc, hy⟩ := h4 i hi
  exact ⟨q, o, y, e, hq, (hb.cell (p := ⟨q, o + i, none⟩) (by show q < B; omega)).trans hc, hy⟩
theorem grown_belowB {B b : Nat} {w W w' : World} (h : w.grownBy W (some b)) (k : Below B W w') (hB : w.heap.size ≤ B) : w.grownBy w' (some b) := by
  refine ⟨k.os.trans h.os, ?_, k.output.trans h.output, Nat.le_trans h.size k.size, fun i hi hne => (k.block i (by omega)).trans (h.block i hi hne)⟩
  first | exact k.tape.trans h.tape | exact Nat.le_trans h.tape k.tape | exact h.tape.trans k.tape
theorem Blk.below {B : Nat} {w w' : World} {g : Nat} {t : TypeId} {us : Array Value} (h : Blk w g t us) (hb : Below B w w') (hg : g < B) : Blk w' g t us := (hb.block g hg).trans h
theorem OStrs.setFar' {w : World} {lo n : Nat} {v : Value} {ss : List ByteArray} (h : OStrs w lo v n ss) {p : Addr} (hne : v.ownBlock ≠ some p.block) (u : Value) : OStrs (w.setCell p u) lo v n ss :=
  h.grown (row := some p.block) (only_setCell (World.grownBy.refl w (some p.block)) rfl u) (by
    cases hv : v.ownBlock with
    | none => exact .inl rfl
    | some g => right; intro e; injection e with e; exact hne (hv.trans (by rw [e])))
def abc3 : List ByteArray := [⟨#[97]⟩, ⟨#[98]⟩, ⟨#[99]⟩]
theorem abc3_one {s : ByteArray} {k : Nat} (h : s ∈ abc3.take k) : s.size = 1 := by
  have h := List.mem_of_mem_take h
  simp only [abc3, List.mem_cons, List.not_mem_nil, or_false] at h
  rcases h with rfl | rfl | rfl <;> rfl
theorem abc3_len {k : Nat} (h : k ≤ 3) : (abc3.take k).length = k := by simp [abc3]; omega
theorem abc3_cell (w : World) (k i : Nat) (s : ByteArray) (hs : (abc3.take k)[i]? = some s) : (w.alloc (.cells (abc3.map Value.string).toArray 9)).cell? ⟨w.heap.size, i, none⟩ = some (.string s) := by
  have : abc3[i]? = some s := by
    rw [List.getElem?_take] at hs
    split at hs
    · exact hs
    · cases hs
  exact (OStrs.lit w w.heap.size abc3 (Nat.le_refl _) (by decide)).cell this
set_option maxRecDepth 20000 in
set_option maxHeartbeats 3200000 in
theorem l2Draw_gen (b lo k most : Nat) (w : World) (h : Cur w b lo) (hk1 : 1 ≤ k) (hk3 : k ≤ 3) (hm : most ≤ 20) :
    Calls Try.prog 31 #[.pointer (some ⟨b, 0, none⟩), .int .i64 k, .int .i64 most] w fun e w' => ∃ s : ByteArray, s.size ≤ most ∧ e = .returned (.string s) ∧ Cur w' b lo ∧ w.grownBy w' (some b) := by
  have H := Lib.hid h
  obtain ⟨M, hM⟩ : ∃ M : Nat, (most : Int) + 1 = M := ⟨most + 1, by omega⟩
  have HM : Hid (M = most + 1) := by show _ = _; omega
  have hM1 : 1 ≤ M := by omega
  have hM2 : M ≤ 256 := by omega
  clear h
  go_enter Try.func31, Try.ntmps31
  go_wp2_with (first
    | (go_at_call 28; refine (l1Below_any b lo M _ H.out hM1 hM2).mono ?_; rintro e w1 ⟨m, hm, rfl, hc1, hg1⟩; have Hc1 := Lib.hid hc1; have Hg1 := Lib.hid hg1; clear hc1 hg1))
  clear hM
  go_loopw [7, 8] (fun v x wr => ∃ (i : Nat) (s : ByteArray), v = .string s ∧ x = .int .i64 i ∧ s.size + i ≤ most ∧ Cur wr b lo ∧ w.grownBy wr (some b)) (fun _ x _ => (intOf x).toNat)
  case atStart => exact ⟨m, ⟨#[]⟩, rfl, rfl, by have := HM.out; simp [ByteArray.size]; omega, Hc1.out, Hg1.out⟩
  case round =>
    obtain ⟨i, s, rfl, rfl, hsz, hcu, hgr⟩ := hrel
    have Hcu := Lib.hid hcu
    have Hgr := Lib.hid hgr
    have hbl := hcu.lt.2
    clear Hc1 Hg1 hcu hgr
    by_cases hi0 : 0 < i
    · have hq : ¬ (9223372036854775807 < s.size + 1) := by omega
      have hs2 := slice_toS (some ⟨wr.heap.size, 0, none⟩) 3 3 k hk3
      have HLC := Lib.hid (abc3_cell wr k)
      have HAL := Lib.hid (abc3_len hk3)
      go_wp2_with (first
        | (go_at_call 48; refine (l1Pick_any b lo wr.heap.size k 3 (abc3.take k) _ (Hcu.out.keep ((Below.refl _ _).alloc (Nat.le_refl _) _)) HAL.out HLC.out (by omega) hk1 (by omega)).mono ?_; rintro e w2 ⟨t, ht, rfl, hc2, hg2⟩; have ht1 := abc3_one ht; have Hc2 := Lib.hid hc2; have Hg2 := Lib.hid ((gr_alloc Hgr.out _).trans hg2); clear ht hc2 hg2; rw [← ht1] at hq))
      go_roundw
      case rel => exact ⟨i - 1, s ++ t, rfl, by go_num, by rw [ByteArray.size_append]; omega, Hc2.out, Hg2.out⟩
      case measure => simp [intOf]; omega
    · go_wp2_with fail
      go_ret
      exact ⟨s, by omega, rfl, Hcu.out, Hgr.out⟩
def shS (s : ByteArray) (d : Nat) (F : List ByteArray) : Prop := pieces s 32 = digB d :: F ∧ d ≤ 9 ∧ isSh d F = true ∧ s.size ≤ 1000
def strs11 : List ByteArray := [⟨#[50, 32, 98, 98]⟩, ⟨#[50, 32, 97, 97, 32, 98, 98]⟩, ⟨#[50, 32, 97, 97, 98]⟩, ⟨#[51, 32, 97, 98, 32, 98, 99, 32, 99, 97]⟩, ⟨#[50]⟩, ⟨#[49]⟩, ⟨#[51, 32, 97, 97, 32, 98, 98, 32, 99, 99]⟩, ⟨#[50, 32, 97, 98, 97, 32, 98, 97, 98]⟩, ⟨#[50, 32, 97, 98]⟩, ⟨#[50, 32, 97, 97, 97, 32, 98, 98]⟩, ⟨#[51, 32, 97, 99, 32, 98, 98]⟩]
def shifts11 : List (Nat × List ByteArray) := [(2, [⟨#[98, 98]⟩]), (2, [⟨#[97, 97]⟩, ⟨#[98, 98]⟩]), (2, [⟨#[97, 97, 98]⟩]), (3, [⟨#[97, 98]⟩, ⟨#[98, 99]⟩, ⟨#[99, 97]⟩]), (2, []), (1, []), (3, [⟨#[97, 97]⟩, ⟨#[98, 98]⟩, ⟨#[99, 99]⟩]), (2, [⟨#[97, 98, 97]⟩, ⟨#[98, 97, 98]⟩]), (2, [⟨#[97, 98]⟩]), (2, [⟨#[97, 97, 97]⟩, ⟨#[98, 98]⟩]), (3, [⟨#[97, 99]⟩, ⟨#[98, 98]⟩])]
theorem strs11_all : ∀ p ∈ strs11.zip shifts11, shS p.1 p.2.1 p.2.2 := by unfold shS; decide +kernel
theorem strs11_get {s : ByteArray} (h : s ∈ strs11) : ∃ d F, shS s d F := by
  obtain ⟨i, hi⟩ := List.getElem?_of_mem h
  have hl : i < 11 := (List.getElem?_eq_some_iff.1 hi).1
  have hl2 : shifts11.length = 11 := by decide
  have hm : shifts11[i]? = some (shifts11[i]'(by omega)) := List.getElem?_eq_getElem _
  have hz : (strs11.zip shifts11)[i]? = some (s, shifts11[i]'(by omega)) := by rw [List.getElem?_zip_eq_some]; exact ⟨hi, hm⟩
  exact ⟨_, _, strs11_all _ (List.mem_of_getElem? hz)⟩
theorem below_sh2 {B : Nat} {a w : World} (h : Below B a w) {g : Nat} (hg : B ≤ g) (u0 u1 : Value) : Below B a ((w.setCell ⟨g, 0, none⟩ u0).setCell ⟨g, 1, none⟩ u1) :=
  (h.setCell (p := ⟨g, _, none⟩) hg u0).setCell (p := ⟨g, _, none⟩) hg u1
set_option maxRecDepth 20000 in
set_option maxHeartbeats 6400000 in
theorem sParseSh_any (s : ByteArray) (d : Nat) (F : List ByteArray) (w : World) (h : shS s d F) :
    Calls Try.prog 74 #[.string s] w fun e w' => ∃ v, e = .returned (.tuple #[.agg #[.int .i64 d, v], .bool true]) ∧ OStrs w' w.heap.size v F.length F ∧ Below w.heap.size w w' := by
  obtain ⟨hp, hd9, hsh, hs⟩ := h
  have HC := fun W => sSplitByte_any s 32 W (by omega) (by omega)
  rw [hp] at HC
  have HSH := Lib.hid hsh
  have HFZ : Hid (∀ f ∈ F, f.size ≤ 1048576) := fun f hf => by have := ((isSh_get hsh).2.2 f hf).2; omega
  obtain ⟨m, hm⟩ : ∃ m, F.length = m := ⟨_, rfl⟩
  have HM := Lib.hid hm
  have hm8 : m ≤ 8 := by have := (isSh_get hsh).2.1; omega
  simp only [List.length_cons, hm] at HC ⊢
  have HC := Lib.hid HC
  have HZ0 := Lib.hid (Blk.new w 78 #[.int .i64 0, .slice none 0 0])
  have HB1 := Lib.hid (below1 w (.cells #[.int .i64 0, .slice none 0 0] 78))
  clear hp hsh hm
  go_enter Try.func74, Try.ntmps74
  go_wp2_with fail
  generalize w.alloc (.cells #[.int .i64 0, .slice none 0 0] 78) = w1 at HZ0 HB1 ⊢
  refine (HC.out _).mono ?_
  rintro e w2 ⟨v2, rfl, ho2, hb2⟩
  obtain ⟨g, c2, rfl⟩ := ho2.head (by omega)
  have HO2 := Lib.hid ho2
  have HB2 := Lib.hid (HB1.out.trans (hb2.mono HB1.out.size))
  have HZ2 := Lib.hid (HZ0.out.keep hb2)
  have hg0 : w2.cell? ⟨g, 0, none⟩ = some (.string (digB d)) := ho2.cell rfl
  have hm0 : 0 < m + 1 := by omega
  clear ho2 hb2
  go_wp2_with fail
  refine (parseDig_any d _ hd9).mono ?_
  rintro e w3 ⟨rfl, hb3⟩
  have HO3 := Lib.hid (HO2.out.keep hb3)
  have HB3 := Lib.hid (HB2.out.trans (hb3.mono HB2.out.size))
  have HZ3 := Lib.hid (HZ2.out.keep hb3)
  have hs1 := slice_fromS (some ⟨g, 0, none⟩) HO3.out.ok2 (m + 1) c2 1 (by omega)
  obtain ⟨pa, hpa⟩ : ∃ pa, fromAd (some ⟨g, 0, none⟩) c2 1 = pa := ⟨_, rfl⟩
  have hdr := HO3.out.dropped (i := 1) (by omega)
  rw [hpa, Nat.add_sub_cancel] at hs1 hdr
  rw [show ((1 : Nat) : Int) = 1 from rfl] at hs1
  have HDR : Hid (Strs w3 pa m F) := hdr
  have hm1 : 0 + m ≤ 1099511627776 := by omega
  clear hdr hpa hg0 hb3
  go_wp2_with (at_builtin; refine wpList_app_strs (w3.alloc (.cells #[] 9)) rfl (.tmp 18) (.tmp 20) rfl w3.heap.size _ 0 [] rfl (OStrs.empty _ _ (Nat.le_refl _)) pa m (c2 - 1) F rfl (HDR.out.keep (belowA w3 _)) hm1 (by simp) ?_; intro v4 w4 ho4 hg4 _; rw [Nat.zero_add, List.nil_append] at ho4; obtain ⟨a4, c4, rfl, _⟩ := ho4.form; have HO4 := Lib.hid ho4; have HBw : Hid (Below w3.heap.size w3 w4) := (belowA w3 _).grown hg4 (by simp) (fun b hb => ((OStrs.empty w3 w3.heap.size (Nat.le_refl _)).ownlt b hb).1); have HB4 := Lib.hid (HB3.out.trans (HBw.out.mono HB3.out.size)); have HZ4 := Lib.hid (HZ3.out.keep HBw.out); have HX := Lib.hid (Blk.new w4 78 #[.int .i64 d, .slice a4 m c4]); have k0 := HX.out.cell 0; have k1 := HX.out.cell 1; change _ = some _ at k0; change _ = some _ at k1; have HB5 := Lib.hid (below1 w4 (.cells #[.int .i64 d, .slice a4 m c4] 78)); clear ho4 hg4)
  generalize w4.alloc (.cells #[.int .i64 d, .slice a4 m c4] 78) = w5 at HX HB5 k0 k1 ⊢
  refine (sIsShift_any d a4 m c4 F _ (HO4.out.keep HB5.out).read HFZ.out).mono ?_
  rw [HSH.out]
  rintro e w6 ⟨rfl, hb6⟩
  have HX6 := Lib.hid (HX.out.keep hb6)
  have k0 := HX6.out.cell 0
  have k1 := HX6.out.cell 1
  change _ = some _ at k0
  change _ = some _ at k1
  have HZ6 := Lib.hid ((HZ4.out.keep HB5.out).keep hb6)
  have z0 := HZ6.out.cell 0
  have z1 := HZ6.out.cell 1
  change _ = some _ at z0
  change _ = some _ at z1
  have f0 := HZ6.out.frozen 0
  have f1 := HZ6.out.frozen 1
  have hlz : w.heap.size < w3.heap.size := HZ3.out.lt
  have HO6 := Lib.hid ((HO4.out.keep HB5.out).keep hb6)
  have HNR : Hid ((Value.slice a4 m c4).ownBlock ≠ some w.heap.size) := by
    show _
    intro e
    have := (HO6.out.ownlt _ e).1
    omega
  have HB6 := Lib.hid ((HB4.out.trans (HB5.out.mono HB4.out.size)).trans (hb6.mono (Nat.le_trans HB4.out.size HB5.out.size)))
  clear hb6
  go_wp2_with fail
  refine bodyPost_ret (v := .tuple #[.agg #[.int .i64 d, .slice a4 m c4], .bool true]) (by simp [results, Try.results74, go_sem, *]) rfl ?_
  exact ⟨_, rfl, ((HO6.out.mono (Nat.le_of_lt hlz)).setFar' HNR.out _).setFar' HNR.out _, below_sh2 HB6.out (Nat.le_refl _) _ _⟩
end Go.Proofs.Ytmkodbkbgpjgoaa

namespace Go.Proofs.Ytmkodbkbgpjgoaa
open Go.RowKit
set_option linter.all false
theorem filt_step {α : Type} {p : α → Bool} {L acc R : List α} {i : Nat} {x : α} (hx : L[i]? = some x) (h : acc ++ (L.drop i).filter p = R) :
    (p x = true → (acc ++ [x]) ++ (L.drop (i + 1)).filter p = R) ∧ (p x = false → acc ++ (L.drop (i + 1)).filter p = R) := by
  rw [drop_of_get hx, List.filter_cons] at h
  constructor
  · intro e; simpa [e] using h
  · intro e; simpa [e] using h
theorem filt_end {α : Type} {p : α → Bool} {L acc R : List α} {i : Nat} (hi : L.length ≤ i) (h : acc ++ (L.drop i).filter p = R) : acc = R := by
  rw [drop_all L i hi] at h
  simpa using h
end Go.Proofs.Ytmkodbkbgpjgoaa

namespace Go.Proofs.Ytmkodbkbgpjgoaa
open Go.RowKit
set_option linter.all false
def hasT (P : List ByteArray) (x : ByteArray) : Bool := P.any fun p => p.toList == x.toList
theorem any_step {α : Type} {f : α → Bool} {P : List α} {p : α} {k : Nat} {b : Bool} (hp : P[k]? = some p) (h : (P.drop k).any f = b) :
    (f p = true → b = true) ∧ (f p = false → (P.drop (k + 1)).any f = b) := by
  rw [drop_of_get hp, List.any_cons] at h
  exact ⟨fun e => by rw [e] at h; exact h.symm, fun e => by rw [e] at h; exact h⟩
theorem any_end {α : Type} {f : α → Bool} {P : List α} {k : Nat} {b : Bool} (hk : P.length ≤ k) (h : (P.drop k).any f = b) : b = false := by
  rw [List.drop_eq_nil_of_le hk] at h
  exact h.symm
def goP (F : List ByteArray) (x : ByteArray) (beh : Bool) (p : ByteArray) : Bool :=
  if beh then (bl p 0 == bl x 1) && avB F (x ++ p.extract 1 p.size) else (bl p 1 == bl x 0) && avB F (p ++ x.extract 1 x.size)
def goesB (F P : List ByteArray) (x : ByteArray) (beh : Bool) : Bool := P.any (goP F x beh)
def okP (F P : List ByteArray) (x : ByteArray) : Bool := goesB F P x true && goesB F P x false
def pairsF (F : List ByteArray) : Nat → List ByteArray → List ByteArray
  | 0, P => P
  | f + 1, P => if (P.filter (okP F P)).length = P.length then P else pairsF F f (P.filter (okP F P))
def pairsS (K : Nat) (F : List ByteArray) : List ByteArray := pairsF F 10 ((allW K 2).filter (avB F))
theorem pairsF_step {F P R : List ByteArray} {f : Nat} (h : pairsF F f P = R) (hf : P.length < f) :
    ((P.filter (okP F P)).length = P.length → P = R) ∧ ((P.filter (okP F P)).length ≠ P.length → pairsF F (f - 1) (P.filter (okP F P)) = R ∧ (P.filter (okP F P)).length < f - 1) := by
  obtain ⟨g, rfl⟩ : ∃ g, f = g + 1 := ⟨f - 1, by omega⟩
  rw [pairsF] at h
  refine ⟨fun e => ?_, fun e => ?_⟩
  · rw [if_pos e] at h; exact h
  · rw [if_neg e] at h
    have := List.length_filter_le (okP F P) P
    exact ⟨h, by omega⟩
theorem pairsF_sub {F : List ByteArray} : ∀ {f : Nat} {P : List ByteArray} {x : ByteArray}, x ∈ pairsF F f P → x ∈ P
  | 0, _, _, h => h
  | f + 1, P, x, h => by
    rw [pairsF] at h
    split at h
    · exact h
    · exact (List.mem_filter.1 (pairsF_sub h)).1
theorem allW_mem {K n : Nat} {s : ByteArray} (h : s ∈ allW K n) : ∃ i, i < K ^ n ∧ s = wordN K n i := by
  simp only [allW, List.mem_map, List.mem_range] at h
  obtain ⟨i, hi, rfl⟩ := h
  exact ⟨i, hi, rfl⟩
theorem pairs_size {K : Nat} {F : List ByteArray} {x : ByteArray} (h : x ∈ pairsS K F) : x.size = 2 := by
  obtain ⟨i, _, rfl⟩ := allW_mem (List.mem_filter.1 (pairsF_sub h)).1
  exact wordN_size K 2 i
theorem words2_len {K : Nat} {F : List ByteArray} (hK : K ≤ 3) : ((allW K 2).filter (avB F)).length ≤ 9 := by
  refine Nat.le_trans (List.length_filter_le _ _) ?_
  rw [allW_len]
  have : K ^ 2 ≤ 3 ^ 2 := Nat.pow_le_pow_left hK 2
  omega
theorem pairsF_len {F : List ByteArray} : ∀ {f : Nat} {P : List ByteArray}, (pairsF F f P).length ≤ P.length
  | 0, _ => Nat.le_refl _
  | f + 1, P => by
    rw [pairsF]
    split
    · exact Nat.le_refl _
    · exact Nat.le_trans pairsF_len (List.length_filter_le _ _)
theorem pairs_len {K : Nat} {F : List ByteArray} (hK : K ≤ 3) : (pairsS K F).length ≤ 9 := Nat.le_trans pairsF_len (words2_len hK)
def inL (F P : List ByteArray) (s : ByteArray) : Bool :=
  (!P.isEmpty && avB F s) && (if 2 ≤ s.size then hasT P (s.extract 0 2) && hasT P (s.extract (s.size - 2) s.size) else P.any fun p => occ p s)
def lang (K : Int) (F : List ByteArray) (n : Int) : List ByteArray := if isSh K F && inR n 0 6 then (allW K.toNat n.toNat).filter (inL F (pairsS K.toNat F)) else []
theorem lang_mem {K : Int} {F : List ByteArray} {n : Int} {s : ByteArray} (h : s ∈ lang K F n) : (isSh K F = true ∧ (0 ≤ n ∧ n ≤ 6)) ∧ s ∈ allW K.toNat n.toNat ∧ inL F (pairsS K.toNat F) s = true := by
  unfold lang at h
  split at h
  · rename_i e
    simp only [Bool.and_eq_true] at e
    have := List.mem_filter.1 h
    exact ⟨⟨e.1, inR_true e.2⟩, this⟩
  · simp at h
theorem lang_size {K : Int} {F : List ByteArray} {n : Int} {s : ByteArray} (h : s ∈ lang K F n) : (s.size : Int) = n := by
  obtain ⟨⟨_, h0⟩, h1, _⟩ := lang_mem h
  obtain ⟨i, _, rfl⟩ := allW_mem h1
  rw [wordN_size]
  omega
theorem lang_wd {K : Int} {F : List ByteArray} {n : Int} {s : ByteArray} (h : s ∈ lang K F n) : isWd K s = true := by
  obtain ⟨⟨hs, h0⟩, h1, _⟩ := lang_mem h
  have hg := (isSh_get hs).1
  obtain ⟨i, _, rfl⟩ := allW_mem h1
  have := isWd_word (k := K.toNat) (n := n.toNat) (i := i) (by omega) (by omega) (by omega)
  rwa [Int.toNat_of_nonneg (by omega)] at this
theorem lang_len {K : Int} {F : List ByteArray} {n : Int} : (lang K F n).length ≤ 3 ^ n.toNat := by
  unfold lang
  split
  · rename_i e
    simp only [Bool.and_eq_true] at e
    have hg := (isSh_get e.1).1
    refine Nat.le_trans (List.length_filter_le _ _) ?_
    rw [allW_len]
    exact Nat.pow_le_pow_left (by omega) _
  · simp
def adj (F : List ByteArray) (x y : ByteArray) : Bool := (bl x 1 == bl y 0) && avB F (x ++ y.extract 1 y.size)
def adjI (F : List ByteArray) (x y : ByteArray) : Int := if adj F x y then 1 else 0
def adjRow (F S : List ByteArray) (x : ByteArray) : List Int := S.map (adjI F x)
def graphL (F S : List ByteArray) : List (List Int) := S.map (adjRow F S)
theorem adjRow_len (F S : List ByteArray) (x : ByteArray) : (adjRow F S x).length = S.length := by simp [adjRow]
theorem graphL_len (F S : List ByteArray) : (graphL F S).length = S.length := by simp [graphL]
theorem adjRow_get {F S : List ByteArray} {x y : ByteArray} {j : Nat} (h : S[j]? = some y) : (adjRow F S x)[j]? = some (adjI F x y) := by simp [adjRow, h]
theorem graphL_get {F S : List ByteArray} {x : ByteArray} {i : Nat} (h : S[i]? = some x) : (graphL F S)[i]? = some (adjRow F S x) := by simp [graphL, h]
end Go.Proofs.Ytmkodbkbgpjgoaa

namespace Go.Proofs.Ytmkodbkbgpjgoaa
open Go.RowKit
set_option linter.all false
set_option maxHeartbeats 800000 in
theorem sHas_any (ao : Option Addr) (n cap : Nat) (P : List ByteArray) (x : ByteArray) (w : World) (h : Strs w ao n P) :
    Calls Try.prog 95 #[.slice ao n cap, .string x] w fun e w' => e = .returned (.bool (hasT P x)) ∧ w = w' := by
  have hn := h.1
  have hm := h.2.1
  have H := Lib.hid h
  clear h
  go_enter Try.func95, Try.ntmps95
  go_wp2_with fail
  go_loop [5] (fun v => ∃ k : Nat, k ≤ n ∧ v = .int .i64 k ∧ Hid ((P.drop k).any (fun p => p.toList == x.toList) = hasT P x)) (fun v => n - (intOf v).toNat)
  case atStart => exact ⟨0, Nat.zero_le _, rfl, rfl⟩
  case round =>
    obtain ⟨k, hk, rfl, hr⟩ := hrel
    by_cases hlt : k < n
    · obtain ⟨b, o, p, rfl, hc, hp⟩ := H.out.at_ hlt
      have HST := Lib.hid (any_step hp.out hr.out)
      clear hp hr
      cases ho : (p.toList == x.toList)
      · have HN := Lib.hid (HST.out.2 ho)
        clear HST
        go_wp2_with fail
        go_round
        case rel => exact ⟨k + 1, hlt, by go_num, HN.out⟩
        case measure => simp [intOf]; omega
      · have HN := Lib.hid (HST.out.1 ho)
        clear HST
        go_wp2_with fail
        go_ret
        exact ⟨ret_bool HN.out.symm, rfl⟩
    · have HE := Lib.hid (any_end (by omega) hr.out)
      clear hr
      go_wp2_with fail
      go_ret
      exact ⟨ret_bool HE.out.symm, rfl⟩
end Go.Proofs.Ytmkodbkbgpjgoaa

namespace Go.Proofs.Ytmkodbkbgpjgoaa
open Go.RowKit
set_option linter.all false
theorem cat_size {x y : ByteArray} (hx : x.size ≤ 50) (hy : y.size ≤ 50) : (x ++ y.extract 1 y.size).size ≤ 100 := by
  rw [ByteArray.size_append, ByteArray.size_extract]; omega
set_option maxRecDepth 20000 in
set_option maxHeartbeats 3200000 in
theorem sGoesT_any (K : Int) (aF : Option Addr) (nF cF : Nat) (F : List ByteArray) (aP : Option Addr) (n cP : Nat) (P : List ByteArray) (x : ByteArray) (w : World) (h : Strs w aF nF F) (hF : ∀ f ∈ F, f.size ≤ 100) (hp : Strs w aP n P) (hP : ∀ p ∈ P, p.size = 2) (hx : x.size = 2) :
    Calls Try.prog 94 #[.agg #[.int .i64 K, .slice aF nF cF], .slice aP n cP, .string x, .bool true] w fun e w' => e = .returned (.bool (goesB F P x true)) ∧ Below w.heap.size w w' := by
  have hm := hp.2.1
  have HB1 := Lib.hid (below1 w (.cells #[.int .i64 K, .slice aF nF cF] 78))
  have HF1 := Lib.hid (h.keep HB1.out)
  have HP1 := Lib.hid (hp.keep HB1.out)
  have HK1 := Lib.hid (Blk.new w 78 #[.int .i64 K, .slice aF nF cF])
  have HL := Lib.hid hp.1
  have HPs := Lib.hid hP
  have hx1 : 1 < x.size := by omega
  have hx50 : x.size ≤ 50 := by omega
  obtain ⟨d, hd⟩ : ∃ d : Nat, x[1].toNat = d := ⟨_, rfl⟩
  have hbx : Hid (bl x 1 = d) := (bl_get hx1).trans hd
  clear h hp hP hx
  go_enter Try.func94, Try.ntmps94
  go_wp2_with fail
  generalize w.alloc (.cells #[.int .i64 K, .slice aF nF cF] 78) = w1 at HB1 HF1 HP1 HK1 ⊢
  have k1 : w1.cell? ⟨w.heap.size, 1, none⟩ = some (.slice aF nF cF) := HK1.out.cell 1
  go_loopw [9] (fun v wr => ∃ k : Nat, k ≤ n ∧ v = .int .i64 k ∧ Hid ((P.drop k).any (goP F x true) = goesB F P x true) ∧ Drew w1 wr) (fun v _ => n - (intOf v).toNat)
  case atStart => exact ⟨0, Nat.zero_le _, rfl, rfl, Drew.refl _⟩
  case round =>
    obtain ⟨k, hk, rfl, hr, ⟨m, rfl⟩⟩ := hrel
    by_cases hlt : k < n
    · obtain ⟨b, o, p, rfl, hc, hp⟩ := HP1.out.at_ hlt
      have hp2 := HPs.out p (List.mem_of_getElem? hp.out)
      have hp0 : 0 < p.size := by omega
      have hp1 : 1 ≤ p.size := by omega
      have hp50 : p.size ≤ 50 := by omega
      have hq : ¬ (9223372036854775807 < x.size + (p.size - 1)) := by omega
      obtain ⟨c, hcb⟩ : ∃ c : Nat, p[0].toNat = c := ⟨_, rfl⟩
      have hbp : bl p 0 = c := (bl_get hp0).trans hcb
      have HG : Hid (goP F x true p = ((c == d) && avB F (x ++ p.extract 1 p.size))) := by show _ = _; simp [goP, hbp, hbx.out]
      have HST := Lib.hid (any_step hp.out hr.out)
      have hsz := cat_size hx50 hp50
      clear hp hr hp2 hbp
      by_cases e : c = d
      · have de : ((c : Int) == (d : Int)) = true := beq_iff_eq.2 (by omega)
        cases hav : avB F (x ++ p.extract 1 p.size)
        · have HN := Lib.hid (HST.out.2 (by rw [HG.out, hav]; simp))
          clear HST HG e
          go_wp2_with fail
          go_quiet ((go_at_call 82; first | exact quiet_La (sAvoids_any _ _ _ F _ _ (HF1.out.drewN _) hsz hF) | exact quiet_L (sAvoids_any _ _ _ F _ _ (HF1.out.drewN _) hsz hF)))
          go_wp2_with fail
          go_quiet (fail)
          go_wp2_with fail
          go_roundw
          case rel => exact ⟨k + 1, hlt, by go_num, HN.out, (by first | exact Drew.refl _ | exact Drew.mk _ _ | exact (Drew.mk _ _).drewN _)⟩
          case measure => simp [intOf]; omega
        · have HN := Lib.hid (HST.out.1 (by rw [HG.out, hav]; simp [e]))
          clear HST HG e
          go_wp2_with fail
          go_quiet ((go_at_call 82; first | exact quiet_La (sAvoids_any _ _ _ F _ _ (HF1.out.drewN _) hsz hF) | exact quiet_L (sAvoids_any _ _ _ F _ _ (HF1.out.drewN _) hsz hF)))
          go_wp2_with fail
          go_ret
          exact ⟨ret_bool HN.out.symm, (by first | exact below_drewN HB1.out _ | exact below_drewN (below_drewN HB1.out _) _ | exact below_drewN (below_drewN (below_drewN HB1.out _) _) _)⟩
      · have de : ((c : Int) == (d : Int)) = false := beq_eq_false_iff_ne.2 (by omega)
        have HN := Lib.hid (HST.out.2 (by rw [HG.out]; simp [e]))
        clear HST HG e hq
        go_wp2_with fail
        go_quiet (fail)
        go_wp2_with fail
        go_quiet (fail)
        go_wp2_with fail
        go_roundw
        case rel => exact ⟨k + 1, hlt, by go_num, HN.out, (by first | exact Drew.refl _ | exact Drew.mk _ _ | exact (Drew.mk _ _).drewN _)⟩
        case measure => simp [intOf]; omega
    · have HE := Lib.hid (any_end (by have := HL.out; omega) hr.out)
      clear hr
      go_wp2_with fail
      go_ret
      exact ⟨ret_bool HE.out.symm, below_drewN HB1.out _⟩
set_option maxRecDepth 20000 in
set_option maxHeartbeats 3200000 in
theorem sGoesF_any (K : Int) (aF : Option Addr) (nF cF : Nat) (F : List ByteArray) (aP : Option Addr) (n cP : Nat) (P : List ByteArray) (x : ByteArray) (w : World) (h : Strs w aF nF F) (hF : ∀ f ∈ F, f.size ≤ 100) (hp : Strs w aP n P) (hP : ∀ p ∈ P, p.size = 2) (hx : x.size = 2) :
    Calls Try.prog 94 #[.agg #[.int .i64 K, .slice aF nF cF], .slice aP n cP, .string x, .bool false] w fun e w' => e = .returned (.bool (goesB F P x false)) ∧ Below w.heap.size w w' := by
  have hm := hp.2.1
  have HB1 := Lib.hid (below1 w (.cells #[.int .i64 K, .slice aF nF cF] 78))
  have HF1 := Lib.hid (h.keep HB1.out)
  have HP1 := Lib.hid (hp.keep HB1.out)
  have HK1 := Lib.hid (Blk.new w 78 #[.int .i64 K, .slice aF nF cF])
  have HL := Lib.hid hp.1
  have HPs := Lib.hid hP
  have hx0 : 0 < x.size := by omega
  have hx1 : 1 ≤ x.size := by omega
  have hx50 : x.size ≤ 50 := by omega
  obtain ⟨d, hd⟩ : ∃ d : Nat, x[0].toNat = d := ⟨_, rfl⟩
  have hbx : Hid (bl x 0 = d) := (bl_get hx0).trans hd
  clear h hp hP hx
  go_enter Try.func94, Try.ntmps94
  go_wp2_with fail
  generalize w.alloc (.cells #[.int .i64 K, .slice aF nF cF] 78) = w1 at HB1 HF1 HP1 HK1 ⊢
  have k1 : w1.cell? ⟨w.heap.size, 1, none⟩ = some (.slice aF nF cF) := HK1.out.cell 1
  go_loopw [9] (fun v wr => ∃ k : Nat, k ≤ n ∧ v = .int .i64 k ∧ Hid ((P.drop k).any (goP F x false) = goesB F P x false) ∧ Drew w1 wr) (fun v _ => n - (intOf v).toNat)
  case atStart => exact ⟨0, Nat.zero_le _, rfl, rfl, Drew.refl _⟩
  case round =>
    obtain ⟨k, hk, rfl, hr, ⟨m, rfl⟩⟩ := hrel
    by_cases hlt : k < n
    · obtain ⟨b, o, p, rfl, hc, hp⟩ := HP1.out.at_ hlt
      have hp2 := HPs.out p (List.mem_of_getElem? hp.out)
      have hp1 : 1 < p.size := by omega
      have hp50 : p.size ≤ 50 := by omega
      have hq : ¬ (9223372036854775807 < p.size + (x.size - 1)) := by omega
      obtain ⟨c, hcb⟩ : ∃ c : Nat, p[1].toNat = c := ⟨_, rfl⟩
      have hbp : bl p 1 = c := (bl_get hp1).trans hcb
      have HG : Hid (goP F x false p = ((c == d) && avB F (p ++ x.extract 1 x.size))) := by show _ = _; simp [goP, hbp, hbx.out]
      have HST := Lib.hid (any_step hp.out hr.out)
      have hsz := cat_size hp50 hx50
      clear hp hr hp2 hbp
      by_cases e : c = d
      · have de : ((c : Int) == (d : Int)) = true := beq_iff_eq.2 (by omega)
        cases hav : avB F (p ++ x.extract 1 x.size)
        · have HN := Lib.hid (HST.out.2 (by rw [HG.out, hav]; simp))
          clear HST HG e
          go_wp2_with fail
          go_quiet (fail)
          go_wp2_with fail
          go_quiet ((go_at_call 82; first | exact quiet_La (sAvoids_any _ _ _ F _ _ (HF1.out.drewN _) hsz hF) | exact quiet_L (sAvoids_any _ _ _ F _ _ (HF1.out.drewN _) hsz hF)))
          go_wp2_with fail
          go_roundw
          case rel => exact ⟨k + 1, hlt, by go_num, HN.out, (by first | exact Drew.refl _ | exact Drew.mk _ _ | exact (Drew.mk _ _).drewN _)⟩
          case measure => simp [intOf]; omega
        · have HN := Lib.hid (HST.out.1 (by rw [HG.out, hav]; simp [e]))
          clear HST HG e
          go_wp2_with fail
          go_quiet (fail)
          go_wp2_with fail
          go_quiet ((go_at_call 82; first | exact quiet_La (sAvoids_any _ _ _ F _ _ (HF1.out.drewN _) hsz hF) | exact quiet_L (sAvoids_any _ _ _ F _ _ (HF1.out.drewN _) hsz hF)))
          go_wp2_with fail
          go_ret
          exact ⟨ret_bool HN.out.symm, (by first | exact below_drewN HB1.out _ | exact below_drewN (below_drewN HB1.out _) _ | exact below_drewN (below_drewN (below_drewN HB1.out _) _) _)⟩
      · have de : ((c : Int) == (d : Int)) = false := beq_eq_false_iff_ne.2 (by omega)
        have HN := Lib.hid (HST.out.2 (by rw [HG.out]; simp [e]))
        clear HST HG e hq
        go_wp2_with fail
        go_quiet (fail)
        go_wp2_with fail
        go_quiet (fail)
        go_wp2_with fail
        go_roundw
        case rel => exact ⟨k + 1, hlt, by go_num, HN.out, (by first | exact Drew.refl _ | exact Drew.mk _ _ | exact (Drew.mk _ _).drewN _)⟩
        case measure => simp [intOf]; omega
    · have HE := Lib.hid (any_end (by have := HL.out; omega) hr.out)
      clear hr
      go_wp2_with fail
      go_ret
      exact ⟨ret_bool HE.out.symm, below_drewN HB1.out _⟩
end Go.Proofs.Ytmkodbkbgpjgoaa

namespace Go.Proofs.Ytmkodbkbgpjgoaa
open Go.RowKit
set_option linter.all false
set_option maxRecDepth 20000 in
set_option maxHeartbeats 6400000 in
theorem sAllW_any (k n : Nat) (w : World) (hk : 1 ≤ k) (hk3 : k ≤ 3) (hn : n ≤ 8) :
    Calls Try.prog 90 #[.int .i64 k, .int .i64 n] w fun e w' => ∃ v, e = .returned v ∧ OStrs w' w.heap.size v (allW k n).length (allW k n) ∧ Below w.heap.size w w' := by
  have H0 := Lib.hid (OStrs.lit w w.heap.size [⟨#[]⟩] (Nat.le_refl _) (by simp))
  go_enter Try.func90, Try.ntmps90
  go_wp2_with fail
  go_loopw [5, 6] (fun v x wr => ∃ i : Nat, i ≤ n ∧ x = .int .i64 i ∧ OStrs wr w.heap.size v (k ^ i) (allW k i) ∧ Below w.heap.size w wr) (fun _ x _ => n - (intOf x).toNat)
  case atStart => exact ⟨0, Nat.zero_le _, rfl, by rw [allW_zero]; simpa using H0.out, belowA _ _⟩
  case round =>
    obtain ⟨i, hi, rfl, hown, hbl⟩ := hrel
    obtain ⟨wo, rfl⟩ : ∃ wo : World, wo = wr := ⟨_, rfl⟩
    clear H0
    by_cases hlt : i < n
    · obtain ⟨a5, c5, rfl, hi5⟩ := hown.form
      have HR := Lib.hid hi5
      have HB := Lib.hid hbl
      obtain ⟨M, hM⟩ : ∃ M, k ^ i = M := ⟨_, rfl⟩
      have HM := Lib.hid hM
      have hMb : M ≤ 6561 := by rw [← hM]; exact pow_le_of hk3 (by omega)
      rw [hM] at HR hown ⊢
      have HEm := Lib.hid (OStrs.empty wo wo.heap.size (Nat.le_refl _))
      clear hown hbl hi5 hM
      go_wp2_with fail
      go_loopw [7, 8] (fun v x wx => ∃ j q : Nat, j ≤ M ∧ q = j * k ∧ q ≤ 19683 ∧ x = .int .i64 j ∧ OStrs wx wo.heap.size v q ((allW k (i + 1)).take q) ∧ Below wo.heap.size wo wx) (fun _ x _ => M - (intOf x).toNat)
      case atStart => exact ⟨0, 0, Nat.zero_le _, by simp, Nat.zero_le _, rfl, by simpa using HEm.out, belowA _ _⟩
      case round =>
        obtain ⟨j, q, hj, hq, hqb, rfl, hown, hbl⟩ := hrel
        clear HEm
        by_cases hjt : j < M
        · obtain ⟨b, o, s, rfl, hcw, hs⟩ := HR.out.at_ hjt
          have hsj : s = wordN k i j := Option.some.inj (hs.out.symm.trans (allW_get (by rw [HM.out]; exact hjt)))
          have hss : s.size ≤ 8 := by rw [hsj, wordN_size]; omega
          have HSJ := Lib.hid hsj
          have Hcw := Lib.hid hcw
          have HO := Lib.hid hown
          have HBx := Lib.hid hbl
          have HQ := Lib.hid hq
          clear hcw hs hown hbl hsj hq
          go_wp2_with fail
          go_loopw [7, 9] (fun v x wx => ∃ y z : Nat, y ≤ k ∧ z ≤ q + y ∧ q + y ≤ z ∧ x = .int .i64 y ∧ OStrs wx wo.heap.size v z ((allW k (i + 1)).take z) ∧ Below wo.heap.size wo wx) (fun _ x _ => k - (intOf x).toNat)
          case atStart => exact ⟨0, q, Nat.zero_le _, by omega, by omega, rfl, HO.out, HBx.out⟩
          case round =>
            obtain ⟨y, z, hy, hz1, hz2, rfl, hown, hbl⟩ := hrel
            have hz : Hid (z = q + y) := by show _ = _; omega
            obtain ⟨a7, c7, rfl, _⟩ := hown.form
            by_cases hyt : y < k
            · have hx3 : y < 3 := by omega
              have hget : (allW k (i + 1))[z]? = some (s ++ (⟨#[97, 98, 99]⟩ : ByteArray).extract y (y + 1)) := by
                rw [abc_at hx3, HSJ.out, ← word_snoc hyt, hz.out, HQ.out]
                exact allW_get (idx_lt (by rw [HM.out]; exact hjt) hyt)
              have HG := Lib.hid hget
              have hc0 : wr.drew.cell? ⟨b, o + j, none⟩ = some (.string s) := (hbl.cell (World.block_lt_of_cell? wo _ Hcw.out)).trans Hcw.out
              have HO2 : Hid (OStrs wr.drew wo.heap.size (.slice a7 z c7) z ((allW k (i + 1)).take z)) := hown.drewN 1
              have HB2 : Hid (Below wo.heap.size wo wr.drew) := hbl.drew
              have hzb : z ≤ 19700 := by omega
              clear hget hown hbl
              go_wp2_with fail
              have hw1 : IntKind.i64.wrap ((y : Int) + 1) = (y : Int) + 1 := IntWalk.i64_in _ (by omega)
              have hw2 : (0 : Int) ≤ (y : Int) + 1 := by omega
              have hcs : ¬ (9223372036854775807 < s.size + (min (y + 1) 3 - y)) := by omega
              have hw4 : (y : Int) + 1 ≤ 3 := by omega
              have hw5 : (y : Int) ≤ (y : Int) + 1 := by omega
              have hw3 : ((y : Int) + 1).toNat = y + 1 := by omega
              go_region_law (first
                | (refine step_of_wp rfl (wp_push_str wr.drew _ (.tmp 28) (.tmp 38) rfl wo.heap.size _ _ _ rfl HO2.out (by omega) (by exact HB2.out.size) _ rfl rfl ?_); intro v1 w1 ho1 hb1; have HO3 := Lib.hid ho1; have HB3 := Lib.hid (HB2.out.trans hb1); clear ho1 hb1))
              all_goals (go_wp2_with fail)
              all_goals go_roundw
              all_goals first
                | (have h3 := HO3.out
                   rw [push_take HG.out] at h3
                   exact ⟨y + 1, z + 1, hyt, by omega, by omega, by go_num, h3, HB3.out⟩)
                | (simp [intOf] <;> omega)
            · have e : y = k := by omega
              subst e
              have HO3 := Lib.hid hown
              have HB3 := Lib.hid hbl
              have hqq : z = (j + 1) * y := by rw [Nat.add_mul, Nat.one_mul, hz.out, HQ.out]
              have HQQ := Lib.hid hqq
              have hzb : z ≤ 19683 := by rw [hqq]; exact Nat.le_trans (Nat.mul_le_mul (show j + 1 ≤ 6561 by omega) hk3) (by decide)
              clear hown hbl hqq
              go_wp2_with fail
              go_roundw
              case rel => exact ⟨j + 1, z, hjt, HQQ.out, hzb, by go_num, HO3.out, HB3.out⟩
              case measure => (simp [intOf] <;> omega)
        · have e : j = M := by omega
          subst e
          have he : q = k ^ (i + 1) := by rw [hq, Nat.pow_succ, HM.out]
          rw [List.take_of_length_le (by rw [allW_len, he]; exact Nat.le_refl _), he] at hown
          obtain ⟨a7, c7, rfl, _⟩ := hown.form
          have HO3 := Lib.hid (hown.mono HB.out.size)
          have HB3 := Lib.hid (HB.out.trans (hbl.mono HB.out.size))
          clear hown hbl he hq
          go_wp2_with fail
          go_roundw
          case rel => exact ⟨i + 1, hlt, by go_num, HO3.out, HB3.out⟩
          case measure => (simp [intOf] <;> omega)
    · have e : i = n := by omega
      subst e
      have HO := Lib.hid hown
      have HB := Lib.hid hbl
      clear hown hbl
      go_wp2_with fail
      go_ret
      rw [allW_len]
      exact ⟨_, rfl, HO.out, HB.out⟩
end Go.Proofs.Ytmkodbkbgpjgoaa

namespace Go.Proofs.Ytmkodbkbgpjgoaa
open Go.RowKit
set_option linter.all false
set_option maxRecDepth 20000 in
set_option maxHeartbeats 6400000 in
theorem sWordsS_any (K : Nat) (aF : Option Addr) (nF cF : Nat) (F : List ByteArray) (m : Nat) (w : World) (h : Strs w aF nF F) (hF : ∀ f ∈ F, f.size ≤ 100) (hK1 : 1 ≤ K) (hK3 : K ≤ 3) (hm8 : m ≤ 8) :
    Calls Try.prog 93 #[.agg #[.int .i64 K, .slice aF nF cF], .int .i64 m] w fun e w' => ∃ v, e = .returned v ∧ OStrs w' w.heap.size v ((allW K m).filter (avB F)).length ((allW K m).filter (avB F)) ∧ Below w.heap.size w w' := by
  have HB1 := Lib.hid (below1 w (.cells #[.int .i64 K, .slice aF nF cF] 78))
  have HA1 := Lib.hid (h.keep HB1.out)
  have HK1 := Lib.hid (Blk.new w 78 #[.int .i64 K, .slice aF nF cF])
  have H := Lib.hid h
  clear h
  have HBE := Lib.hid (belowA (w.alloc (.cells #[.int .i64 K, .slice aF nF cF] 78)) (.cells #[] 9))
  have HE0 := Lib.hid (OStrs.empty (w.alloc (.cells #[.int .i64 K, .slice aF nF cF] 78)) (w.alloc (.cells #[.int .i64 K, .slice aF nF cF] 78)).heap.size (Nat.le_refl _))
  have HK2 := Lib.hid (HK1.out.keep HBE.out)
  have k0 : ((w.alloc (.cells #[.int .i64 K, .slice aF nF cF] 78)).alloc (.cells #[] 9)).cell? ⟨w.heap.size, 0, none⟩ = some (.int .i64 K) := HK2.out.cell 0
  obtain ⟨R, hR⟩ : ∃ R, allW K m = R := ⟨_, rfl⟩
  have HC := fun W => sAllW_any K m W hK1 hK3 hm8
  have hLB : R.length ≤ 6561 := by rw [← hR, allW_len]; exact pow_le_of hK3 hm8
  have HSZ : Hid (∀ s ∈ R, s.size ≤ 100) := by
    show ∀ s ∈ R, _
    intro s hs
    rw [← hR] at hs
    obtain ⟨i, _, rfl⟩ := allW_mem hs
    rw [wordN_size]
    omega
  rw [hR] at HC ⊢
  have HC := Lib.hid HC
  have HZ : Hid ((w.alloc (.cells #[.int .i64 K, .slice aF nF cF] 78)).heap.size = w.heap.size + 1) := by show _ = _; simp
  clear hR HK2
  go_enter Try.func93, Try.ntmps93
  go_wp2_with fail
  generalize w.alloc (.cells #[.int .i64 K, .slice aF nF cF] 78) = w1 at HB1 HA1 HK1 HBE HE0 HZ k0 ⊢
  generalize w1.alloc (.cells #[] 9) = w2 at HBE HE0 k0 ⊢
  refine (HC.out _).mono ?_
  rintro e w4 ⟨v4, rfl, ho4, hb4⟩
  obtain ⟨a4, c4, rfl, _⟩ := ho4.form
  have HAp : Hid (Apart (.slice a4 R.length c4) (.slice (some ⟨w1.heap.size, 0, none⟩) 0 0)) := by
    show Apart _ _
    intro b hb e
    have h1 := (ho4.ownlt b hb).1
    injection e with e
    simp at e
    have h2 := HE0.out.lt.2
    omega
  have HO4 := Lib.hid (ho4.mono HBE.out.size)
  have HB4 := Lib.hid (HBE.out.trans (hb4.mono HBE.out.size))
  have HE4 := Lib.hid (HE0.out.keep hb4)
  clear ho4 hb4 k0 HE0 HBE
  go_wp2_with fail
  go_loopw [5, 7] (fun v x wr => ∃ (i : Nat) (acc : List ByteArray), i ≤ R.length ∧ acc.length ≤ i ∧ x = .int .i64 i ∧ OStrs wr w1.heap.size v acc.length acc ∧ OStrs wr w1.heap.size (.slice a4 R.length c4) R.length R ∧ Apart (.slice a4 R.length c4) v ∧ Hid (acc ++ (R.drop i).filter (avB F) = R.filter (avB F)) ∧ Below w1.heap.size w1 wr) (fun _ x _ => R.length - (intOf x).toNat)
  case atStart => exact ⟨0, [], Nat.zero_le _, Nat.le_refl _, rfl, (by have q := HE4.out; rw [HZ.out] at q ⊢; exact q), HO4.out, (by have q := HAp.out; rw [HZ.out] at q; exact q), rfl, HB4.out⟩
  case round =>
    obtain ⟨i, acc, hi, hal, rfl, hown, hst, hap, hr, hbl⟩ := hrel
    obtain ⟨a7, c7, rfl, _⟩ := hown.form
    have HO := Lib.hid hown
    have HB := Lib.hid hbl
    have HST := Lib.hid hst
    have HAP := Lib.hid hap
    have HFr := Lib.hid (HA1.out.keep hbl)
    have k1 : wr.cell? ⟨w.heap.size, 1, none⟩ = some (.slice aF nF cF) := (HK1.out.keep hbl).cell 1
    clear hown hbl hst hap HE4 HO4 HAp
    by_cases hlt : i < R.length
    · obtain ⟨b, o, s, rfl, hc, hs⟩ := HST.out.read.at_ hlt
      have HFI := Lib.hid (filt_step (p := avB F) hs.out hr.out)
      have hs100 := HSZ.out s (List.mem_of_getElem? hs.out)
      clear hs hr
      cases ha : avB F s
      · have HN := Lib.hid (HFI.out.2 ha)
        have HAV := fun W (q : Strs W aF nF F) => sAvoids_any aF nF cF F s W q hs100 hF
        rw [ha] at HAV
        have HAV := Lib.hid HAV
        clear HFI ha
        go_wp2_with fail
        go_quiet ((go_at_call 82; first | exact quiet_La (HAV.out _ (HFr.out.drewN _)) | exact quiet_L (HAV.out _ (HFr.out.drewN _))))
        go_wp2_with fail
        go_roundw
        case rel => exact ⟨i + 1, acc, hlt, by omega, by go_num, HO.out.drewN _, HST.out.drewN _, HAP.out, HN.out, below_drewN HB.out _⟩
        case measure => (simp [intOf] <;> omega)
      · have HN := Lib.hid (HFI.out.1 ha)
        have HAV := fun W (q : Strs W aF nF F) => sAvoids_any aF nF cF F s W q hs100 hF
        rw [ha] at HAV
        have HAV := Lib.hid HAV
        clear HFI ha
        go_wp2_with fail
        go_quiet ((go_at_call 82; first | exact quiet_La (HAV.out _ (HFr.out.drewN _)) | exact quiet_L (HAV.out _ (HFr.out.drewN _))))
        go_wp2_with (at_builtin; refine wpList_push_strAt (wr.drewN nq) _ rfl (.tmp 26) (.tmp 31) rfl w1.heap.size _ _ _ rfl (by exact HO.out.drewN _) (by omega) (by exact HB.out.size) _ rfl rfl ?_; intro v3 w3 ho3 hg3 hn3; have HO3 := Lib.hid ho3; have HB6 := Lib.hid ((below_drewN HB.out _).grown hg3 HB.out.size (fun b hb => (HO.out.ownlt b hb).1)); have HST3 := Lib.hid ((HST.out.drewN _).far hg3 HAP.out); have HAP3 := Lib.hid (hn3.apart HAP.out (fun b hb => (HST.out.ownlt b hb).2)); clear ho3 hg3 hn3)
        go_roundw
        case rel => exact ⟨i + 1, _, hlt, by simp; omega, by go_num, by simpa using HO3.out, HST3.out, HAP3.out, HN.out, HB6.out⟩
        case measure => (simp [intOf] <;> omega)
    · have HFI := Lib.hid (filt_end (by omega) hr.out)
      clear hr
      go_wp2_with fail
      go_ret
      rw [← HFI.out]
      exact ⟨_, rfl, HO.out.mono HB1.out.size, HB1.out.trans (HB.out.mono HB1.out.size)⟩
end Go.Proofs.Ytmkodbkbgpjgoaa

namespace Go.Proofs.Ytmkodbkbgpjgoaa
open Go.RowKit
set_option linter.all false
set_option maxHeartbeats 1600000 in
theorem sL4Zero_any (n c : Nat) (w : World) (hn : n ≤ 1048576) (hc : c ≤ 1048576) :
    Calls Try.prog 81 #[.int .i64 n, .int .i64 c] w fun e w' => ∃ v, e = .returned v ∧ OIntss w' w.heap.size v n (List.replicate n (List.replicate c 0)) ∧ Below w.heap.size w w' := by
  have hmk := make_ints c (by omega)
  go_enter Try.func81, Try.ntmps81
  go_wp2
  go_loopw [5, 6] (fun v i wr => ∃ k : Nat, k ≤ n ∧ i = .int .i64 k ∧ OIntss wr w.heap.size v k (List.replicate k (List.replicate c 0)) ∧ Below w.heap.size w wr) (fun _ i _ => n - (intOf i).toNat)
  case atStart => exact ⟨0, Nat.zero_le _, rfl, OIntss.empty w _ (Nat.le_refl _), (Below.refl _ _).alloc (Nat.le_refl _) _⟩
  case round =>
    obtain ⟨k, hk, rfl, hown, hb⟩ := hrel
    by_cases hlt : k < n
    · have Hown := Lib.hid hown
      have Hb := Lib.hid hb
      clear hown hb
      go_wp2_with (first | (at_builtin; refine wpList_push_fresh _ _ wr rfl _ _ rfl w.heap.size _ k _ rfl Hown.out (by omega) Hb.out.size ((Below.refl _ _).alloc (Nat.le_refl _) _) c _ (OInts.made wr c (by omega)) _ ?ctb rfl ?_))
      case ctb => simp
      intro v' w' hown' hbel _
      rw [rep_push] at hown'
      have hb' := Hb.out.trans hbel
      go_wp2_with fail
      go_roundw
      case rel => exact ⟨k + 1, hlt, by go_num, hown', hb'⟩
      case measure => simp [intOf]; omega
    · go_wp2
      go_ret
      have : k = n := by omega
      subst this
      exact ⟨_, rfl, hown, hb⟩
end Go.Proofs.Ytmkodbkbgpjgoaa

namespace Go.Proofs.Ytmkodbkbgpjgoaa
open Go.RowKit
set_option linter.all false
theorem OArcs.head {w : World} {lo n : Nat} {v : Value} {xs : List Ar} (h : OArcs w lo v n xs) (hn : 0 < n) : ∃ g cap, v = .slice (some ⟨g, 0, none⟩) n cap := by
  rcases h.2.2 with ⟨_, h0⟩ | ⟨g, cap, cur, e, _⟩
  · omega
  · exact ⟨g, cap, e⟩
end Go.Proofs.Ytmkodbkbgpjgoaa

namespace Go.Proofs.Ytmkodbkbgpjgoaa
open Go.RowKit
set_option linter.all false
structure Gr (w : World) (lo b : Nat) (L S : Int) (v : Value) (xs : List Ar) : Prop where
  kb : Blk w b 26 #[.int .i64 L, .int .i64 S, v]
  o : OArcs w lo v xs.length xs
  nb : v.ownBlock ≠ some b
  lb : lo ≤ b
section
variable {w w1 : World} {lo b k : Nat} {L S : Int} {v v1 : Value} {xs ys : List Ar}
theorem Gr.keep (h : Gr w lo b L S v xs) (hb : Below w.heap.size w w1) : Gr w1 lo b L S v xs := ⟨h.kb.keep hb, h.o.keep hb, h.nb, h.lb⟩
theorem Gr.drewN (h : Gr w lo b L S v xs) (n : Nat) : Gr (w.drewN n) lo b L S v xs := ⟨h.kb, h.o, h.nb, h.lb⟩
theorem Gr.grownB (h : Gr w lo b L S v xs) (hg : w.grownBy w1 v.ownBlock) : Blk w1 b 26 #[.int .i64 L, .int .i64 S, v] := h.kb.grown hg (Ne.symm h.nb)
theorem Gr.pushed (h : Gr w lo b L S v xs) (ho : OArcs w1 lo v1 (xs.length + k) (xs ++ ys)) (hk : ys.length = k) (hg : w.grownBy w1 v.ownBlock) (hn : NewOr w.heap.size v v1) : Gr (w1.setCell ⟨b, 2, none⟩ v1) lo b L S v1 (xs ++ ys) := by
  have nb := hn.away h.nb h.kb.lt
  refine ⟨(h.grownB hg).set 2 v1, ?_, nb, h.lb⟩
  have e : (xs ++ ys).length = xs.length + k := by rw [List.length_append, hk]
  rw [e]
  exact ho.setFar nb v1
theorem Gr.belowP {B : Nat} {a : World} (h : Gr w lo b L S v xs) (hb : Below B a w) (hg : w.grownBy w1 v.ownBlock) (hl : B ≤ w.heap.size) (hB : B ≤ lo) (u : Value) : Below B a (w1.setCell ⟨b, 2, none⟩ u) :=
  (hb.grown hg hl fun c hc => Nat.le_trans hB (h.o.ownlt c hc).1).setCell (p := ⟨b, 2, none⟩) (Nat.le_trans hB h.lb) u
theorem Gr.put (h : Gr w lo b L S v xs) (ho : OArcs w lo v1 ys.length ys) (hne : v1.ownBlock ≠ some b) : Gr (w.setCell ⟨b, 2, none⟩ v1) lo b L S v1 ys := ⟨h.kb.set 2 v1, ho.setFar hne v1, hne, h.lb⟩
end
end Go.Proofs.Ytmkodbkbgpjgoaa

namespace Go.Proofs.Ytmkodbkbgpjgoaa
open Go.RowKit
set_option linter.all false
set_option maxRecDepth 40000 in
set_option maxHeartbeats 6400000 in
theorem sRes_any (L S : Int) (ao : Option Addr) (n cap : Nat) (xs : List Ar) (w : World) (h : Arcs w ao n xs) :
    Calls Try.prog 58 #[.agg #[.int .i64 L, .int .i64 S, .slice ao n cap]] w fun e w' => e = .returned (.bool (resF none xs)) ∧ Below w.heap.size w w' := by
  have hm := h.2.1
  have HL := Lib.hid h.1
  have HB1 := Lib.hid (below1 w (.cells #[.int .i64 L, .int .i64 S, .slice ao n cap] 26))
  have H := Lib.hid (h.keep HB1.out)
  have HK := Lib.hid (Blk.new w 26 #[.int .i64 L, .int .i64 S, .slice ao n cap])
  clear h
  go_enter Try.func58, Try.ntmps58
  go_wp2_with fail
  generalize w.alloc (.cells #[.int .i64 L, .int .i64 S, .slice ao n cap] 26) = w1 at HB1 H HK ⊢
  go_loopw [3] (fun x wr => ∃ k : Nat, k ≤ n ∧ x = .int .i64 ((k : Int) + 1) ∧ Hid (resF (prevOf xs (k + 1)) (xs.drop (k + 1)) = resF none xs) ∧ Below w1.heap.size w1 wr) (fun x _ => n + 1 - (intOf x).toNat)
  case atStart => exact ⟨0, Nat.zero_le _, rfl, res_one xs, Below.refl _ _⟩
  case round =>
    obtain ⟨j, hj, rfl, hr, hbl⟩ := hrel
    have HB := Lib.hid hbl
    have k2 := (HK.out.keep hbl).c2
    clear hbl
    by_cases hlt : j + 1 < n
    · obtain ⟨b, o, x, y, z, rfl, c1, c2, c3, hx⟩ := (H.out.keep HB.out).at_ hlt
      obtain ⟨bq, oq, qx, qy, qz, eq, d1, d2, d3, hq⟩ := (H.out.keep HB.out).at_ (k := j) (by omega)
      injection eq with eq
      injection eq with eq1 eq2
      subst eq1 eq2
      have HST := Lib.hid (res_step hx.out hr.out)
      have HQ := Lib.hid (differ_S (x := (x, y, z)) hq.out)
      have hjw : IntKind.i64.wrap ((j : Int) + 1 - 1) = (j : Int) := by rw [IntKind.wrap_i64]; omega
      have hj0 : IntKind.i64.wrap (j : Int) = (j : Int) := by rw [IntKind.wrap_i64]; omega
      have hjn : j < n := by omega
      have hjn2 : (j : Int) < (n : Int) := by omega
      have hjn3 : (j : Int) + 1 < (n : Int) := by omega
      have hj00 : (0 : Int) ≤ (j : Int) := by omega
      have hj01 : (0 : Int) ≤ (j : Int) + 1 := by omega
      have htn : ((j : Int) + 1).toNat = j + 1 := by omega
      clear hx hr hq
      by_cases g1 : x = qx
      · have e1 : (x == qx) = true := by simp [g1]
        by_cases g2 : z = qz
        · have e2 : (z == qz) = true := by simp [g2]
          have HR : Hid (resF none xs = false) := HST.out.1 (HQ.out.trans (by simp [g1, g2]))
          clear g1 g2
          go_wp2_with fail
          go_quiet (fail)
          go_wp2_with fail
          go_ret
          exact ⟨ret_bool HR.out.symm, step2 HB1.out (below_drewN HB.out _)⟩
        · have e2 : (z == qz) = false := by simp [g2]
          have HN : Hid _ := HST.out.2 (HQ.out.trans (by simp [g1, Ne.symm g2, eq_comm, g2]))
          clear g1 g2
          go_wp2_with fail
          go_quiet (fail)
          go_wp2_with fail
          go_roundw
          case rel => exact ⟨j + 1, by omega, by go_num, HN, below_drewN HB.out _⟩
          case measure => simp [intOf]; omega
      · have e1 : (x == qx) = false := by simp [g1]
        have HN : Hid _ := HST.out.2 (HQ.out.trans (by simp [eq_comm, g1]))
        clear g1
        go_wp2_with fail
        go_quiet (fail)
        go_wp2_with fail
        go_roundw
        case rel => exact ⟨j + 1, by omega, by go_num, HN, below_drewN HB.out _⟩
        case measure => simp [intOf]; omega
    · have HE := Lib.hid (res_end (by have := HL.out; omega) hr.out)
      have hd : decide ((j : Int) + 1 < (n : Int)) = false := decide_eq_false (by omega)
      clear hr
      go_wp2_with fail
      go_ret
      exact ⟨ret_bool HE.out.symm, step2 HB1.out HB.out⟩
end Go.Proofs.Ytmkodbkbgpjgoaa

namespace Go.Proofs.Ytmkodbkbgpjgoaa
open Go.RowKit
set_option linter.all false
set_option maxRecDepth 20000 in
set_option maxHeartbeats 3200000 in
theorem sArcs_any (L S : Int) (ao : Option Addr) (n cap : Nat) (xs : List Ar) (p : Int) (w : World) (h : Arcs w ao n xs) :
    Calls Try.prog 36 #[.agg #[.int .i64 L, .int .i64 S, .slice ao n cap], .int .i64 p] w fun e w' => ∃ v, e = .returned v ∧ OInts w' w.heap.size v (ixFrom p 0 xs).length (ixFrom p 0 xs) ∧ Below w.heap.size w w' := by
  have hm := h.2.1
  have HL := Lib.hid h.1
  have HB1 := Lib.hid (below1 w (.cells #[.int .i64 L, .int .i64 S, .slice ao n cap] 26))
  have H := Lib.hid (h.keep HB1.out)
  have HK := Lib.hid (Blk.new w 26 #[.int .i64 L, .int .i64 S, .slice ao n cap])
  have HO := Lib.hid (OInts.empty (w.alloc (.cells #[.int .i64 L, .int .i64 S, .slice ao n cap] 26)) _ (Nat.le_refl _))
  have HB2 := Lib.hid (below1 (w.alloc (.cells #[.int .i64 L, .int .i64 S, .slice ao n cap] 26)) (.cells #[] 3))
  have HZ : Hid ((w.alloc (.cells #[.int .i64 L, .int .i64 S, .slice ao n cap] 26)).heap.size = w.heap.size + 1) := by show _ = _; simp
  clear h
  go_enter Try.func36, Try.ntmps36
  go_wp2_with fail
  generalize w.alloc (.cells #[.int .i64 L, .int .i64 S, .slice ao n cap] 26) = w1 at HB1 H HK HO HB2 HZ ⊢
  go_loopw [5, 6] (fun v x wr => ∃ (k : Nat) (acc : List Int), k ≤ n ∧ acc.length ≤ k ∧ x = .int .i64 k ∧ OInts wr w1.heap.size v acc.length acc ∧ Hid (acc ++ ixFrom p k (xs.drop k) = ixFrom p 0 xs) ∧ Below w1.heap.size w1 wr) (fun _ x _ => n - (intOf x).toNat)
  case atStart => exact ⟨0, [], Nat.zero_le _, Nat.le_refl _, rfl, by simpa [HZ.out] using HO.out, rfl, HB2.out⟩
  case round =>
    obtain ⟨k, acc, hk, hak, rfl, ho, hr, hbl⟩ := hrel
    have HOw := Lib.hid ho
    have HB := Lib.hid hbl
    have hsz := hbl.size
    have k2 := (HK.out.keep hbl).c2
    obtain ⟨aa, ca, rfl, _⟩ := ho.form
    clear ho hbl HO HB2
    by_cases hlt : k < n
    · obtain ⟨b, o, x, y, z, rfl, c1, c2, c3, hx⟩ := (H.out.keep HB.out).at_ hlt
      have HST := Lib.hid (ix_step hx.out hr.out)
      clear hx hr
      by_cases hp : x = p
      · have e : (x == p) = true := by simp [hp]
        have HN := Lib.hid (HST.out.1 hp)
        clear hp
        go_wp2_with (refine wpList_push_one wr (k : Int) rfl (.tmp 23) (.tmp 25) rfl w1.heap.size _ _ _ rfl HOw.out (by omega) hsz _ rfl rfl ?_; intro v2 w2 ho2 hb2; have HO2 := Lib.hid ho2; have HB2 := Lib.hid hb2; obtain ⟨a2, c2', rfl, _⟩ := ho2.form; clear ho2 hb2)
        go_roundw
        case rel => exact ⟨k + 1, _, hlt, by simp; omega, by go_num, by simpa using HO2.out, HN.out, HB.out.trans HB2.out⟩
        case measure => simp [intOf]; omega
      · have e : (x == p) = false := by simp [hp]
        have HN := Lib.hid (HST.out.2 hp)
        clear hp
        go_wp2_with fail
        go_roundw
        case rel => exact ⟨k + 1, _, hlt, by omega, by go_num, HOw.out, HN.out, HB.out⟩
        case measure => simp [intOf]; omega
    · have HE := Lib.hid (ix_end (by have := HL.out; omega) hr.out)
      clear hr
      go_wp2_with fail
      go_ret
      have ho := HOw.out
      rw [HE.out] at ho
      exact ⟨_, rfl, by have h := HE.out; rw [← h]; exact HOw.out.mono HB1.out.size, step2 HB1.out HB.out⟩
end Go.Proofs.Ytmkodbkbgpjgoaa

namespace Go.Proofs.Ytmkodbkbgpjgoaa
open Go.RowKit
set_option linter.all false
section
variable {P : Program} {ops : Array Oper} {Q : Exit → Act → World → Prop} {md : Region.Mode} {S : World → Prop} {t : Nat}
def anyT (P : Program) (md : Region.Mode) (ops : Array Oper) (Q : Exit → Act → World → Prop) (S : World → Prop) (t : Nat) : Nat → Array Bool → Act → World → Prop
  | 0, L, a, w => Region.ready md ops L = [] ∧ Q .normal a w
  | n + 1, L, a, w => (Region.ready md ops L = [] → Q .normal a w) ∧ ∀ j ∈ Region.ready md ops L, wpOp P ops Q j (fun a' w' => (j ≠ t → S w') ∧ anyT P md ops Q S t n (L.setIfInBounds j true) a' w') a w
theorem anyT_any : ∀ (n : Nat) (L : Array Bool) (a : Act) (w : World), anyT P md ops Q S t n L a w → wpAny P md ops Q n L a w
  | 0, _, _, _, h => h
  | n + 1, _, _, _, h => ⟨h.1, fun j hj => wpOp_mono (fun a' w' h' => anyT_any n _ a' w' h'.2) (h.2 j hj)⟩
theorem region_T {id : Nat} {a : Act} {w : World} (hm : P.follows .mixedOrders = true) (h : anyT P .any ops Q S t ops.size (Array.replicate ops.size false) a w.drew) : (Code.region id ops true).wp P Q a w :=
  wp_region_any hm (anyT_any _ _ _ _ h)
/-- Nobody who is ready while i has not come up waits for i. -/
theorem ready_not {L : Array Bool} {i j : Nat} {o : Oper} (hi : i ∈ Region.ready md ops L) (hj : j ∈ Region.ready md ops L) (ho : ops[j]? = some o) : ∀ e ∈ o.after, Region.binds md e = true → e.on ≠ i := by
  obtain ⟨_, o', ho', hall⟩ := mem_ready.1 hj
  rw [ho] at ho'
  injection ho' with ho'
  subst ho'
  intro e he hb heq
  have h1 := hall e he hb
  have h0 := (mem_ready.1 hi).1
  subst heq
  by_cases hl : e.on < L.size
  · simp [hl] at h0 h1
    rw [h0] at h1
    cases h1
  · simp [Array.getElem?_eq_none (Nat.le_of_not_lt hl)] at h1
theorem anyT_first {i : Nat} {oi : Oper} {v : Value} (hi : ops[i]? = some oi) (hsel : ∀ (j : Nat) (o : Oper) cs b, ops[j]? = some o → o.op ≠ .select cs b)
    (hQ : ∀ c a w, Q (.panic c) (a.put oi.dst v) w → Q (.panic c) a w) (ht : ∀ o, ops[t]? = some o → ∃ e ∈ o.after, Region.binds md e = true ∧ e.on = i) :
    ∀ (n : Nat) (L : Array Bool) (a : Act) (w : World),
      (∀ j oj, ops[j]? = some oj → j ≠ i → L.getD j true = false → (∀ e ∈ oj.after, Region.binds md e = true → e.on ≠ i) → oi.apart ops oj = true) →
      i ∈ Region.ready md ops L → YieldsIf P ops S oi v a → S w → anyT P md ops Q S t n (L.setIfInBounds i true) (a.put oi.dst v) w → anyT P md ops Q S t (n + 1) L a w := by
  intro n
  induction n with
  | zero =>
    intro L a w _ hr hy hS H
    refine ⟨fun h => absurd hr (by rw [h]; simp), fun j hj => ?_⟩
    rcases Nat.decEq j i with hji | hji
    · have := ready_mono hj hji
      rw [H.1] at this
      simp at this
    · subst hji
      exact hy.wpOp hi hS ⟨fun _ => hS, H⟩
  | succ n ih =>
    intro L a w hfree hr hy hS H
    refine ⟨fun h => absurd hr (by rw [h]; simp), fun j hj => ?_⟩
    rcases Nat.decEq j i with hji | hji
    · have hun := (mem_ready.1 hj).1
      obtain ⟨_, oj, hoj, _⟩ := mem_ready.1 hj
      have hno := ready_not hr hj hoj
      have hjt : j ≠ t := by
        rintro rfl
        obtain ⟨e, he, hb, heq⟩ := ht oj hoj
        exact hno e he hb heq
      have step := wpOp_putIf hoj (hfree j oj hoj hji hun hno) (fun cs b => hsel i oi cs b hi) (fun cs b => hsel j oj cs b hoj) hQ hy (H.2 j (ready_mono hj hji))
      refine wpOp_mono (fun a' w' h => ⟨h.2.1, ih (L.setIfInBounds j true) a' w' ?_ (ready_mono hr (Ne.symm hji)) h.1 (h.2.1 hjt) ?_⟩) step
      · intro k ok hk hki hunk hnok
        refine hfree k ok hk hki ?_ hnok
        rcases Nat.decEq j k with hjk | hjk
        · rwa [getD_set_ne true hjk] at hunk
        · rw [← hjk]; exact hun
      · rw [Array.setIfInBounds_comm _ _ hji]
        exact h.2.2
    · subst hji
      exact hy.wpOp hi hS ⟨fun _ => hS, H⟩
/-- Does operation t wait for operation i? -/
def waitsB (md : Region.Mode) (ops : Array Oper) (t i : Nat) : Bool := match ops[t]? with
  | some o => o.after.any fun e => Region.binds md e && e.on == i
  | none => true
theorem waits_spec {i : Nat} (h : waitsB md ops t i = true) : ∀ o, ops[t]? = some o → ∃ e ∈ o.after, Region.binds md e = true ∧ e.on = i := by
  intro o ho
  simp only [waitsB, ho, Array.any_eq_true', Bool.and_eq_true, beq_iff_eq] at h
  obtain ⟨e, he, hb, hon⟩ := h
  exact ⟨e, he, hb, hon⟩
theorem anyT_take {i : Nat} {oi : Oper} {v : Value} {n : Nat} {L : Array Bool} {a : Act} {w : World} (hi : ops[i]? = some oi)
    (hs : Region.noSelect ops = true) (hf : Region.free md ops L i = true) (hr : (Region.ready md ops L).contains i = true) (hw : waitsB md ops t i = true)
    (hQ : ∀ c a w, Q (.panic c) (a.put oi.dst v) w → Q (.panic c) a w) (hy : YieldsIf P ops S oi v a) (hS : S w)
    (h : anyT P md ops Q S t n (L.setIfInBounds i true) (a.put oi.dst v) w) : anyT P md ops Q S t (n + 1) L a w :=
  anyT_first hi (Region.noSelect_spec hs) hQ (waits_spec hw) n L a w (Region.free_spec hi hf) (by simpa using hr) hy hS h
/-- One operation alone may come up. -/
theorem anyT_one {i : Nat} {oi : Oper} {n : Nat} {L : Array Bool} {a : Act} {w : World} (hr : Region.ready md ops L = [i]) (hi : ops[i]? = some oi)
    (h : ∀ K : Act → World → Prop, (∀ a' w', (i ≠ t → S w') → anyT P md ops Q S t n (L.setIfInBounds i true) a' w' → K a' w') → if Region.wanted oi (yielded ops a.tmps) = true then Oper.wp P oi a w K Q else K (a.put oi.dst undef) w) : anyT P md ops Q S t (n + 1) L a w := by
  refine ⟨fun h0 => absurd h0 (by rw [hr]; simp), fun j hj => ?_⟩
  rw [hr] at hj
  obtain rfl := List.mem_singleton.1 hj
  exact wpOp_step hi fun K hK => h K fun a' w' h1 h2 => hK a' w' ⟨h1, h2⟩
/-- Two operations may come up. -/
theorem anyT_two {i k : Nat} {oi ok : Oper} {n : Nat} {L : Array Bool} {a : Act} {w : World} (hr : Region.ready md ops L = [i, k]) (hi : ops[i]? = some oi) (hk : ops[k]? = some ok)
    (h : ∀ K : Act → World → Prop, (∀ a' w', (i ≠ t → S w') → anyT P md ops Q S t n (L.setIfInBounds i true) a' w' → K a' w') → if Region.wanted oi (yielded ops a.tmps) = true then Oper.wp P oi a w K Q else K (a.put oi.dst undef) w)
    (h2 : ∀ K : Act → World → Prop, (∀ a' w', (k ≠ t → S w') → anyT P md ops Q S t n (L.setIfInBounds k true) a' w' → K a' w') → if Region.wanted ok (yielded ops a.tmps) = true then Oper.wp P ok a w K Q else K (a.put ok.dst undef) w) : anyT P md ops Q S t (n + 1) L a w := by
  refine ⟨fun h0 => absurd h0 (by rw [hr]; simp), fun j hj => ?_⟩
  rw [hr] at hj
  rcases List.mem_cons.1 hj with rfl | hj
  · exact wpOp_step hi fun K hK => h K fun a' w' h1 h2 => hK a' w' ⟨h1, h2⟩
  · obtain rfl := List.mem_singleton.1 hj
    exact wpOp_step hk fun K hK => h2 K fun a' w' h1 h2 => hK a' w' ⟨h1, h2⟩
theorem anyT_at {n : Nat} {L : Array Bool} {a : Act} {W : World} (R : World → Prop) (hR : R W) (h : ∀ W, R W → anyT P md ops Q S t n L a W) : anyT P md ops Q S t n L a W := h W hR
theorem anyT_done {L : Array Bool} {n : Nat} {a : Act} {w : World} (hr : Region.ready md ops L = []) (h : Q .normal a w) : anyT P md ops Q S t n L a w := by
  cases n with
  | zero => exact ⟨hr, h⟩
  | succ n => exact ⟨fun _ => h, by rw [hr]; simp⟩
end
end Go.Proofs.Ytmkodbkbgpjgoaa

namespace Go.Proofs.Ytmkodbkbgpjgoaa
open Go.RowKit
set_option linter.all false
set_option maxHeartbeats 1600000 in
set_option maxRecDepth 20000 in
theorem sameLabels_same (L S : Int) (ao : Option Addr) (n cap : Nat) (ao' : Option Addr) (n' cap' : Nat) (xs : List Ar) (w : World) (h : Arcs w ao n xs) (h' : Arcs w ao' n' xs) :
    Calls Try.prog 17 #[.agg #[.int .i64 L, .int .i64 S, .slice ao n cap], .agg #[.int .i64 L, .int .i64 S, .slice ao' n' cap']] w fun e w' => e = .returned (.bool true) ∧ Below w.heap.size w w' := by
  have hn := h.1
  have hn' := h'.1
  have hm := h.2.1
  obtain rfl : n' = n := by omega
  have hz : (w.alloc (.cells #[.int .i64 L, .int .i64 S, .slice ao n' cap] 26)).heap.size = w.heap.size + 1 := by simp
  have HB := Lib.hid (below2 w (.cells #[.int .i64 L, .int .i64 S, .slice ao n' cap] 26) (.cells #[.int .i64 L, .int .i64 S, .slice ao' n' cap'] 26))
  have H := Lib.hid (h.keep HB.out)
  have H' := Lib.hid (h'.keep HB.out)
  have HK := Lib.hid ((Blk.new w 26 #[.int .i64 L, .int .i64 S, .slice ao n' cap]).alloc (.cells #[.int .i64 L, .int .i64 S, .slice ao' n' cap'] 26))
  have hk' := Blk.new (w.alloc (.cells #[.int .i64 L, .int .i64 S, .slice ao n' cap] 26)) 26 #[.int .i64 L, .int .i64 S, .slice ao' n' cap']
  rw [hz] at hk'
  have HK' := Lib.hid hk'
  have l1 : (L != L) = false := by simp
  have l2 : (S != S) = false := by simp
  have l3 : ((n' : Int) != (n' : Int)) = false := by simp
  have k0 := HK.out.c0
  have k1 := HK.out.c1
  have k2 := HK.out.c2
  have j0 := HK'.out.c0
  have j1 := HK'.out.c1
  have j2 := HK'.out.c2
  clear h h' hn hn' hz hk'
  go_enter Try.func17, Try.ntmps17
  go_wp2_with fail
  generalize (w.alloc (.cells #[.int .i64 L, .int .i64 S, .slice ao n' cap] 26)).alloc (.cells #[.int .i64 L, .int .i64 S, .slice ao' n' cap'] 26) = w1 at HB H H' HK HK' k0 k1 k2 j0 j1 j2 ⊢
  go_loopw [5] (fun i wr => ∃ k : Nat, k ≤ n' ∧ i = .int .i64 k ∧ Drew w1 wr) (fun i _ => n' - (intOf i).toNat)
  case atStart => exact ⟨0, Nat.zero_le _, rfl, Drew.refl _⟩
  case round =>
    obtain ⟨k, hk, rfl, ⟨m, rfl⟩⟩ := hrel
    by_cases hlt : k < n'
    · obtain ⟨b, o, x, y, z, rfl, c1, c2, c3, hx⟩ := H.out.at_ hlt
      obtain ⟨b', o', x', y', z', rfl, c1', c2', c3', hx'⟩ := H'.out.at_ hlt
      have he := Option.some.inj (hx'.out.symm.trans hx.out)
      injection he with e1 e2
      injection e2 with e2 e3
      subst e1; subst e2; subst e3
      clear hx hx'
      go_wp2_with fail
      go_region_law (fail)
      all_goals (go_wp2_with fail)
      all_goals go_roundw
      all_goals first
        | exact ⟨k + 1, hlt, by go_num, (by first | exact Drew.refl _ | exact Drew.mk _ _ | exact (Drew.mk _ _).drewN _)⟩
        | (simp [intOf]; omega)
    · go_wp2_with fail
      go_ret
      exact ⟨rfl, below_drewN HB.out _⟩
end Go.Proofs.Ytmkodbkbgpjgoaa

namespace Go.Proofs.Ytmkodbkbgpjgoaa
open Go.RowKit
set_option linter.all false
theorem isLetters_any (k : Int) (w : World) : Calls Try.prog 49 #[.int .i64 k] w fun e w' => e = .returned (.bool (inR k 1 3)) ∧ w = w' := by
  by_cases h1 : 1 ≤ k
  · have d1 : decide (1 ≤ k) = true := decide_eq_true h1
    have HE : Hid (inR k 1 3 = decide (k ≤ 3)) := by show _ = _; simp [inR, h1]
    clear h1
    go_enter Try.func49, Try.ntmps49
    go_wp2_with fail
    go_ret
    exact ⟨ret_bool HE.out.symm, rfl⟩
  · have d1 : decide (1 ≤ k) = false := decide_eq_false h1
    have HE : Hid (inR k 1 3 = false) := by show _ = _; simp [inR, h1]
    clear h1
    go_enter Try.func49, Try.ntmps49
    go_wp2_with fail
    go_ret
    exact ⟨ret_bool HE.out.symm, rfl⟩
end Go.Proofs.Ytmkodbkbgpjgoaa

namespace Go.Proofs.Ytmkodbkbgpjgoaa
open Go.RowKit
set_option linter.all false
set_option maxRecDepth 40000 in
set_option maxHeartbeats 6400000 in
theorem iRes_any (L S : Int) (ao : Option Addr) (n cap : Nat) (xs : List Ar) (w : World) (h : Arcs w ao n xs) :
    Calls Try.prog 57 #[.agg #[.int .i64 L, .int .i64 S, .slice ao n cap]] w fun e w' => e = .returned (.bool (resF none xs)) ∧ Below w.heap.size w w' := by
  have hm := h.2.1
  have HL := Lib.hid h.1
  have HB1 := Lib.hid (below1 w (.cells #[.int .i64 L, .int .i64 S, .slice ao n cap] 26))
  have H := Lib.hid (h.keep HB1.out)
  have HK := Lib.hid (Blk.new w 26 #[.int .i64 L, .int .i64 S, .slice ao n cap])
  clear h
  go_enter Try.func57, Try.ntmps57
  go_wp2_with fail
  generalize w.alloc (.cells #[.int .i64 L, .int .i64 S, .slice ao n cap] 26) = w1 at HB1 H HK ⊢
  go_loopw [8] (fun x wr => ∃ k : Nat, k ≤ n ∧ x = .int .i64 k ∧ Hid (resF (prevOf xs k) (xs.drop k) = resF none xs) ∧ Below w1.heap.size w1 wr) (fun x _ => n - (intOf x).toNat)
  case atStart => exact ⟨0, Nat.zero_le _, rfl, rfl, Below.refl _ _⟩
  case round =>
    obtain ⟨k, hk, rfl, hr, hbl⟩ := hrel
    have HB := Lib.hid hbl
    clear hbl
    by_cases hlt : k < n
    · obtain ⟨b, o, x, y, z, rfl, c1, c2, c3, hx⟩ := (H.out.keep HB.out).at_ hlt
      have HST := Lib.hid (res_step hx.out hr.out)
      have HA := Lib.hid (Blk.new wr 55 #[.int .i64 x, .int .i64 y, .int .i64 z])
      have HB2 := Lib.hid (below1 wr (.cells #[.int .i64 x, .int .i64 y, .int .i64 z] 55))
      have HK2 := Lib.hid ((HK.out.keep HB.out).keep HB2.out)
      clear hx hr
      go_wp2_with fail
      generalize wr.alloc (.cells #[.int .i64 x, .int .i64 y, .int .i64 z] 55) = w5 at HA HB2 HK2 ⊢
      have HB5 := Lib.hid (HB.out.trans (HB2.out.mono HB.out.size))
      clear c1 c2 c3
      have a0 := HA.out.c0
      have a1 := HA.out.c1
      have a2 := HA.out.c2
      have k2 := HK2.out.c2
      rcases Nat.eq_zero_or_pos k with hk0 | hk0
      · subst hk0
        have HN := Lib.hid (HST.out.2 (differ_0 xs _))
        go_quiet (fail)
        go_wp2_with fail
        go_roundw
        case rel => exact ⟨0 + 1, hlt, by go_num, HN.out, below_drewN HB5.out _⟩
        case measure => simp [intOf]; omega
      · obtain ⟨j, rfl⟩ : ∃ j, k = j + 1 := ⟨k - 1, by omega⟩
        obtain ⟨bq, oq, qx, qy, qz, eq, c1, c2, c3, hq⟩ := ((H.out.keep HB.out).keep HB2.out).at_ (k := j) (by omega)
        injection eq with eq
        injection eq with eq1 eq2
        subst eq1 eq2
        have HQ := Lib.hid (differ_S (x := (x, y, z)) hq.out)
        have hjw : IntKind.i64.wrap ((j : Int) + 1 - 1) = (j : Int) := by rw [IntKind.wrap_i64]; omega
        have hpos : decide ((0 : Int) < (j : Int) + 1) = true := decide_eq_true (by omega)
        have hj0 : IntKind.i64.wrap (j : Int) = (j : Int) := by rw [IntKind.wrap_i64]; omega
        have hjn : j < n := by omega
        have hjn2 : (j : Int) < (n : Int) := by omega
        have hj00 : (0 : Int) ≤ (j : Int) := by omega
        clear hq hk0
        by_cases g1 : qx = x
        · have e1 : (qx == x) = true := by simp [g1]
          by_cases g2 : qz = z
          · have e2 : (qz == z) = true := by simp [g2]
            have HR : Hid (resF none xs = false) := HST.out.1 (HQ.out.trans (by simp [g1, g2]))
            clear g1 g2
            go_quiet (fail)
            go_wp2_with fail
            go_ret
            exact ⟨ret_bool HR.out.symm, step2 HB1.out (below_drewN HB5.out _)⟩
          · have e2 : (qz == z) = false := by simp [g2]
            have HN : Hid _ := HST.out.2 (HQ.out.trans (by simp [g2]))
            clear g1 g2
            go_quiet (fail)
            go_wp2_with fail
            go_roundw
            case rel => exact ⟨j + 1 + 1, hlt, by go_num, HN, below_drewN HB5.out _⟩
            case measure => simp [intOf]; omega
        · have e1 : (qx == x) = false := by simp [g1]
          have HN : Hid _ := HST.out.2 (HQ.out.trans (by simp [g1]))
          clear g1
          go_quiet (fail)
          go_wp2_with fail
          go_roundw
          case rel => exact ⟨j + 1 + 1, hlt, by go_num, HN, below_drewN HB5.out _⟩
          case measure => simp [intOf]; omega
    · have HE := Lib.hid (res_end (by have := HL.out; omega) hr.out)
      clear hr
      go_wp2_with fail
      go_ret
      exact ⟨ret_bool HE.out.symm, step2 HB1.out HB.out⟩
end Go.Proofs.Ytmkodbkbgpjgoaa

namespace Go.Proofs.Ytmkodbkbgpjgoaa
open Go.RowKit
set_option linter.all false
set_option maxRecDepth 20000 in
set_option maxHeartbeats 3200000 in
theorem iFrom_any (L S : Int) (ao : Option Addr) (n cap : Nat) (xs : List Ar) (p : Int) (w : World) (h : Arcs w ao n xs) :
    Calls Try.prog 33 #[.agg #[.int .i64 L, .int .i64 S, .slice ao n cap], .int .i64 p] w fun e w' => ∃ v, e = .returned v ∧ OArcs w' w.heap.size v (fromL p xs).length (fromL p xs) ∧ Below w.heap.size w w' := by
  have hm := h.2.1
  have HL := Lib.hid h.1
  have HB1 := Lib.hid (below1 w (.cells #[.int .i64 L, .int .i64 S, .slice ao n cap] 26))
  have H := Lib.hid (h.keep HB1.out)
  have HO := Lib.hid (OArcs.empty (w.alloc (.cells #[.int .i64 L, .int .i64 S, .slice ao n cap] 26)) _ (Nat.le_refl _))
  have HB2 := Lib.hid (below1 (w.alloc (.cells #[.int .i64 L, .int .i64 S, .slice ao n cap] 26)) (.cells #[] 55))
  have HZ : Hid ((w.alloc (.cells #[.int .i64 L, .int .i64 S, .slice ao n cap] 26)).heap.size = w.heap.size + 1) := by show _ = _; simp
  clear h
  go_enter Try.func33, Try.ntmps33
  go_wp2_with fail
  generalize w.alloc (.cells #[.int .i64 L, .int .i64 S, .slice ao n cap] 26) = w1 at HB1 H HO HB2 HZ ⊢
  go_loopw [5, 12] (fun v x wr => ∃ (k : Nat) (acc : List Ar), k ≤ n ∧ acc.length ≤ k ∧ x = .int .i64 k ∧ OArcs wr w1.heap.size v acc.length acc ∧ Hid (acc ++ fromL p (xs.drop k) = fromL p xs) ∧ Below w1.heap.size w1 wr) (fun _ x _ => n - (intOf x).toNat)
  case atStart => exact ⟨0, [], Nat.zero_le _, Nat.le_refl _, rfl, by simpa [HZ.out] using HO.out, rfl, HB2.out⟩
  case round =>
    obtain ⟨k, acc, hk, hak, rfl, ho, hr, hbl⟩ := hrel
    have HOw := Lib.hid ho
    have HB := Lib.hid hbl
    have hsz := hbl.size
    obtain ⟨aa, ca, rfl, _⟩ := ho.form
    clear ho hbl HO HB2
    by_cases hlt : k < n
    · obtain ⟨b, o, x, y, z, rfl, c1, c2, c3, hx⟩ := (H.out.keep HB.out).at_ hlt
      have HST := Lib.hid (fr_step hx.out hr.out)
      have HB3 := Lib.hid (HB.out.trans ((below1 wr (.cells #[.int .i64 x, .int .i64 y, .int .i64 z] 55)).mono hsz))
      have HO3 := Lib.hid (HOw.out.alloc (.cells #[.int .i64 x, .int .i64 y, .int .i64 z] 55))
      clear hx hr
      by_cases hp : x = p
      · have e : (x == p) = true := by simp [hp]
        have HN := Lib.hid (HST.out.1 hp)
        clear hp
        go_wp2_with (refine wpList_push_arc (wr.alloc (.cells #[.int .i64 x, .int .i64 y, .int .i64 z] 55)) (x, y, z) rfl (.tmp 20) (.tmp 22) rfl w1.heap.size _ _ _ rfl HO3.out (by omega) (by simp; omega) _ ?_ rfl ?_; (simp); intro v2 w2 ho2 hg2 hn2; have HO2 := Lib.hid ho2; have HB4 := Lib.hid (HB3.out.grown hg2 (by simp; omega) (fun c hc => (HO3.out.ownlt c hc).1)); obtain ⟨a2, c2', rfl, _⟩ := ho2.form; clear ho2 hg2 hn2)
        go_roundw
        case rel => exact ⟨k + 1, _, hlt, by simp; omega, by go_num, by simpa using HO2.out, HN.out, HB4.out⟩
        case measure => simp [intOf]; omega
      · have e : (x == p) = false := by simp [hp]
        have HN := Lib.hid (HST.out.2 hp)
        clear hp
        go_wp2_with fail
        go_roundw
        case rel => exact ⟨k + 1, _, hlt, by omega, by go_num, HO3.out, HN.out, HB3.out⟩
        case measure => simp [intOf]; omega
    · have HE := Lib.hid (fr_end (by have := HL.out; omega) hr.out)
      clear hr
      go_wp2_with fail
      go_ret
      exact ⟨_, rfl, by have h := HE.out; rw [← h]; exact HOw.out.mono HB1.out.size, step2 HB1.out HB.out⟩
end Go.Proofs.Ytmkodbkbgpjgoaa

namespace Go.Proofs.Ytmkodbkbgpjgoaa
open Go.RowKit
set_option linter.all false
set_option maxHeartbeats 1600000 in
theorem areLetters_any (k : Int) (s : ByteArray) (w : World) (hs : s.size ≤ 1048576) : Calls Try.prog 50 #[.int .i64 k, .string s] w fun e w' => e = .returned (.bool (okW k s 0 s.size)) ∧ w = w' := by
  go_enter Try.func50, Try.ntmps50
  go_wp2_with fail
  go_loop [8] (fun x => ∃ i : Nat, i ≤ s.size ∧ x = .int .i64 i ∧ Hid (okW k s i (s.size - i) = okW k s 0 s.size)) (fun x => s.size - (intOf x).toNat)
  case atStart => exact ⟨0, Nat.zero_le _, rfl, rfl⟩
  case round =>
    obtain ⟨i, hi, rfl, hr⟩ := hrel
    by_cases hlt : i < s.size
    · have hr2 := hr.out
      rw [show s.size - i = (s.size - (i + 1)) + 1 by omega] at hr2
      have HST := Lib.hid (okW_step hr2)
      clear hr hr2
      obtain ⟨c, hc⟩ : ∃ c : Nat, s[i].toNat = c := ⟨_, rfl⟩
      have hb : bl s i = c := (bl_get hlt).trans hc
      have hc2 : c < 256 := by rw [← hb]; exact bl_lt s i
      by_cases g1 : 97 ≤ c
      · have d : decide ((c : Int) < 97) = false := decide_eq_false (by omega)
        have hsub : IntKind.u8.wrap ((c : Int) - 97) = (c : Int) - 97 := by rw [IntKind.wrap_u8]; omega
        by_cases g2 : (c : Int) - 97 < k
        · have d2 : decide (k ≤ (c : Int) - 97) = false := decide_eq_false (by omega)
          have HN := Lib.hid (HST.out.2.2 (by rw [hb]; exact g1) (by rw [hb]; exact g2))
          clear hb g1 g2
          go_wp2_with fail
          go_round
          case rel => exact ⟨i + 1, hlt, by go_num, HN.out⟩
          case measure => simp [intOf]; omega
        · have d2 : decide (k ≤ (c : Int) - 97) = true := decide_eq_true (by omega)
          have HF := Lib.hid (HST.out.2.1 (by rw [hb]; exact g2))
          clear hb g1 g2
          go_wp2_with fail
          go_ret
          exact ⟨ret_bool HF.out.symm, rfl⟩
      · have d : decide ((c : Int) < 97) = true := decide_eq_true (by omega)
        have HF := Lib.hid (HST.out.1 (by rw [hb]; exact g1))
        clear hb g1
        go_wp2_with fail
        go_ret
        exact ⟨ret_bool HF.out.symm, rfl⟩
    · have HT : Hid (okW k s 0 s.size = true) := by show _ = _; rw [← hr.out, show s.size - i = 0 by omega]; rfl
      clear hr
      go_wp2_with fail
      go_ret
      exact ⟨ret_bool HT.out.symm, rfl⟩
set_option maxHeartbeats 1600000 in
theorem iIsWord_any (k : Int) (s : ByteArray) (w : World) (hs : s.size ≤ 1048576) : Calls Try.prog 32 #[.int .i64 k, .string s] w fun e w' => e = .returned (.bool (isWd k s)) ∧ w = w' := by
  cases b1 : inR k 1 3
  · have B1 := Lib.hid b1
    have HR : Hid (isWd k s = false) := by show _ = _; simp [isWd, b1]
    clear b1
    go_enter Try.func32, Try.ntmps32
    go_wp2_with (go_at_call 49; refine (isLetters_any _ _).mono ?_; rw [B1.out]; rintro e w' ⟨rfl, rfl⟩)
    go_ret
    exact ⟨ret_bool HR.out.symm, rfl⟩
  · have B1 := Lib.hid b1
    by_cases h16 : s.size ≤ 16
    · have HR : Hid (isWd k s = okW k s 0 s.size) := by show _ = _; simp [isWd, b1, h16]
      have d : decide ((s.size : Int) ≤ 16) = true := decide_eq_true (by omega)
      clear b1
      go_enter Try.func32, Try.ntmps32
      go_wp2_with fail
      refine (isLetters_any _ _).mono ?_
      rw [B1.out]
      rintro e w' ⟨rfl, rfl⟩
      go_wp2_with fail
      refine (areLetters_any _ _ _ hs).mono ?_
      rintro e w' ⟨rfl, rfl⟩
      go_wp2_with fail
      go_ret
      exact ⟨ret_bool HR.out.symm, rfl⟩
    · have HR : Hid (isWd k s = false) := by show _ = _; simp [isWd, h16]
      have d : decide ((s.size : Int) ≤ 16) = false := decide_eq_false (by omega)
      clear b1
      go_enter Try.func32, Try.ntmps32
      go_wp2_with (go_at_call 49; refine (isLetters_any _ _).mono ?_; rw [B1.out]; rintro e w' ⟨rfl, rfl⟩)
      go_ret
      exact ⟨ret_bool HR.out.symm, rfl⟩
end Go.Proofs.Ytmkodbkbgpjgoaa

namespace Go.Proofs.Ytmkodbkbgpjgoaa
open Go.RowKit
set_option linter.all false
/- A slice of bytes of the call's own. -/
theorem info_byte : (Try.prog.info? 5).map (fun i => (i.zero, i.size, i.bytes)) = some (some (.int .u8 0), 1, 1) := by kernel_rfl
theorem info_byte_parts : ∃ i, Try.prog.info? 5 = some i ∧ i.zero = some (.int .u8 0) ∧ i.size = 1 ∧ i.bytes = 1 := info_parts info_byte
def OBytes (w : World) (lo : Nat) (v : Value) (n : Nat) (xs : List Int) : Prop := n ≤ 1099511627776 ∧ w.ownsRow lo 5 1 v n (xs.map (Value.int .u8))
section
variable {w w' : World} {lo n : Nat} {v : Value} {xs : List Int}
theorem OBytes.len (h : OBytes w lo v n xs) : xs.length = n := by simpa using h.2.1
theorem OBytes.keep (h : OBytes w lo v n xs) (hb : Below w.heap.size w w') : OBytes w' lo v n xs := ⟨h.1, own_keep h.2 hb⟩
theorem OBytes.alloc (h : OBytes w lo v n xs) (o : Obj) : OBytes (w.alloc o) lo v n xs := ⟨h.1, h.2.alloc o⟩
theorem OBytes.ownlt (h : OBytes w lo v n xs) : ∀ k, v.ownBlock = some k → lo ≤ k ∧ k < w.heap.size := h.2.lt
theorem OBytes.empty (w : World) (lo : Nat) (hlo : lo ≤ w.heap.size) : OBytes (w.alloc (.cells #[] 5)) lo (.slice (some ⟨w.heap.size, 0, none⟩) 0 0) 0 [] := by
  refine ⟨by omega, ?_⟩
  have h := World.ownsRow_made (base := lo) (e := 5) (size := 1) w #[] 0 hlo (by unfold maxLen; omega) rfl
  simpa using h
theorem OBytes.form (h : OBytes w lo v n xs) : ∃ ao cap, v = .slice ao n cap := by
  rcases h.2.2 with ⟨rfl, rfl⟩ | ⟨g, cap, cur, rfl, _⟩
  · exact ⟨none, 0, rfl⟩
  · exact ⟨some ⟨g, 0, none⟩, cap, rfl⟩
end
theorem push_byte_grown {w w' : World} {lo n : Nat} {v : Value} {xs : List Int} (h : OBytes w lo v n xs) (hlo : lo ≤ w.heap.size) (o : Obj) (hg : (w.alloc o).grownBy w' v.ownBlock) : Below lo w w' :=
  ((Below.refl lo w).alloc hlo o).grown hg (by simp; omega) (fun k hk => (h.ownlt k hk).1)
theorem wpList_push_byte {ops : Array Oper} {rest : List Oper} {o : Oper} {a : Act} {Q : Exit → Act → World → Prop} (W : World) (y : Int) (hgd : o.guard = none) (s x : Operand)
    (ho : o.op = .call { callee := .builtin .append, args := #[s, x], argTypes := #[22, 22] })
    (lo : Nat) (v : Value) (n : Nat) (xs : List Int) (hs : a.eval s = v) (h : OBytes W lo v n xs) (hn : n + 1 ≤ 1099511627776) (hlo : lo ≤ W.heap.size)
    (tb : Nat) (htb : tb = W.heap.size) (hx : a.eval x = .slice (some ⟨tb, 0, none⟩) 1 1)
    (K : ∀ v' w', OBytes w' lo v' (n + 1) (xs ++ [y]) → Below lo W w' → W.grownBy w' v.ownBlock → wpList Try.prog ops Q rest (a.put o.dst v') w') : wpList Try.prog ops Q (o :: rest) a (W.alloc (.cells #[.int .u8 y] 5)) := by
  subst htb
  obtain ⟨i0, hi, hz0, hz1, hz2⟩ := info_byte_parts
  refine wpList_append_own _ hgd s x 22 ho lo 5 i0 (.int .u8 0) 1 1 Try.underlying22 hi hz0 hz1 hz2 rfl (by decide) v n _ hs (h.alloc _).2 ⟨W.heap.size, 0, none⟩ 1 1 [.int .u8 y] hx rfl ?_ ?_ ?_ ?_ (by simp; omega) ?_
  · intro j u' hj
    match j, hj with
    | 0, hj =>
      simp at hj
      subst hj
      exact World.cell?_alloc_new _ _ _ _
  · intro u' hu'
    simp at hu'
    subst hu'
    rfl
  · unfold maxLen; omega
  · omega
  · intro v' w' hown hgrow _
    refine K v' w' ⟨hn, ?_⟩ (push_byte_grown h hlo _ hgrow) ((grown_alloc W _ _).trans hgrow)
    rw [List.map_append]
    exact hown
theorem foldl_push : ∀ (ls : List Int) (s : ByteArray), (ls.map (fun l => 97 + l)).foldl (fun r n => r.push (UInt8.ofNat n.toNat)) s = ⟨s.data ++ (ls.map fun l => UInt8.ofNat (97 + l).toNat).toArray⟩
  | [], s => by simp
  | l :: r, s => by
    rw [List.map_cons, List.foldl_cons, foldl_push r]
    simp [ByteArray.push]
theorem foldl_str (ls : List Int) (h : ∀ l ∈ ls, 0 ≤ l) : (ls.map (fun l => 97 + l)).foldl (fun r n => r.push (UInt8.ofNat n.toNat)) ByteArray.empty = strOf ls := by
  rw [foldl_push, strOf]
  congr 1
  have e : (ls.map fun l => UInt8.ofNat (97 + l).toNat) = ls.map fun l => UInt8.ofNat (97 + l.toNat) := by
    apply List.map_congr_left
    intro l hl
    have := h l hl
    congr 1
    omega
  rw [e]
  simp [ByteArray.empty, ByteArray.emptyWithCapacity]
  rfl
theorem conv_bytes (w : World) (lo n : Nat) (v : Value) (ls : List Int) (h : OBytes w lo v n (ls.map (fun l => 97 + l))) (h0 : ∀ l ∈ ls, 0 ≤ l) :
    (convert 22 9 v).run Try.prog w = .ok (.string (strOf ls)) w := by
  have hl := h.len
  rcases h.2.2 with ⟨rfl, rfl⟩ | ⟨g, cap, cur, rfl, _⟩
  · have e : ls = [] := List.eq_nil_of_length_eq_zero (by simpa using hl)
    subst e
    rw [run_convert_bytes_string w 22 9 5 _ _ _ Try.underlying22 Try.underlying5 Try.underlying9]
    simp [Conv.bytesToString, strOf]
    rfl
  · rw [run_convert_bytes_string w 22 9 5 _ _ _ Try.underlying22 Try.underlying5 Try.underlying9]
    have hc := run_loadCells_list (P := Try.prog) w ⟨g, 0, none⟩ ((ls.map (fun l => 97 + l)).map (Value.int .u8)) (fun j u hu => h.2.cells (g := g) rfl j u hu)
    rw [List.length_map, hl] at hc
    rw [run_bytesToString w ⟨g, 0, none⟩ n cap (ls.map (fun l => 97 + l)) hc, foldl_str ls h0]
end Go.Proofs.Ytmkodbkbgpjgoaa
