/- MarkIntSS: a part of the proofs of this seat. -/
import Derived.Test.YtlhognagaknhcaaProg
import Derived.Test.YtlhognagaknhcaaMarkIntS
import Derived.Test.YtlhognagaknhcaaOne
import Derived.Test.YtlhognagaknhcaaPush
import Derived.Test.YtlhognagaknhcaaSince
namespace Go.Proofs.Ytlhognagaknhcaa
open Go.RowKit
set_option linter.all false
theorem OIntss.ownlt_row {w : World} {lo g n cap : Nat} {xss : List (List Int)} (h : OIntss w lo (.slice (some ⟨g, 0, none⟩) n cap) n xss) {k b : Nat} {r : List Int} {u : Value} (hk : xss[k]? = some r) (hc : w.cell? ⟨g, k, none⟩ = some u) (hb : u.ownBlock = some b) : lo ≤ b ∧ b < w.heap.size := by
  obtain ⟨vs, ai, ci, _, _, h4, ho⟩ := h.rows hk
  rw [h4] at hc
  injection hc with hc
  subst hc
  exact ho.ownlt b hb
set_option maxHeartbeats 1600000 in
theorem markIntSS_in (ao : Option Addr) (n cap : Nat) (xss : List (List Int)) (k : Int) (lo : Nat) (wb w : World) (h : OIntss wb lo (.slice ao n cap) n xss) (hbl : Since lo wb.heap.size wb w) (h0 : 0 ≤ k) (h1 : k + tot xss ≤ 1099511627776) :
    Calls Try.prog 20 #[.slice ao n cap, .int .i64 k] w fun e w' => e = .returned (.int .i64 (k + tot xss)) ∧ Within lo wb.heap.size w w' ∧ OIntss w' lo (.slice ao n cap) n (markT k xss) := by
  have hm := h.1
  have hlen := h.len
  have HT := Lib.hid (fun i => tot_take_le (xss := xss) i)
  have ht0 := tot_nonneg xss
  rcases Nat.eq_zero_or_pos n with hz | hpos
  · subst hz
    have e : xss = [] := List.eq_nil_of_length_eq_zero hlen
    subst e
    have H0 := Lib.hid (h.since hbl)
    clear h hbl
    go_enter Try.func20, Try.ntmps20
    go_wp2_with fail
    go_loop [1, 5] (fun s i => i = .int .i64 0 ∧ s = .int .i64 k) (fun _ _ => 0)
    case atStart => exact ⟨rfl, rfl⟩
    case round =>
      obtain ⟨rfl, rfl⟩ := hrel
      go_wp2_with fail
      go_ret
      exact ⟨ret_int (by simp [tot]), Within.refl _ _ _, H0.out⟩
  · obtain ⟨g, cap', e⟩ := h.head hpos
    injection e with e1 e2 e3
    subst e1
    clear e2 e3 cap'
    have H := Lib.hid h
    have HBL := Lib.hid hbl
    have HL := Lib.hid hlen
    have HW : Hid (OIntss w lo (.slice (some ⟨g, 0, none⟩) n cap) n xss) := h.since hbl
    have hgb := h.lt
    have HC : Hid (∀ j, w.cell? ⟨g, j, none⟩ = wb.cell? ⟨g, j, none⟩) := fun j => World.cell?_of_block (hbl.block g hgb.1 hgb.2)
    clear h hbl hlen
    go_enter Try.func20, Try.ntmps20
    go_wp2_with fail
    go_loopw [1, 5] (fun s i wr => ∃ j : Nat, j ≤ n ∧ i = .int .i64 j ∧ s = .int .i64 (k + tot (xss.take j)) ∧ OIntss wr lo (.slice (some ⟨g, 0, none⟩) n cap) n ((markT k xss).take j ++ xss.drop j) ∧ Within lo wb.heap.size w wr ∧ Hid (∀ j, wr.cell? ⟨g, j, none⟩ = wb.cell? ⟨g, j, none⟩)) (fun _ i _ => n - (intOf i).toNat)
    case atStart => exact ⟨0, Nat.zero_le _, rfl, by simp [tot], by simpa using HW.out, Within.refl _ _ _, HC.out⟩
    case round =>
      obtain ⟨j, hj, rfl, rfl, hown, hin, hcell⟩ := hrel
      have ht1 := HT.out j
      have ht2 := tot_nonneg (xss.take j)
      by_cases hlt : j < n
      · obtain ⟨r, hr⟩ : ∃ r, xss[j]? = some r := ⟨_, List.getElem?_eq_getElem (by have := HL.out; omega)⟩
        have hmk := markT_get xss k j r hr
        have hmid : ((markT k xss).take j ++ xss.drop j)[j]? = some r := mix_get (by rw [markT_len]; have := HL.out; omega) hr
        obtain ⟨vs, ai, ci, hvs, hu, hc, ho⟩ := hown.rows hmid
        have hrl := ho.1
        have Hset : Hid (((markT k xss).take j ++ xss.drop j).set j (marks (k + tot (xss.take j)) r.length) = (markT k xss).take (j + 1) ++ xss.drop (j + 1)) := mix_set hr hmk
        have hts := tot_take_succ hr
        have ht3 := HT.out (j + 1)
        have HE : Hid (tot (xss.take (j + 1)) = tot (xss.take j) + r.length) := hts
        have hcb : wb.cell? ⟨g, j, none⟩ = some (.slice ai r.length ci) := (hcell.out j).symm.trans hc
        have Hlt := Lib.hid (fun b hb => H.out.ownlt_row (b := b) hr hcb hb)
        have hne : (Value.slice ai r.length ci).ownBlock = none ∨ (Value.slice ai r.length ci).ownBlock ≠ some g := by
          have h5 := own_int_ne ho hvs
          rcases h5 with h5 | h5
          · exact .inl h5
          · exact .inr h5
        have HN := Lib.hid hne
        have Hown := Lib.hid hown
        have Hin := Lib.hid hin
        have Ho := Lib.hid ho
        have Hvs := Lib.hid hvs
        have Hu := Lib.hid hu
        have Hmid := Lib.hid hmid
        clear hown hin ho hvs hu hmid hmk hne hcb hr hts
        generalize tot (xss.take j) = T at *
        go_wp2_with (first | (go_at_call 21; refine (markIntS_any ai r.length ci r (k + T) lo _ Ho.out (by omega) (by omega)).mono ?_; rintro e w2 ⟨rfl, ho2, hg2⟩; have Ho2 := Lib.hid ho2; have Hg2 := Lib.hid hg2; clear ho2 hg2))
        go_roundw
        case rel =>
          refine ⟨j + 1, hlt, by go_num, by rw [HE.out, Int.add_assoc], ?_, ?_, ?_⟩
          · rw [← Hset.out]
            exact Hown.out.written Hmid.out Hvs.out Hu.out (by rw [marks_len]; exact Ho2.out) Ho.out Hg2.out
          · exact Hin.out.trans (Within.grown Hg2.out (fun b hb => Hlt.out b hb))
          · intro j'
            refine Eq.trans ?_ (hcell.out j')
            refine World.cell?_of_block (Hg2.out.block g ?_ ?_)
            · have := hgb.2; have := HBL.out.size; have := Hin.out.size; omega
            · rcases HN.out with h6 | h6
              · rw [h6]; simp
              · exact fun e => h6 e.symm
        case measure => simp [intOf]; omega
      · have e : j = n := by omega
        subst e
        have HE : Hid (k + tot (xss.take j) = k + tot xss) := by show _ = _; rw [List.take_of_length_le (by have := HL.out; omega)]
        rw [mix_end (by rw [markT_len]; exact HL.out) HL.out] at hown
        have Hown := Lib.hid hown
        clear hown
        go_wp2_with fail
        go_ret
        exact ⟨ret_int HE.out, hin, Hown.out⟩
end Go.Proofs.Ytlhognagaknhcaa
