/- MeasureOfMatchesSpec: its walk. -/
import Derived.Test.YtgmbgclhljobaaaDoorRecord
import Derived.Test.YtgmbgclhljobaaaDoorMergeMath
import Derived.Test.YtgmbgclhljobaaaDoorCounts
import Derived.Deep.RegionHeld3
import Derived.Deep.DrawnRows
namespace Go.Proofs.YtgmbgclhljobaaaDoor
open Go Go.RowKit Go.Proofs Go.Maps

theorem stepH_val (b : Int) (cs : List (Int × Int)) (j : Nat) : stepH b cs j = 0 ∨ stepH b cs j = 9 ∨ stepH b cs j = 10 := by
  unfold stepH
  by_cases h1 : fineK b (cs.getD j (0, 0)).1 = true
  · rw [if_pos h1]
    by_cases h2 : 0 < j ∧ (cs.getD j (0, 0)).1 ≤ (cs.getD (j - 1) (0, 0)).1
    · rw [if_pos h2]; omega
    · rw [if_neg h2]
      by_cases h3 : (cs.getD j (0, 0)).2 < 1 ∨ 1125899906842624 < (cs.getD j (0, 0)).2
      · rw [if_pos h3]; omega
      · rw [if_neg h3]; omega
  · rw [if_neg h1]; omega
theorem codeH_val (b : Int) (cs : List (Int × Int)) : codeH b cs = 0 ∨ codeH b cs = 3 ∨ codeH b cs = 9 ∨ codeH b cs = 10 := by
  unfold codeH
  split
  · split
    · rename_i j _; have := stepH_val b cs j; omega
    · split <;> simp
  · simp
theorem codeV_i64 (b : Int) (n : Nat) (zs : List Int) : I64 (codeV b n zs) := by
  unfold codeV I64
  split
  · split
    · omega
    · split <;> omega
  · omega
theorem codeR_i64 (b : Int) (cs : List (Int × Int)) (v n : Int) : I64 (codeR b cs v n) := by
  have := codeH_val b cs
  unfold codeR I64
  split
  · omega
  · split
    · omega
    · split <;> omega
theorem codeR_zero {b : Int} {cs : List (Int × Int)} {v n : Int} (h : codeR b cs v n = 0) : Good b cs ∧ 0 ≤ v ∧ v < 1125899906842624 ∧ 0 ≤ n ∧ tot cs + n ≤ 1125899906842624 := by
  unfold codeR at h
  by_cases h1 : codeH b cs = 0
  · rw [if_neg (by simpa using h1)] at h
    by_cases h2 : v < 0 ∨ 1125899906842623 < v ∨ n < 0 ∨ 1125899906842624 < n
    · rw [if_pos h2] at h; omega
    · rw [if_neg h2] at h
      by_cases h3 : 1125899906842624 < tot cs + n
      · rw [if_pos h3] at h; omega
      · exact ⟨codeH_zero h1, by omega, by omega, by omega, by omega⟩
  · rw [if_pos h1] at h; exact absurd h h1
theorem good_rec {b : Int} {cs cs' : List (Int × Int)} {v n : Int} (h : codeR b cs v n = 0) (hh : IsHist (recF b cs v n) cs') : Good b cs' := by
  obtain ⟨hg, hv, hv', hn, ht⟩ := codeR_zero h
  have e : recF b cs v n = sumAt id (cs ++ [(bkt b v, n)]) := sumAt_snoc id cs (bkt b v) n
  rw [e] at hh
  have hk := bkt_within b v hg.1 hg.2.1 hv hv'
  refine good_of_sum hh (fun c hc => ?_) hg.1 hg.2.1 ?_
  · rcases List.mem_append.1 hc with h | h
    · exact hg.cells c h
    · simp only [List.mem_singleton] at h; subst h; simp only; omega
  · rw [tot_append]; simp only [tot, List.map_cons, List.map_nil, List.sum_cons, List.sum_nil] at *; omega
theorem makesOf {w : World} {b : Int} {A : Option Addr} {n c : Nat} {zs : List Int} (ht : Tab w.heap.size w) (hr : Rd w 0 w.heap.size 1 A n (ints zs)) (hn : n < 9223372036854775807) :
    Makes 17 #[.int .i64 b, .slice A n c] (codeV b n zs) (inkOf b (cntB b zs) (codeV b n zs)) w := by
  have hl : zs.length = n := by have := hr.1; simpa [ints] using this
  refine makes_of ht (codeV_i64 b n zs) (fun h => ?_) (fun h cs hh => ?_) (fun w' hb' => ?_)
  · have := codeV_zero h; unfold I64; omega
  · obtain ⟨h1, h2, h3, h4⟩ := codeV_zero h
    have := hist_told hh h1 h2 h4 (by omega)
    exact ⟨this.1, by omega⟩
  · refine (Of_any b A n c zs w' (hr.old hb') hn).mono ?_
    rintro e w'' ⟨v, h1, h2, h3, h4⟩
    exact ⟨v, h1, fun h => by obtain ⟨cs', g1, g2, _⟩ := h2 h; exact ⟨cs', g1, g2.r⟩, h3, h4⟩
theorem makesROf {w : World} {b : Int} {A : Option Addr} {n c : Nat} {zs : List Int} (ht : Tab w.heap.size w) (hr : Rd w 0 w.heap.size 1 A n (ints zs)) (hn : n < 9223372036854775807) :
    Makes 14 #[.int .i64 b, .slice A n c] (codeV b n zs) (inkOf b (cntB b zs) (codeV b n zs)) w := by
  have hl : zs.length = n := by have := hr.1; simpa [ints] using this
  refine makes_of ht (codeV_i64 b n zs) (fun h => ?_) (fun h cs hh => ?_) (fun w' hb' => ?_)
  · have := codeV_zero h; unfold I64; omega
  · obtain ⟨h1, h2, h3, h4⟩ := codeV_zero h
    have := hist_told hh h1 h2 h4 (by omega)
    exact ⟨this.1, by omega⟩
  · exact ROf_any b A n c zs w' (hr.old hb') hn
theorem makesRec {w : World} {b v n : Int} {A : Option Addr} {c : Nat} {cs : List (Int × Int)} (ht : Tab w.heap.size w) (hr : Rd w 0 w.heap.size 2 A cs.length (cells2 cs)) (hn : cs.length < 9223372036854775807) (hcx : ∀ c ∈ cs, c.1 ≤ 9223372036854775807) (hni : I64 n) :
    Makes 20 #[.agg #[.int .i64 b, .slice A cs.length c], .int .i64 v, .int .i64 n] (codeR b cs v n) (inkOf b (recF b cs v n) (codeR b cs v n)) w := by
  refine makes_of ht (codeR_i64 b cs v n) (fun h => ?_) (fun h cs' hh => hist_tell (good_rec h hh)) (fun w' hb' => ?_)
  · have := (codeR_zero h).1; have h1 := this.1; have h2 := this.2.1; unfold I64; omega
  · exact Record_any b A c cs v n w' (hr.old hb') hn hcx hni
theorem makesRRec {w : World} {b v n : Int} {A : Option Addr} {c : Nat} {cs : List (Int × Int)} (ht : Tab w.heap.size w) (hr : Rd w 0 w.heap.size 2 A cs.length (cells2 cs)) (hn : cs.length < 9223372036854775807) (hcx : ∀ c ∈ cs, c.1 ≤ 9223372036854775807) (hni : I64 n) :
    Makes 21 #[.agg #[.int .i64 b, .slice A cs.length c], .int .i64 v, .int .i64 n] (codeR b cs v n) (inkOf b (recF b cs v n) (codeR b cs v n)) w := by
  refine makes_of ht (codeR_i64 b cs v n) (fun h => ?_) (fun h cs' hh => hist_tell (good_rec h hh)) (fun w' hb' => ?_)
  · have := (codeR_zero h).1; have h1 := this.1; have h2 := this.2.1; unfold I64; omega
  · exact RRecord_any b A c cs v n w' (hr.old hb') hn hcx hni

attribute [local go_sem ↓] Go.wp_at_zero Go.wp_at_succ

set_option maxHeartbeats 8000000 in
set_option maxRecDepth 100000 in
theorem law_of (b v m : Int) (Ah A : Option Addr) (bh : Int) (ch n c : Nat) (cs : List (Int × Int)) (zs : List Int) (w : World) (ht : Tab w.heap.size w) (hh : Rd w 0 w.heap.size 2 Ah cs.length (cells2 cs)) (hl : cs.length < 9223372036854775807) (hcx : ∀ c ∈ cs, c.1 ≤ 9223372036854775807)
    (hr : Rd w 0 w.heap.size 1 A n (ints zs)) (hn : n < 9223372036854775807) (hm : I64 m) :
    Calls Tryd.prog 5 #[.int .i64 b, .slice A n c, .agg #[.int .i64 bh, .slice Ah cs.length ch], .int .i64 v, .int .i64 m] w fun e w' => e = .returned (.bool true) ∧ Below w.heap.size w w' := by
  obtain ⟨W0, hW0⟩ : ∃ W0, W0 = (w).alloc (.cells #[Value.int .i64 bh, Value.slice Ah cs.length ch] 24) := ⟨_, rfl⟩
  have st0 : St w W0 [(w.heap.size, Obj.cells #[Value.int .i64 bh, Value.slice Ah cs.length ch] 24 (0, 0))] := by rw [hW0]; exact (St.start w).alloc _ _ (by simp)
  have hs0 : W0.heap.size = w.heap.size + 1 := by rw [hW0]; simp
  have hsz0 : w.heap.size + 1 ≤ W0.heap.size := by omega
  have HST0 := Lib.hid st0
  have HS0 := Lib.hid hs0
  have ht0 : Tab W0.heap.size W0 := (ht.on st0.below).mono st0.below.size
  have HC := Lib.hid (fun W' (hb : Below W0.heap.size W0 W') => check_any bh Ah cs.length ch cs W' (hh.old (st0.old hb)) hl)
  have HRC := Lib.hid (fun W' (hb : Below W0.heap.size W0 W') => rcheck_any bh Ah cs.length ch cs W' (hh.old (st0.old hb)) hl hcx)
  have HO := Lib.hid (makesOf (b := b) (c := c) ht0 (hr.old st0.below) hn)
  have HRO := Lib.hid (makesROf (b := b) (c := c) ht0 (hr.old st0.below) hn)
  have HE := Lib.hid (makesRec (b := bh) (v := v) (n := m) (c := ch) ht0 (hh.old st0.below) hl hcx hm)
  have HRE := Lib.hid (makesRRec (b := bh) (v := v) (n := m) (c := ch) ht0 (hh.old st0.below) hl hcx hm)
  have HN := Lib.hid (fun W' => counts_any W')
  clear ht ht0 hh hcx hr
  clear st0 hs0
  go_enter Tryd.func5, Tryd.ntmps5
  go_wp2_with fail
  rw [← hW0]
  clear hW0
  have HKS := Lib.hid (show ∀ w', Below W0.heap.size W0 w' → w'.cell? ⟨w.heap.size, 0, none⟩ = some (Value.int .i64 bh) ∧ w'.cell? ⟨w.heap.size, 1, none⟩ = some (Value.slice Ah cs.length ch) ∧ Below W0.heap.size W0 w' from fun w' hb => ⟨(HST0.out.call hb).cell 0 0 rfl rfl, (HST0.out.call hb).cell 0 1 rfl rfl, hb⟩)
  have k0_0 : W0.cell? ⟨w.heap.size, 0, none⟩ = some (Value.int .i64 bh) := HST0.out.cell 0 0 rfl rfl
  have k0_1 : W0.cell? ⟨w.heap.size, 1, none⟩ = some (Value.slice Ah cs.length ch) := HST0.out.cell 0 1 rfl rfl
  have l0_ : w.heap.size < W0.heap.size := HST0.out.lt 0 rfl
  go_region_held3 (fun w' => w'.cell? ⟨w.heap.size, 0, none⟩ = some (Value.int .i64 bh) ∧ w'.cell? ⟨w.heap.size, 1, none⟩ = some (Value.slice Ah cs.length ch) ∧ Below W0.heap.size W0 w')
    (first
      | exact HKS.out _ (Below.refl _ W0).drew
      | (go_split_ands; refine HKS.out _ (below_next ?_ hbK); assumption)
      | (go_split_ands; refine HKS.out _ (below_next ?_ hbJ); assumption)
      | (go_split_ands; refine HKS.out _ (below_next ?_ hbI); assumption)
      | (go_split_ands; refine HKS.out _ (below_next ?_ hbH); assumption)
      | (go_split_ands; refine HKS.out _ (below_next ?_ hbG); assumption)
      | (go_split_ands; refine HKS.out _ (below_next ?_ hbF); assumption)
      | (go_split_ands; refine HKS.out _ (below_next ?_ hbE); assumption)
      | (go_split_ands; refine HKS.out _ (below_next ?_ hbD); assumption)
      | (go_split_ands; refine HKS.out _ (below_next ?_ hbC); assumption)
      | (go_split_ands; refine HKS.out _ (below_next ?_ hbB); assumption)
      | (go_split_ands; refine HKS.out _ (below_next ?_ hbA); assumption))
    (first
      | (go_at_call 18; refine (HC.out _ ?_).mono ?_; (go_split_ands; assumption); rintro e wA ⟨rfl, hbA⟩)
      | (go_at_call 19; refine (HRC.out _ ?_).mono ?_; (go_split_ands; assumption); rintro e wB ⟨rfl, hbB⟩)
      | (go_at_call 17; refine (HO.out _ ?_).mono ?_; (go_split_ands; assumption); rintro e wC ⟨vC, rfl, htC, hbC⟩)
      | (go_at_call_of 13 vC; refine (htC _ ?_).mono ?_; exact Below.refl _ _; rintro e wD ⟨rfl, hbD⟩)
      | (go_at_call 14; refine (HRO.out _ ?_).mono ?_; (go_split_ands; assumption); rintro e wE ⟨vE, rfl, htE, hbE⟩)
      | (go_at_call_of 13 vE; refine (htE _ ?_).mono ?_; exact Below.refl _ _; rintro e wF ⟨rfl, hbF⟩)
      | (go_at_call 20; refine (HE.out _ ?_).mono ?_; (go_split_ands; assumption); rintro e wG ⟨vG, rfl, htG, hbG⟩)
      | (go_at_call_of 13 vG; refine (htG _ ?_).mono ?_; exact Below.refl _ _; rintro e wH ⟨rfl, hbH⟩)
      | (go_at_call 21; refine (HRE.out _ ?_).mono ?_; (go_split_ands; assumption); rintro e wI ⟨vI, rfl, htI, hbI⟩)
      | (go_at_call_of 13 vI; refine (htI _ ?_).mono ?_; exact Below.refl _ _; rintro e wJ ⟨rfl, hbJ⟩)
      | (go_at_call 12; refine (HN.out _).mono ?_; rintro e wK ⟨rfl, hbK⟩))
  have hbel1 : Below W0.heap.size W0 wK := by go_split_ands; assumption
  have HST1 := Lib.hid (HST0.out.call hbel1)
  have hsz1 := hbel1.size
  clear k0_0 k0_1 l0_
  have HBEL1 := Lib.hid hbel1
  clear hbel1
  have k0_0 : wK.cell? ⟨w.heap.size, 0, none⟩ = some (Value.int .i64 bh) := HST1.out.cell 0 0 rfl rfl
  have k0_1 : wK.cell? ⟨w.heap.size, 1, none⟩ = some (Value.slice Ah cs.length ch) := HST1.out.cell 0 1 rfl rfl
  have l0_ : w.heap.size < wK.heap.size := HST1.out.lt 0 rfl
  go_wp2
  go_ret
  exact ⟨rfl, HST1.out.below⟩
end Go.Proofs.YtgmbgclhljobaaaDoor
