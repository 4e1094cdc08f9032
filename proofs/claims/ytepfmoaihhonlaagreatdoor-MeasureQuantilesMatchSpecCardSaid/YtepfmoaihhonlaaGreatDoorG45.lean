import Derived.Test.YtepfmoaihhonlaaGreatDoorQPub
import Derived.Test.YtepfmoaihhonlaaGreatDoorRQnt
import Derived.Test.YtepfmoaihhonlaaGreatDoorMean
import Derived.Test.YtepfmoaihhonlaaGreatDoorRMean
import Derived.Test.YtepfmoaihhonlaaGreatDoorG44
import Derived.Test.YtepfmoaihhonlaaGreatDoorRows
import Derived.WalkKit
import Derived.ProofKit
import Derived.OpenShut
import Derived.JoinedCond
import Derived.Test.YtepfmoaihhonlaaGreatDoorChk
import Derived.Test.YtepfmoaihhonlaaGreatDoorG29
import Derived.Laws.BytesString
import Derived.Lib.ItoaLen
import Derived.Lib.SlBytesRow
import Derived.Lib.BufferRead
/- MeasureQuantilesMatchSpec: the law's walk. Printed by gen_lawqs.py. -/
namespace Go.Proofs.YtepfmoaihhonlaaGreatDoor
open Go Go.RowKit Go.Proofs

theorem tot_mono {cs : List (Int × Int)} (h : ∀ c ∈ cs, 1 ≤ c.2 ∧ c.2 ≤ 1125899906842624) {i j : Nat} (hij : i ≤ j) : tot (cs.take i) ≤ tot (cs.take j) := by
  have e : cs.take j = (cs.take j).take i ++ (cs.take j).drop i := (List.take_append_drop i _).symm
  rw [List.take_take, show min i j = i by omega] at e
  rw [e]
  have := (tot_bd ((cs.take j).drop i) (fun c hc => h c (List.mem_of_mem_take (List.mem_of_mem_drop hc)))).1
  unfold tot at *
  rw [List.map_append, List.sum_append]
  omega
theorem atRank_uniq {b : Int} {cs : List (Int × Int)} {k lo hi lo' hi' : Int} (hc : ∀ c ∈ cs, 1 ≤ c.2 ∧ c.2 ≤ 1125899906842624) (h : AtRank b cs k lo hi) (h' : AtRank b cs k lo' hi') : lo' = lo ∧ hi' = hi := by
  obtain ⟨i, x, n, h1, h2, h3, rfl, rfl⟩ := h
  obtain ⟨j, y, m, g1, g2, g3, rfl, rfl⟩ := h'
  have e : i = j := by
    rcases Nat.lt_trichotomy i j with hlt | he | hlt
    · have := tot_mono hc (i := i + 1) (j := j) (by omega); omega
    · exact he
    · have := tot_mono hc (i := j + 1) (j := i) (by omega); omega
  subst e
  rw [h1] at g1
  simp only [Option.some.injEq, Prod.mk.injEq] at g1
  rw [g1.1]
  exact ⟨rfl, rfl⟩
theorem codeQ_zero {b : Int} {cs : List (Int × Int)} {num den : Int} (h : codeQ b cs num den = 0) : codeH b cs = 0 := by
  unfold codeQ at h
  by_cases hc : codeH b cs = 0
  · exact hc
  · rw [if_neg hc] at h; exact absurd h hc
theorem W9_174 : W64 ^ 9 ≤ 10 ^ 174 := by unfold W64; decide
theorem ratS_len2 {x y : Nat} (hx : x ≤ 1125899906842624 * 1125899906842624) (hy : y ≤ 1125899906842624 * 1125899906842624) : (ratS x y).1.length ≤ 577 ∧ (ratS x y).2.length ≤ 577 := by
  have h1 := dec_le (k := 40) (by omega) (Nat.lt_of_le_of_lt (Nat.le_trans (Nat.div_le_self x (Nat.gcd x y)) hx) (by decide))
  have h2 := dec_le (k := 40) (by omega) (Nat.lt_of_le_of_lt (Nat.le_trans (Nat.div_le_self y (Nat.gcd x y)) hy) (by decide))
  unfold ratS
  exact ⟨by show (Lib.decDigits _).length ≤ 577; omega, by show (Lib.decDigits _).length ≤ 577; omega⟩
theorem mean_len (b : Int) (cs : List (Int × Int)) : ((meanL b cs).1.length ≤ 577 ∧ (meanL b cs).2.length ≤ 577) ∧ (meanH b cs).1.length ≤ 577 ∧ (meanH b cs).2.length ≤ 577 := by
  unfold meanL meanH
  by_cases h : meanC b cs = 0
  · rw [if_pos h, if_pos h]
    have hc : codeH b cs = 0 := by
      unfold meanC at h
      by_cases hc : codeH b cs = 0
      · exact hc
      · rw [if_pos hc] at h; exact absurd h hc
    have hg := codeH_zero hc
    have hs := sumN_good hg cs.length
    rw [List.take_length] at hs
    have ht := hg.2.2.2.2.2
    exact ⟨ratS_len2 (by omega) (by omega), ratS_len2 (by omega) (by omega)⟩
  · rw [if_neg h, if_neg h]; simp

set_option maxHeartbeats 4000000 in
set_option maxRecDepth 100000 in
theorem lawQs_any (b : Int) (A : Option Addr) (c : Nat) (cs : List (Int × Int)) (num den v : Int) (w : World) (ht : Tab w.heap.size w) (hr : Rd w 0 w.heap.size 2 A cs.length (cells2 cs)) (hl : cs.length < 9223372036854775807) (hx : ∀ c ∈ cs, c.1 ≤ 9223372036854775807) :
    Calls Tryz.prog 6 #[.agg #[.int .i64 b, .slice A cs.length c], .int .i64 num, .int .i64 den, .int .i64 v] w fun e w' => e = .returned (.bool true) ∧ Below w.heap.size w w' := by
  obtain ⟨W0, hW0⟩ : ∃ W0, W0 = w.alloc (.cells #[.int .i64 b, .slice A cs.length c] 53) := ⟨_, rfl⟩
  have HST0 := Lib.hid (show St w W0 [(w.heap.size, .cells #[.int .i64 b, .slice A cs.length c] 53 (0, 0))] by rw [hW0]; exact (St.start w).alloc _ _ rfl)
  have HT := fun W (h : Below w.heap.size w W) => (ht.on h).mono h.size
  have HC0 := Lib.hid (fun (h : codeH b cs = 0) c hc => ((codeH_zero h).2.2.2.1 c hc).2)
  have HT1 := Lib.hid (fun W (h : Below w.heap.size w W) => mTotal_any b A c cs W (hr.old h) hl)
  have HT2 := Lib.hid (fun W (h : Below w.heap.size w W) => rTotal_any b A c cs W (hr.old h) hl hx)
  have HQ1 := Lib.hid (fun W (h : Below w.heap.size w W) => Quantile_any b A c cs num den W (hr.old h) hl (fun h => (codeH_zero h).2.2.2.2.2))
  have HQ2 := Lib.hid (fun W (h : Below w.heap.size w W) => rQuantile_any b A c cs num den W (hr.old h) hl hx)
  have HB1 := Lib.hid (fun W (h : Below w.heap.size w W) => mBelow_any b A c cs v W (hr.old h) hl)
  have HB2 := Lib.hid (fun W (h : Below w.heap.size w W) => rBelow_any b A c cs v W (hr.old h) hl hx)
  have HM1 := Lib.hid (fun W (h : Below w.heap.size w W) => mMean_any b A c cs W (hr.old h) hl (HT W h))
  have HM2 := Lib.hid (fun W (h : Below w.heap.size w W) => rMean_any b A c cs W (hr.old h) hl hx (HT W h))
  have hml := mean_len b cs
  have HR1 := Lib.hid (fun W (h : Below w.heap.size w W) => toldRatM_any (meanL b cs).1 (meanL b cs).2 W (HT W h) (by omega) (by omega))
  have HR2 := Lib.hid (fun W (h : Below w.heap.size w W) => toldRatM_any (meanH b cs).1 (meanH b cs).2 W (HT W h) (by omega) (by omega))
  have HCT := Lib.hid (fun W => counts_any W)
  unfold ratOf at HM1 HM2
  obtain ⟨s1, hs1⟩ : ∃ s : ByteArray, s = ⟨(tellRatM (meanL b cs).1 (meanL b cs).2).toArray⟩ := ⟨_, rfl⟩
  obtain ⟨s2, hs2⟩ : ∃ s : ByteArray, s = ⟨(tellRatM (meanH b cs).1 (meanH b cs).2).toArray⟩ := ⟨_, rfl⟩
  rw [← hs1] at HR1
  rw [← hs2] at HR2
  obtain ⟨p1, hp1⟩ : ∃ s : ByteArray, s = ⟨(meanL b cs).1.toArray⟩ := ⟨_, rfl⟩
  obtain ⟨p2, hp2⟩ : ∃ s : ByteArray, s = ⟨(meanL b cs).2.toArray⟩ := ⟨_, rfl⟩
  obtain ⟨q1, hq1⟩ : ∃ s : ByteArray, s = ⟨(meanH b cs).1.toArray⟩ := ⟨_, rfl⟩
  obtain ⟨q2, hq2⟩ : ∃ s : ByteArray, s = ⟨(meanH b cs).2.toArray⟩ := ⟨_, rfl⟩
  rw [← hp1, ← hp2] at HR1
  rw [← hq1, ← hq2] at HR2
  rw [← hp1, ← hp2, ← hq1, ← hq2] at HM1 HM2
  obtain ⟨tv, htv⟩ : ∃ z, z = totV b cs := ⟨_, rfl⟩
  obtain ⟨cH, hcH⟩ : ∃ z, z = codeH b cs := ⟨_, rfl⟩
  obtain ⟨bv1, hbv1⟩ : ∃ z, z = (belV b cs v).1 := ⟨_, rfl⟩
  obtain ⟨bv2, hbv2⟩ : ∃ z, z = (belV b cs v).2 := ⟨_, rfl⟩
  obtain ⟨bc, hbc⟩ : ∃ z, z = belC b cs v := ⟨_, rfl⟩
  obtain ⟨mc, hmc⟩ : ∃ z, z = meanC b cs := ⟨_, rfl⟩
  rw [← htv, ← hcH] at HT1 HT2
  rw [← hbv1, ← hbv2, ← hbc] at HB1 HB2
  rw [← hmc] at HM1 HM2
  clear hr ht HT hml hs1 hs2 hp1 hp2 hq1 hq2 htv hcH hbv1 hbv2 hbc hmc hx
  go_enter Tryz.func6, Tryz.ntmps6
  go_wp2_with fail
  rw [← hW0]
  clear hW0
  (with_reducible refine (HT1.out W0 HST0.out.below).mono ?_)
  rintro e w1 ⟨rfl, hb1⟩
  have hST1 := HST0.out.call hb1
  have HST1 := Lib.hid hST1
  have k00 := hST1.cell 0 0 rfl rfl
  have k01 := hST1.cell 0 1 rfl rfl
  clear hb1 hST1
  go_wp2_with fail
  (with_reducible refine (HT2.out w1 HST1.out.below).mono ?_)
  rintro e w2 ⟨rfl, hb2⟩
  have hST2 := HST1.out.call hb2
  have HST2 := Lib.hid hST2
  have k00 := hST2.cell 0 0 rfl rfl
  have k01 := hST2.cell 0 1 rfl rfl
  clear hb2 hST2
  go_wp2_with fail
  (with_reducible refine (HQ1.out w2 HST2.out.below).mono ?_)
  rintro e w3 ⟨lo, hi, rfl, hq1, hq2, hb3⟩
  have hST3 := HST2.out.call hb3
  have HQA := Lib.hid hq1
  have HQZ := Lib.hid hq2
  clear hq1 hq2
  have HST3 := Lib.hid hST3
  have k00 := hST3.cell 0 0 rfl rfl
  have k01 := hST3.cell 0 1 rfl rfl
  clear hb3 hST3
  obtain ⟨qc, hqc⟩ : ∃ z, z = codeQ b cs num den := ⟨_, rfl⟩
  rw [← hqc]
  have HQC := Lib.hid hqc
  clear hqc
  go_wp2_with fail
  (with_reducible refine (HQ2.out w3 HST3.out.below).mono ?_)
  rintro e w4 ⟨lo', hi', rfl, hq1, hq2, hb4⟩
  have hST4 := HST3.out.call hb4
  obtain ⟨rfl, rfl⟩ : lo' = lo ∧ hi' = hi := by
    by_cases hz : codeQ b cs num den = 0
    · exact atRank_uniq (HC0.out (codeQ_zero hz)) (HQA.out hz) (hq1 hz)
    · exact ⟨(hq2 hz).1.trans (HQZ.out hz).1.symm, (hq2 hz).2.trans (HQZ.out hz).2.symm⟩
  clear hq1 hq2 HQA HQZ
  rw [← HQC.out]
  have HST4 := Lib.hid hST4
  have k00 := hST4.cell 0 0 rfl rfl
  have k01 := hST4.cell 0 1 rfl rfl
  clear hb4 hST4
  go_wp2_with fail
  (with_reducible refine (HB1.out w4 HST4.out.below).mono ?_)
  rintro e w5 ⟨rfl, hb5⟩
  have hST5 := HST4.out.call hb5
  have HST5 := Lib.hid hST5
  have k00 := hST5.cell 0 0 rfl rfl
  have k01 := hST5.cell 0 1 rfl rfl
  clear hb5 hST5
  go_wp2_with fail
  (with_reducible refine (HB2.out w5 HST5.out.below).mono ?_)
  rintro e w6 ⟨rfl, hb6⟩
  have hST6 := HST5.out.call hb6
  have HST6 := Lib.hid hST6
  have k00 := hST6.cell 0 0 rfl rfl
  have k01 := hST6.cell 0 1 rfl rfl
  clear hb6 hST6
  go_wp2_with fail
  (with_reducible refine (HM1.out w6 HST6.out.below).mono ?_)
  rintro e w7 ⟨rfl, hb7⟩
  have hST7 := HST6.out.call hb7
  obtain ⟨X1, hX1⟩ : ∃ X, X = (w7.alloc (.cells #[.string p1, .string p2] 31)).alloc (.cells #[.string q1, .string q2] 31) := ⟨_, rfl⟩
  have hSX1 : St w X1 [(w.heap.size, .cells #[.int .i64 b, .slice A cs.length c] 53 (0, 0)), (w7.heap.size, .cells #[.string p1, .string p2] 31 (0, 0)), (w7.heap.size + 1, .cells #[.string q1, .string q2] 31 (0, 0))] := by rw [hX1]; exact (hST7.alloc _ _ rfl).alloc _ _ (by simp)
  have HSX1 := Lib.hid hSX1
  have k00 := hST7.cell 0 0 rfl rfl
  have k01 := hST7.cell 0 1 rfl rfl
  have hlt0 : w.heap.size < w7.heap.size := hST7.lt 0 rfl
  clear hb7 hST7 hSX1
  go_wp2_with fail
  rw [← hX1]
  clear hX1
  (with_reducible refine (HM2.out X1 HSX1.out.below).mono ?_)
  rintro e w8 ⟨rfl, hb8⟩
  have hST8 := HSX1.out.call hb8
  obtain ⟨X2, hX2⟩ : ∃ X, X = (w8.alloc (.cells #[.string p1, .string p2] 31)).alloc (.cells #[.string q1, .string q2] 31) := ⟨_, rfl⟩
  have HSX2 := Lib.hid (show St w X2 [(w.heap.size, .cells #[.int .i64 b, .slice A cs.length c] 53 (0, 0)), (w7.heap.size, .cells #[.string p1, .string p2] 31 (0, 0)), (w7.heap.size + 1, .cells #[.string q1, .string q2] 31 (0, 0)), (w8.heap.size, .cells #[.string p1, .string p2] 31 (0, 0)), (w8.heap.size + 1, .cells #[.string q1, .string q2] 31 (0, 0))] by rw [hX2]; exact (hST8.alloc _ _ rfl).alloc _ _ (by simp))
  have hlt1 : w7.heap.size < w8.heap.size := hST8.lt 1 rfl
  have hlt2 : w7.heap.size + 1 < w8.heap.size := hST8.lt 2 rfl
  clear hb8 hST8 k00 k01
  have HKS := Lib.hid (show ∀ X, Below X2.heap.size X2 X → (fun X => Below X2.heap.size X2 X ∧ X.cell? ⟨w7.heap.size, 0, none⟩ = some (.string p1) ∧ X.cell? ⟨w7.heap.size, 1, none⟩ = some (.string p2) ∧ X.cell? ⟨w7.heap.size + 1, 0, none⟩ = some (.string q1) ∧ X.cell? ⟨w7.heap.size + 1, 1, none⟩ = some (.string q2) ∧ X.cell? ⟨w8.heap.size, 0, none⟩ = some (.string p1) ∧ X.cell? ⟨w8.heap.size, 1, none⟩ = some (.string p2) ∧ X.cell? ⟨w8.heap.size + 1, 0, none⟩ = some (.string q1) ∧ X.cell? ⟨w8.heap.size + 1, 1, none⟩ = some (.string q2)) X from fun X h => ⟨h, (HSX2.out.call h).cell 1 0 rfl rfl, (HSX2.out.call h).cell 1 1 rfl rfl, (HSX2.out.call h).cell 2 0 rfl rfl, (HSX2.out.call h).cell 2 1 rfl rfl, (HSX2.out.call h).cell 3 0 rfl rfl, (HSX2.out.call h).cell 3 1 rfl rfl, (HSX2.out.call h).cell 4 0 rfl rfl, (HSX2.out.call h).cell 4 1 rfl rfl⟩)
  have HRA := Lib.hid (fun X (h : Below X2.heap.size X2 X) => HR1.out X (HSX2.out.call h).below)
  have HRB := Lib.hid (fun X (h : Below X2.heap.size X2 X) => HR2.out X (HSX2.out.call h).below)
  go_upto_region 15 with fail
  rw [← hX2]
  clear hX2
  obtain ⟨-, f0, f1, f2, f3, f4, f5, f6, f7⟩ := HKS.out X2 (Below.refl _ _)
  go_region_held3 (fun X => Below X2.heap.size X2 X ∧ X.cell? ⟨w7.heap.size, 0, none⟩ = some (.string p1) ∧ X.cell? ⟨w7.heap.size, 1, none⟩ = some (.string p2) ∧ X.cell? ⟨w7.heap.size + 1, 0, none⟩ = some (.string q1) ∧ X.cell? ⟨w7.heap.size + 1, 1, none⟩ = some (.string q2) ∧ X.cell? ⟨w8.heap.size, 0, none⟩ = some (.string p1) ∧ X.cell? ⟨w8.heap.size, 1, none⟩ = some (.string p2) ∧ X.cell? ⟨w8.heap.size + 1, 0, none⟩ = some (.string q1) ∧ X.cell? ⟨w8.heap.size + 1, 1, none⟩ = some (.string q2))
    (first
      | exact HKS.out _ (Below.refl _ X2).drew
      | (go_split_ands; refine HKS.out _ (below_next ?_ hbA); assumption)
      | (go_split_ands; refine HKS.out _ (below_next ?_ hbB); assumption)
      | (go_split_ands; refine HKS.out _ (below_next ?_ hbC); assumption))
    (first
      | (go_at_call 32; (with_reducible refine (HRA.out _ ?_).mono ?_); (first | exact (Below.refl _ X2).drew | (go_split_ands; assumption)); rintro e wA ⟨rfl, hbA⟩)
      | (go_at_call 32; (with_reducible refine (HRB.out _ ?_).mono ?_); (first | exact (Below.refl _ X2).drew | (go_split_ands; assumption)); rintro e wA ⟨rfl, hbB⟩)
      | (go_at_call 35; (with_reducible refine (HCT.out _).mono ?_); rintro e wC ⟨rfl, hbC⟩))
  have HBL := Lib.hid (show Below X2.heap.size X2 wC by go_split_ands; assumption)
  go_wp2
  go_ret
  exact ⟨rfl, (HSX2.out.call HBL.out).below⟩
end Go.Proofs.YtepfmoaihhonlaaGreatDoor

/- The last step of every law: what was read before the call reads the same behind it, because nothing that was there has turned. -/
namespace Go.Proofs.YtepfmoaihhonlaaGreatDoor
open Go Go.ChangeShapes Go.WideShapes Go.ChangeAt Go.RowKit

theorem own : ownKnob Tryz.prog.godebug = none := by kernel_rfl
theorem laidOut : laidOutB Tryz.prog = true := by kernel_rfl

theorem trodAll_below {H : Type} {enc : TypeId × Value → H} {P : Program} (hl : laidOutB P = true) {W W' : World} (hb : Below W.heap.size W W') :
    ∀ (ts : List TypeId) (vs : List Value) (ds : List (DataW H)) (ps : List MemPlace), (∀ t ∈ ts, P.readableRec t = true ∧ t < P.types.size) → (∀ x ∈ ps, x.block < W.heap.size) →
    DataW.TrodAll enc P W 0 (fun _ => true) true ts vs ds ps → DataW.TrodAll enc P W' 0 (fun b => decide (b < W.heap.size)) true ts vs ds ps := by
  intro ts
  induction ts with
  | nil =>
    intro vs ds ps _ _ h
    obtain ⟨rfl, rfl, rfl⟩ := trodAll_nil h
    exact trodAll_mk0
  | cons t ts ih =>
    intro vs ds ps ht hp h
    obtain ⟨v, vs', d, ds', p, q, rfl, rfl, rfl, h1, h2⟩ := trodAll_cons h
    have ht1 := ht t (by simp)
    exact trodAll_cons_mk (Below.trod hl ht1.1 ht1.2 h1 hb (fun x hx => hp x (by simp [hx]))) (ih vs' ds' q (fun t' h' => ht t' (by simp [h'])) (fun x hx => hp x (by simp [hx])) h2)

/-- a law's post, out of 'nothing that was there has turned' -/
theorem law_post {H : Type} {enc : TypeId × Value → H} {P : Program} (hl : laidOutB P = true) {f : Func} {s : ChangeSpec} {W W' : World} {args : Array Value} {ds gs : List (DataW H)} {before : List MemPlace} {tb : TypeId}
    (hW : DataW.Whole enc P f.params.toList s.vars false W args.toList ds gs before) (hv : s.vars = []) (hfn : s.fn H (ds ++ gs) = { results := [.lit (.bool true)], args := ds })
    (hts : ∀ t ∈ f.params.toList, P.readableRec t = true ∧ t < P.types.size) (hres : f.resultTypes = #[tb]) (htb : P.underlying tb = some .bool) (hb : Below W.heap.size W W') :
    s.post enc P f false true false false W args (.bool true) W' := by
  have hlt : ∀ p ∈ before, p.block < W.heap.size := fun p hp => hW.lt p hp
  obtain ⟨p, q, hA, hV, rfl, hfz, hnd⟩ := id hW
  have hV0 := hV
  rw [hv] at hV
  obtain ⟨rfl, rfl⟩ := trodVars_none hV
  refine ⟨ds, [], p ++ [], [], p, [], hW, ?_, ?_, ?_, hb.frame _, fun h => by cases h⟩
  · rw [hfn, hres]
    exact trodAll_mk1 (shut_bool htb true)
  · rw [hfn]
    exact trodAll_below hl hb _ _ _ _ hts (fun x hx => hlt x (by simp [hx])) hA
  · rw [hfn, hv]
    rfl
end Go.Proofs.YtepfmoaihhonlaaGreatDoor

/- Ink: what is written is a function of what is to be written. -/
namespace Go.Proofs.YtepfmoaihhonlaaGreatDoor
open Go Go.RowKit Go.Proofs Go.Maps

/-- what Histogram writes -/
def inkPairs (cs : List (Int × Int)) : List UInt8 := cs.flatMap fun c => inkInt c.1 ++ inkInt c.2
def inkHist (b : Int) (cs : List (Int × Int)) : List UInt8 := inkInt b ++ inkInt cs.length ++ inkPairs cs
theorem inkPairs_take (cs : List (Int × Int)) (i : Nat) (x n : Int) (h : cs[i]? = some (x, n)) : inkPairs (cs.take (i + 1)) = inkPairs (cs.take i) ++ inkInt x ++ inkInt n := by
  rw [List.take_add_one, h]; simp [inkPairs]
theorem inkPairs_length (cs : List (Int × Int)) (h : ∀ c ∈ cs, I64 c.1 ∧ I64 c.2) : (inkPairs cs).length ≤ 44 * cs.length := by
  induction cs with
  | nil => simp [inkPairs]
  | cons c cs ih =>
    have h1 := ih (fun x hx => h x (by simp [hx]))
    have h2 := h c (by simp)
    have l1 := inkInt_length c.1 h2.1.1 h2.1.2
    have l2 := inkInt_length c.2 h2.2.1 h2.2.2
    simp only [inkPairs, List.flatMap_cons, List.length_append, List.length_cons] at *
    omega

set_option maxHeartbeats 1000000 in
set_option maxRecDepth 100000 in
theorem inkHist_any (K base : Nat) (bs : List UInt8) (b : Int) (A : Option Addr) (c : Nat) (cs : List (Int × Int)) (w : World) (h : InkAt w K base bs) (hl : bs.length < 10000000000) (hb : I64 b) (hcs : ∀ c ∈ cs, I64 c.1 ∧ I64 c.2) (hn : cs.length ≤ 100000000)
    (hr : Rd w 0 K 2 A cs.length (cells2 cs)) :
    Calls Tryz.prog 123 #[.pointer (some ⟨K, 0, none⟩), .agg #[.int .i64 b, .slice A cs.length c]] w fun e w' => e = .returned (.tuple #[]) ∧ InkAt w' K base (bs ++ inkHist b cs) ∧ InkFr K base w w' := by
  have hlen := inkPairs_length cs hcs
  have l1 := inkInt_length b hb.1 hb.2
  have l2 := inkInt_length (cs.length : Int) (by omega) (by omega)
  have hin : InkAt (w.alloc (.cells #[.int .i64 b, .slice A cs.length c] 53)) K base bs := h.fr (may := fun _ => False) ((Fr.refl _ w).alloc _) (fun _ _ h => h) (fun _ _ _ h => h)
  have hKw : K < w.heap.size := by have := h.1; have := h.2.1; omega
  have hbw := h.2.1
  have hKb := h.1
  have HI := Lib.hid hin
  have HB := Lib.hid hb
  have HC := Lib.hid hcs
  have HR := Lib.hid (hr.alloc (by omega) (.cells #[.int .i64 b, .slice A cs.length c] 53))
  have HL := Lib.hid hl
  have HN := Lib.hid hn
  have hbx0 : (w.alloc (.cells #[.int .i64 b, .slice A cs.length c] 53)).heap[w.heap.size]? = some (.cells #[.int .i64 b, .slice A cs.length c] 53 (0, 0)) := alloc_at _ _ _ rfl
  have HBX := Lib.hid hbx0
  have HLEN := Lib.hid hlen
  clear h hin hb hcs hr hl hlen hbx0
  go_enter Tryz.func123, Tryz.ntmps123
  go_wp2_with fail
  obtain ⟨W0, hW0⟩ : ∃ W0, W0 = w.alloc (.cells #[.int .i64 b, .slice A cs.length c] 53) := ⟨_, rfl⟩
  rw [← hW0] at HI HR HBX ⊢
  have hs0 : W0.heap.size = w.heap.size + 1 := by rw [hW0]; simp
  have HFR0 : Hid (InkFr K base w W0) := Lib.hid (by rw [hW0]; exact (InkFr.refl K base w).alloc _)
  clear hW0
  refine (inkInt_any K base bs b _ HI.out (by have := HL.out; omega) HB.out.1 HB.out.2).mono ?_
  rintro e w1 ⟨rfl, hi1, hf1⟩
  have hbx1 := hf1.keep HBX.out (by decide) (by omega)
  have e1 : w1.cell? ⟨w.heap.size, 1, none⟩ = some (.slice A cs.length c) := by rw [cellsAt hbx1]; rfl
  have HI1 := Lib.hid hi1
  have HF1 := Lib.hid hf1
  have HS0 := Lib.hid hs0
  clear hi1 hf1 hbx1 hs0
  go_wp2_with fail
  refine (inkInt_any K base (bs ++ inkInt b) (cs.length : Int) _ HI1.out (by have := HL.out; simp; omega) (by omega) (by have := HN.out; omega)).mono ?_
  rintro e w2 ⟨rfl, hi2, hf2⟩
  have hf02 := HF1.out.trans hf2
  have HI2 := Lib.hid hi2
  have HF2 := Lib.hid hf02
  clear hi2 hf2 hf02 e1
  go_wp2
  go_loopw [4] (fun i wr => ∃ k : Nat, k ≤ cs.length ∧ i = .int .i64 k ∧ InkAt wr K base (bs ++ inkInt b ++ inkInt cs.length ++ inkPairs (cs.take k)) ∧ InkFr K base W0 wr) (fun i _ => cs.length - (intOf i).toNat)
  case atStart => exact ⟨0, Nat.zero_le _, rfl, by simpa [inkPairs] using HI2.out, HF2.out⟩
  case round =>
    obtain ⟨k, hk, rfl, hik, hfk⟩ := hrel
    have hbxk := hfk.keep HBX.out (by decide) (by omega)
    have e1 : wr.cell? ⟨w.heap.size, 1, none⟩ = some (.slice A cs.length c) := by rw [cellsAt hbxk]; rfl
    have hbel := hfk.below (by have := HS0.out; omega) (by omega)
    have hrk := HR.out.below hbel (Nat.le_refl _)
    have HIK := Lib.hid hik
    have HFK := Lib.hid hfk
    clear hik hfk hbxk
    by_cases hlt : k < cs.length
    · obtain ⟨bk, o, x, m, rfl, _, hbk, hx, c0, c1⟩ := hrk.at2 hlt
      have hpt := inkPairs_take cs k x m hx
      have hxm := HC.out (x, m) (List.mem_of_getElem? hx)
      have hlk := inkPairs_length (cs.take k) (fun c hc => HC.out c (List.mem_of_mem_take hc))
      rw [List.length_take] at hlk
      have hlx := inkInt_length x hxm.1.1 hxm.1.2
      have HPT := Lib.hid hpt
      have HXM := Lib.hid hxm
      have HLK := Lib.hid hlk
      have HRK := Lib.hid hrk
      clear hx hpt hxm hlk hrk hbel
      go_wp2_with fail
      refine (inkInt_any K base _ x _ HIK.out (by have := HL.out; have := HLK.out; have := HN.out; simp only [List.length_append]; omega) HXM.out.1.1 HXM.out.1.2).mono ?_
      rintro e w3 ⟨rfl, hi3, hf3⟩
      have hf03 := HFK.out.trans hf3
      have hbx3 := hf03.keep HBX.out (by decide) (by omega)
      have e3 : w3.cell? ⟨w.heap.size, 1, none⟩ = some (.slice (some ⟨bk, o, none⟩) cs.length c) := by rw [cellsAt hbx3]; rfl
      have d1 : w3.cell? ⟨bk, o + k * 2 + 1, none⟩ = some (.int .i64 m) := by
        have hb3 : Below K wr w3 := hf3.below (by have := HFK.out.size; have := HS0.out; omega) (by omega)
        exact (hb3.cell (p := ⟨bk, o + k * 2 + 1, none⟩) hbk).trans c1
      have HI3 := Lib.hid hi3
      have HF3 := Lib.hid hf03
      clear hi3 hf3 hf03 hbx3 e1 c0 c1
      go_wp2_with fail
      refine (inkInt_any K base _ m _ HI3.out (by have := HL.out; have := HLK.out; have := HN.out; simp only [List.length_append]; omega) HXM.out.2.1 HXM.out.2.2).mono ?_
      rintro e w4 ⟨rfl, hi4, hf4⟩
      have HI4 := Lib.hid hi4
      have HF4 := Lib.hid (HF3.out.trans hf4)
      clear hi4 hf4 e3 d1
      go_wp2
      go_roundw
      case rel => exact ⟨k + 1, by omega, by go_num, by rw [HPT.out]; simpa [List.append_assoc] using HI4.out, HF4.out⟩
      case measure => simp [intOf]; omega
    · clear hrk hbel
      go_wp2
      go_end0
      refine ⟨rfl, ?_, HFR0.out.trans HFK.out⟩
      have := HIK.out
      rw [List.take_of_length_le (by omega)] at this
      simpa [inkHist, List.append_assoc] using this

/-- a value that is a histogram, its counts below block B -/
def HistB (w : World) (B : Nat) (v : Value) (b : Int) (cs : List (Int × Int)) : Prop :=
  ∃ A c, v = .agg #[.int .i64 b, .slice A cs.length c] ∧ Rd w 0 B 2 A cs.length (cells2 cs)

end Go.Proofs.YtepfmoaihhonlaaGreatDoor
