/- Package dynamometerref9: Apart. Printed by gen_rapart.py. -/
import Derived.Test.YtepfmoaihhonlaaGreatDoorApart
import Derived.Test.YtepfmoaihhonlaaGreatDoorG38
import Derived.Test.YtepfmoaihhonlaaGreatDoorRMean
import Derived.Test.YtepfmoaihhonlaaGreatDoorG40
import Derived.Deep.AppendLies
namespace Go.Proofs.YtepfmoaihhonlaaGreatDoor
open Go Go.RowKit Go.Proofs

theorem cells2_oneA (cs : List (Int × Int)) : ∀ u ∈ cells2 cs, u.oneCell' = true := by
  intro u hu
  simp only [cells2, List.mem_flatMap] at hu
  obtain ⟨c, _, hc⟩ := hu
  simp at hc
  rcases hc with rfl | rfl <;> rfl
theorem news_rd {W : World} {bk o : Nat} {xs : List Value} (h : ∀ (j : Nat) u, xs[j]? = some u → W.cell? ⟨bk, o + j, none⟩ = some u) : ∀ (j : Nat) u, xs[j]? = some u → W.cell? ((⟨bk, o, none⟩ : Addr).add j) = some u := by
  intro j u hu
  have hadd : (⟨bk, o, none⟩ : Addr).add j = ⟨bk, o + j, none⟩ := by unfold Addr.add; split <;> simp_all
  rw [hadd]; exact h j u hu
theorem nil_own (W : World) (base : Nat) : W.ownsRow base 121 2 (.slice none 0 0) 0 [] := ⟨by simp, .inl ⟨rfl, rfl⟩⟩
theorem rd_row {W : World} {base g n cap : Nat} {xs : List Value} (h : W.ownsRow base 121 2 (.slice (some ⟨g, 0, none⟩) n cap) n xs) : Rd W g (g + 1) 2 (some ⟨g, 0, none⟩) n xs := by
  have hr := Rd.of_own h
  refine ⟨hr.1, fun hn => ?_⟩
  obtain ⟨b, o, e, _, _, hc⟩ := hr.2 hn
  simp only [Option.some.injEq, Addr.mk.injEq, and_true] at e
  obtain ⟨rfl, rfl⟩ := e
  exact ⟨g, 0, rfl, Nat.le_refl _, Nat.lt_succ_self _, hc⟩
theorem fracR_abs {W : World} {s : Bool} {A1 A2 : Option Addr} {c1 c2 : Nat} {l1 l2 : List Nat} {q : Rat} (h1 : RNatR W A1 c1 l1 (frN q)) (h2 : RNatR W A2 c2 l2 q.den) : FracR W (.agg #[.bool false, .slice A1 l1.length c1, .slice A2 l2.length c2]) (absQ q) := by
  obtain ⟨e1, e2, e3⟩ := abs_parts q
  exact ⟨A1, c1, l1, A2, c2, l2, by rw [e1], by rw [e2]; exact h1, by rw [e3]; exact h2⟩

set_option maxHeartbeats 8000000 in
set_option maxRecDepth 100000 in
theorem rApart_bad (b1 b2 : Int) (A1 A2 : Option Addr) (c1 c2 : Nat) (a bb : List (Int × Int)) (w : World) (hr1 : Rd w 0 w.heap.size 2 A1 a.length (cells2 a)) (hr2 : Rd w 0 w.heap.size 2 A2 bb.length (cells2 bb)) (hl1 : a.length < 9223372036854775807) (hl2 : bb.length < 9223372036854775807) (hx1 : ∀ c ∈ a, c.1 ≤ 9223372036854775807) (hx2 : ∀ c ∈ bb, c.1 ≤ 9223372036854775807) (h : codeB b1 a b2 bb ≠ 0) :
    Calls Tryz.prog 31 #[.agg #[.int .i64 b1, .slice A1 a.length c1], .agg #[.int .i64 b2, .slice A2 bb.length c2]] w fun e w' => e = .returned (.tuple #[ratOf (apP b1 a b2 bb), .int .i64 (apC b1 a b2 bb)]) ∧ Below w.heap.size w w' := by
  have HV := Lib.hid (show (.tuple #[ratOf (apP b1 a b2 bb), .int .i64 (apC b1 a b2 bb)] : Value) = .tuple #[.agg #[.string ⟨#[]⟩, .string ⟨#[]⟩], .int .i64 (codeB b1 a b2 bb)] by
    have e : apC b1 a b2 bb = codeB b1 a b2 bb := by unfold apC; rw [if_pos h]
    unfold apP ratOf; rw [e, if_neg h])
  have HCK := Lib.hid (fun (W : World) (hb : Below w.heap.size w W) => pairFault_any b1 b2 A1 A2 c1 c2 a bb W (hr1.old hb) (hr2.old hb) hl1 hl2 hx1 hx2)
  obtain ⟨W0, hW0⟩ : ∃ W0, W0 = ((w.alloc (.cells #[.int .i64 b1, .slice A1 a.length c1] 53)).alloc (.cells #[.int .i64 b2, .slice A2 bb.length c2] 53)).alloc (.cells #[.string ⟨#[]⟩, .string ⟨#[]⟩] 31) := ⟨_, rfl⟩
  have HST0 := Lib.hid (show St w W0 [(w.heap.size, .cells #[.int .i64 b1, .slice A1 a.length c1] 53 (0, 0)), (w.heap.size + 1, .cells #[.int .i64 b2, .slice A2 bb.length c2] 53 (0, 0)), (w.heap.size + 1 + 1, .cells #[.string ⟨#[]⟩, .string ⟨#[]⟩] 31 (0, 0))] by rw [hW0]; exact (((St.start w).alloc _ _ rfl).alloc _ _ (by simp)).alloc _ _ (by simp))
  obtain ⟨cc, hcc⟩ : ∃ cc, cc = codeB b1 a b2 bb := ⟨_, rfl⟩
  rw [← hcc] at HCK h HV
  have t1 : (cc != 0) = true := by simpa using h
  clear hcc hr1 hr2 hx1 hx2
  go_enter Tryz.func31, Tryz.ntmps31
  go_wp2_with fail
  rw [← hW0]
  clear hW0
  (with_reducible refine (HCK.out W0 HST0.out.below).mono ?_)
  rintro e w1 ⟨rfl, hb1⟩
  have hST1 := HST0.out.call hb1
  have HST1 := Lib.hid hST1
  have k00 := hST1.cell 0 0 rfl rfl
  have k01 := hST1.cell 0 1 rfl rfl
  have k10 := hST1.cell 1 0 rfl rfl
  have k11 := hST1.cell 1 1 rfl rfl
  have r0 := hST1.cell 2 0 rfl rfl
  have r1 := hST1.cell 2 1 rfl rfl
  have z0 := hST1.frozen 2 0 rfl
  have z1 := hST1.frozen 2 1 rfl
  have HFIN := Lib.hid ((hST1.below.setCell (p := ⟨w.heap.size + 1 + 1, 0, none⟩) (by simp only; omega) (.string ⟨#[]⟩)).setCell (p := ⟨w.heap.size + 1 + 1, 1, none⟩) (by simp only; omega) (.string ⟨#[]⟩))
  clear hb1 hST1
  go_wp2
  refine bodyPost_ret (v := .tuple #[.agg #[.string ⟨#[]⟩, .string ⟨#[]⟩], .int .i64 cc]) ?_ rfl ⟨by first | rw [HV.out] | (unfold ratOf; rw [HV.out]), HFIN.out⟩
  simp [results, Tryz.results31, go_sem, r0, r1]

set_option maxHeartbeats 8000000 in
set_option maxRecDepth 100000 in
theorem rApart_empty (b1 b2 : Int) (A1 A2 : Option Addr) (c1 c2 : Nat) (a bb : List (Int × Int)) (w : World) (hr1 : Rd w 0 w.heap.size 2 A1 a.length (cells2 a)) (hr2 : Rd w 0 w.heap.size 2 A2 bb.length (cells2 bb)) (hl1 : a.length < 9223372036854775807) (hl2 : bb.length < 9223372036854775807) (hx1 : ∀ c ∈ a, c.1 ≤ 9223372036854775807) (hx2 : ∀ c ∈ bb, c.1 ≤ 9223372036854775807) (h : codeB b1 a b2 bb = 0) (h0 : a.length = 0 ∨ bb.length = 0) :
    Calls Tryz.prog 31 #[.agg #[.int .i64 b1, .slice A1 a.length c1], .agg #[.int .i64 b2, .slice A2 bb.length c2]] w fun e w' => e = .returned (.tuple #[ratOf (apP b1 a b2 bb), .int .i64 (apC b1 a b2 bb)]) ∧ Below w.heap.size w w' := by
  have HV := Lib.hid (show (.tuple #[ratOf (apP b1 a b2 bb), .int .i64 (apC b1 a b2 bb)] : Value) = .tuple #[.agg #[.string ⟨#[]⟩, .string ⟨#[]⟩], .int .i64 13] by
    have e : apC b1 a b2 bb = 13 := by
      unfold apC; rw [if_neg (by omega)]
      by_cases g : a.length = 0
      · rw [if_pos g]
      · rw [if_neg g, if_pos (by omega)]
    unfold apP ratOf; rw [e]; rfl)
  obtain ⟨hcA, hcB, hb12⟩ := codeB_zero h
  have hgA := codeH_zero hcA
  have hgB := codeH_zero hcB
  have HCK := Lib.hid (fun (W : World) (hb : Below w.heap.size w W) => pairFault_any b1 b2 A1 A2 c1 c2 a bb W (hr1.old hb) (hr2.old hb) hl1 hl2 hx1 hx2)
  obtain ⟨W0, hW0⟩ : ∃ W0, W0 = ((w.alloc (.cells #[.int .i64 b1, .slice A1 a.length c1] 53)).alloc (.cells #[.int .i64 b2, .slice A2 bb.length c2] 53)).alloc (.cells #[.string ⟨#[]⟩, .string ⟨#[]⟩] 31) := ⟨_, rfl⟩
  have HST0 := Lib.hid (show St w W0 [(w.heap.size, .cells #[.int .i64 b1, .slice A1 a.length c1] 53 (0, 0)), (w.heap.size + 1, .cells #[.int .i64 b2, .slice A2 bb.length c2] 53 (0, 0)), (w.heap.size + 1 + 1, .cells #[.string ⟨#[]⟩, .string ⟨#[]⟩] 31 (0, 0))] by rw [hW0]; exact (((St.start w).alloc _ _ rfl).alloc _ _ (by simp)).alloc _ _ (by simp))
  rw [h] at HCK
  have HTA := Lib.hid (fun (W : World) (hb : Below w.heap.size w W) => rtotal_any b1 A1 a.length c1 a W (hr1.old hb) (fun c hc => (hgA.2.2.2.1 c hc).2) hgA.2.2.1)
  have HTB := Lib.hid (fun (W : World) (hb : Below w.heap.size w W) => rtotal_any b2 A2 bb.length c2 bb W (hr2.old hb) (fun c hc => (hgB.2.2.2.1 c hc).2) hgB.2.2.1)
  have hpA := tot_pos (fun c hc => (hgA.2.2.2.1 c hc).2)
  have hpB := tot_pos (fun c hc => (hgB.2.2.2.1 c hc).2)
  have htA := hgA.2.2.2.2.2
  have htB := hgB.2.2.2.2.2
  obtain ⟨n, hn⟩ : ∃ n : Nat, (n : Int) = tot a := ⟨(tot a).toNat, by omega⟩
  obtain ⟨m, hm⟩ : ∃ m : Nat, (m : Int) = tot bb := ⟨(tot bb).toNat, by omega⟩
  have e0 : a.length = 0 → n = 0 := fun g => by rw [List.eq_nil_of_length_eq_zero g] at hn; simp [tot] at hn; omega
  have e1 : bb.length = 0 → m = 0 := fun g => by rw [List.eq_nil_of_length_eq_zero g] at hm; simp [tot] at hm; omega
  rw [← hn] at HTA
  rw [← hm] at HTB
  have h9 : n = 0 ∨ m = 0 := by omega
  clear h hr1 hr2 hx1 hx2 hgA hgB hcA hcB hn hm hpA hpB htA htB h0 e0 e1 hb12
  by_cases g : n = 0
  · have t1 : ((n : Int) == 0) = true := by rw [beq_iff_eq]; omega
    have t2 : (n == 0) = true := by rw [beq_iff_eq]; omega
    clear h9 g
    go_enter Tryz.func31, Tryz.ntmps31
    go_wp2_with fail
    rw [← hW0]
    clear hW0
    (with_reducible refine (HCK.out W0 HST0.out.below).mono ?_)
    rintro e w1 ⟨rfl, hb1⟩
    have hST1 := HST0.out.call hb1
    have HST1 := Lib.hid hST1
    have k00 := hST1.cell 0 0 rfl rfl
    have k01 := hST1.cell 0 1 rfl rfl
    have k10 := hST1.cell 1 0 rfl rfl
    have k11 := hST1.cell 1 1 rfl rfl
    have HKS := Lib.hid (show ∀ X, Below w1.heap.size w1 X → (fun X => Below w1.heap.size w1 X ∧ X.cell? ⟨w.heap.size, 0, none⟩ = some (.int .i64 b1) ∧ X.cell? ⟨w.heap.size, 1, none⟩ = some (.slice A1 a.length c1) ∧ X.cell? ⟨w.heap.size + 1, 0, none⟩ = some (.int .i64 b2) ∧ X.cell? ⟨w.heap.size + 1, 1, none⟩ = some (.slice A2 bb.length c2)) X from fun X h => ⟨h, (HST1.out.call h).cell 0 0 rfl rfl, (HST1.out.call h).cell 0 1 rfl rfl, (HST1.out.call h).cell 1 0 rfl rfl, (HST1.out.call h).cell 1 1 rfl rfl⟩)
    have HWB := Lib.hid (fun X (h : Below w1.heap.size w1 X) => (HST1.out.call h).below)
    clear hb1 hST1
    go_upto_region 4 with fail
    clear k00 k01 k10 k11
    obtain ⟨-, f0, f1, f2, f3⟩ := HKS.out w1 (Below.refl _ _)
    go_region_held3 (fun X => Below w1.heap.size w1 X ∧ X.cell? ⟨w.heap.size, 0, none⟩ = some (.int .i64 b1) ∧ X.cell? ⟨w.heap.size, 1, none⟩ = some (.slice A1 a.length c1) ∧ X.cell? ⟨w.heap.size + 1, 0, none⟩ = some (.int .i64 b2) ∧ X.cell? ⟨w.heap.size + 1, 1, none⟩ = some (.slice A2 bb.length c2))
      (first
        | exact HKS.out _ (Below.refl _ w1).drew
        | (go_split_ands; refine HKS.out _ (below_next ?_ hb2'); assumption)
        | (go_split_ands; refine HKS.out _ (below_next ?_ hb3'); assumption))
      (first
        | (go_at_call 94; (with_reducible refine (HTA.out _ (HWB.out _ ?_)).mono ?_); (first | exact (Below.refl _ w1).drew | (go_split_ands; assumption)); rintro e v2 ⟨rfl, hb2'⟩)
        | (go_at_call 94; (with_reducible refine (HTB.out _ (HWB.out _ ?_)).mono ?_); (first | exact (Below.refl _ w1).drew | (go_split_ands; assumption)); rintro e v3 ⟨rfl, hb3'⟩))
    have HB3 := Lib.hid (show Below w1.heap.size w1 v3 by go_split_ands; assumption)
    have hST3 := HST1.out.call HB3.out
    have HST3 := Lib.hid hST3
    clear hb2' hb3' f0 f1 f2 f3
    have r0 := hST3.cell 2 0 rfl rfl
    have r1 := hST3.cell 2 1 rfl rfl
    have z0 := hST3.frozen 2 0 rfl
    have z1 := hST3.frozen 2 1 rfl
    have HFIN := Lib.hid ((hST3.below.setCell (p := ⟨w.heap.size + 1 + 1, 0, none⟩) (by simp only; omega) (.string ⟨#[]⟩)).setCell (p := ⟨w.heap.size + 1 + 1, 1, none⟩) (by simp only; omega) (.string ⟨#[]⟩))
    clear hST3
    go_wp2
    refine bodyPost_ret (v := .tuple #[.agg #[.string ⟨#[]⟩, .string ⟨#[]⟩], .int .i64 13]) ?_ rfl ⟨by first | rw [HV.out] | (unfold ratOf; rw [HV.out]), HFIN.out⟩
    simp [results, Tryz.results31, go_sem, r0, r1]
  · have t1 : ((n : Int) == 0) = false := by rw [beq_eq_false_iff_ne]; omega
    have t2 : (n == 0) = false := by rw [beq_eq_false_iff_ne]; omega
    have t3 : ((m : Int) == 0) = true := by rw [beq_iff_eq]; omega
    have t4 : (m == 0) = true := by rw [beq_iff_eq]; omega
    clear h9 g
    go_enter Tryz.func31, Tryz.ntmps31
    go_wp2_with fail
    rw [← hW0]
    clear hW0
    (with_reducible refine (HCK.out W0 HST0.out.below).mono ?_)
    rintro e w1 ⟨rfl, hb1⟩
    have hST1 := HST0.out.call hb1
    have HST1 := Lib.hid hST1
    have k00 := hST1.cell 0 0 rfl rfl
    have k01 := hST1.cell 0 1 rfl rfl
    have k10 := hST1.cell 1 0 rfl rfl
    have k11 := hST1.cell 1 1 rfl rfl
    have HKS := Lib.hid (show ∀ X, Below w1.heap.size w1 X → (fun X => Below w1.heap.size w1 X ∧ X.cell? ⟨w.heap.size, 0, none⟩ = some (.int .i64 b1) ∧ X.cell? ⟨w.heap.size, 1, none⟩ = some (.slice A1 a.length c1) ∧ X.cell? ⟨w.heap.size + 1, 0, none⟩ = some (.int .i64 b2) ∧ X.cell? ⟨w.heap.size + 1, 1, none⟩ = some (.slice A2 bb.length c2)) X from fun X h => ⟨h, (HST1.out.call h).cell 0 0 rfl rfl, (HST1.out.call h).cell 0 1 rfl rfl, (HST1.out.call h).cell 1 0 rfl rfl, (HST1.out.call h).cell 1 1 rfl rfl⟩)
    have HWB := Lib.hid (fun X (h : Below w1.heap.size w1 X) => (HST1.out.call h).below)
    clear hb1 hST1
    go_upto_region 4 with fail
    clear k00 k01 k10 k11
    obtain ⟨-, f0, f1, f2, f3⟩ := HKS.out w1 (Below.refl _ _)
    go_region_held3 (fun X => Below w1.heap.size w1 X ∧ X.cell? ⟨w.heap.size, 0, none⟩ = some (.int .i64 b1) ∧ X.cell? ⟨w.heap.size, 1, none⟩ = some (.slice A1 a.length c1) ∧ X.cell? ⟨w.heap.size + 1, 0, none⟩ = some (.int .i64 b2) ∧ X.cell? ⟨w.heap.size + 1, 1, none⟩ = some (.slice A2 bb.length c2))
      (first
        | exact HKS.out _ (Below.refl _ w1).drew
        | (go_split_ands; refine HKS.out _ (below_next ?_ hb2'); assumption)
        | (go_split_ands; refine HKS.out _ (below_next ?_ hb3'); assumption))
      (first
        | (go_at_call 94; (with_reducible refine (HTA.out _ (HWB.out _ ?_)).mono ?_); (first | exact (Below.refl _ w1).drew | (go_split_ands; assumption)); rintro e v2 ⟨rfl, hb2'⟩)
        | (go_at_call 94; (with_reducible refine (HTB.out _ (HWB.out _ ?_)).mono ?_); (first | exact (Below.refl _ w1).drew | (go_split_ands; assumption)); rintro e v3 ⟨rfl, hb3'⟩))
    have HB3 := Lib.hid (show Below w1.heap.size w1 v3 by go_split_ands; assumption)
    have hST3 := HST1.out.call HB3.out
    have HST3 := Lib.hid hST3
    clear hb2' hb3' f0 f1 f2 f3
    have r0 := hST3.cell 2 0 rfl rfl
    have r1 := hST3.cell 2 1 rfl rfl
    have z0 := hST3.frozen 2 0 rfl
    have z1 := hST3.frozen 2 1 rfl
    have HFIN := Lib.hid ((hST3.below.setCell (p := ⟨w.heap.size + 1 + 1, 0, none⟩) (by simp only; omega) (.string ⟨#[]⟩)).setCell (p := ⟨w.heap.size + 1 + 1, 1, none⟩) (by simp only; omega) (.string ⟨#[]⟩))
    clear hST3
    go_wp2
    refine bodyPost_ret (v := .tuple #[.agg #[.string ⟨#[]⟩, .string ⟨#[]⟩], .int .i64 13]) ?_ rfl ⟨by first | rw [HV.out] | (unfold ratOf; rw [HV.out]), HFIN.out⟩
    simp [results, Tryz.results31, go_sem, r0, r1]

set_option maxHeartbeats 8000000 in
set_option maxRecDepth 100000 in
theorem rApart_main (b1 b2 : Int) (A1 A2 : Option Addr) (c1 c2 : Nat) (a bb : List (Int × Int)) (w : World) (hr1 : Rd w 0 w.heap.size 2 A1 a.length (cells2 a)) (hr2 : Rd w 0 w.heap.size 2 A2 bb.length (cells2 bb)) (hl1 : a.length < 9223372036854775807) (hl2 : bb.length < 9223372036854775807) (hx1 : ∀ c ∈ a, c.1 ≤ 9223372036854775807) (hx2 : ∀ c ∈ bb, c.1 ≤ 9223372036854775807) (h : codeB b1 a b2 bb = 0) (h1 : a.length ≠ 0) (h2 : bb.length ≠ 0) (ht : Tab w.heap.size w) :
    Calls Tryz.prog 31 #[.agg #[.int .i64 b1, .slice A1 a.length c1], .agg #[.int .i64 b2, .slice A2 bb.length c2]] w fun e w' => e = .returned (.tuple #[ratOf (apP b1 a b2 bb), .int .i64 (apC b1 a b2 bb)]) ∧ Below w.heap.size w w' := by
  have HV := Lib.hid (show (.tuple #[ratOf (apP b1 a b2 bb), .int .i64 (apC b1 a b2 bb)] : Value) = .tuple #[ratOf (ratS (apV a bb) ((tot a).toNat * (tot bb).toNat)), .int .i64 0] by
    have e : apC b1 a b2 bb = 0 := by unfold apC; rw [if_neg (by omega), if_neg h1, if_neg h2]
    unfold apP; rw [e]; rfl)
  obtain ⟨hcA, hcB, hb12⟩ := codeB_zero h
  have hgA := codeH_zero hcA
  have hgB := codeH_zero hcB
  have HCK := Lib.hid (fun (W : World) (hb : Below w.heap.size w W) => pairFault_any b1 b2 A1 A2 c1 c2 a bb W (hr1.old hb) (hr2.old hb) hl1 hl2 hx1 hx2)
  obtain ⟨W0, hW0⟩ : ∃ W0, W0 = ((w.alloc (.cells #[.int .i64 b1, .slice A1 a.length c1] 53)).alloc (.cells #[.int .i64 b2, .slice A2 bb.length c2] 53)).alloc (.cells #[.string ⟨#[]⟩, .string ⟨#[]⟩] 31) := ⟨_, rfl⟩
  have HST0 := Lib.hid (show St w W0 [(w.heap.size, .cells #[.int .i64 b1, .slice A1 a.length c1] 53 (0, 0)), (w.heap.size + 1, .cells #[.int .i64 b2, .slice A2 bb.length c2] 53 (0, 0)), (w.heap.size + 1 + 1, .cells #[.string ⟨#[]⟩, .string ⟨#[]⟩] 31 (0, 0))] by rw [hW0]; exact (((St.start w).alloc _ _ rfl).alloc _ _ (by simp)).alloc _ _ (by simp))
  rw [h] at HCK
  have HTA := Lib.hid (fun (W : World) (hb : Below w.heap.size w W) => rtotal_any b1 A1 a.length c1 a W (hr1.old hb) (fun c hc => (hgA.2.2.2.1 c hc).2) hgA.2.2.1)
  have HTB := Lib.hid (fun (W : World) (hb : Below w.heap.size w W) => rtotal_any b2 A2 bb.length c2 bb W (hr2.old hb) (fun c hc => (hgB.2.2.2.1 c hc).2) hgB.2.2.1)
  have hpA := tot_pos (fun c hc => (hgA.2.2.2.1 c hc).2)
  have hpB := tot_pos (fun c hc => (hgB.2.2.2.1 c hc).2)
  have htA := hgA.2.2.2.2.2
  have htB := hgB.2.2.2.2.2
  obtain ⟨n, hn⟩ : ∃ n : Nat, (n : Int) = tot a := ⟨(tot a).toNat, by omega⟩
  obtain ⟨m, hm⟩ : ∃ m : Nat, (m : Int) = tot bb := ⟨(tot bb).toNat, by omega⟩
  obtain ⟨ic, hic, hiz0, hiz1, hiz2⟩ := info_parts Tryz.infoC
  obtain ⟨ba, oa, hA1, -, hba, hca⟩ := hr1.2 (by omega)
  obtain ⟨bv, ov, hA2, -, hbv, hcb⟩ := hr2.2 (by omega)
  subst hA1 hA2
  obtain ⟨L, hL⟩ : ∃ L, L = a ++ bb := ⟨_, rfl⟩
  have hLl : L.length = a.length + bb.length := by rw [hL, List.length_append]
  obtain ⟨D, hD⟩ : ∃ D, D = dAp a bb n m := ⟨_, rfl⟩
  have HAV := Lib.hid (show apV a bb = mxD D (keysB L) by
    unfold apV apM
    rw [← hn, ← hm, List.take_length, List.take_length, hL, mxD_all, hD]; rfl)
  rw [← hn, ← hm, Int.toNat_natCast, Int.toNat_natCast, HAV.out] at HV
  have HLM := Lib.hid (show ∀ c ∈ L, 0 ≤ c.1 ∧ c.1 ≤ maxB b1 from fun c hc => by
    rw [hL] at hc
    rcases List.mem_append.1 hc with g | g
    · exact (hgA.2.2.2.1 c g).1
    · have := (hgB.2.2.2.1 c g).1; rw [← hb12] at this; exact this)
  have HDX := Lib.hid (show ∀ X : Int, 0 ≤ X → X ≤ maxB b1 → ∃ x y : Nat, moB b1 (loB b1 X) a = x ∧ moB b2 (loB b2 X) bb = y ∧ x ≤ n ∧ y ≤ m ∧ D X = (x * m - y * n) + (y * n - x * m) from fun X g0 g1 => by
    have c1 := cum_bd (fun c hc => (hgA.2.2.2.1 c hc).2) X
    have c2 := cum_bd (fun c hc => (hgB.2.2.2.1 c hc).2) X
    refine ⟨(cumF a X).toNat, (cumF bb X).toNat, by rw [mo_cum hgA g0 g1]; omega, by rw [mo_cum hgB g0 (by rw [← hb12]; exact g1)]; omega, by omega, by omega, ?_⟩
    rw [hD]; rfl)
  have HML := Lib.hid (show ∀ l, mxD D l ≤ n * m from fun l => mxD_le.2 fun q _ => by rw [hD]; exact dAp_le (fun c hc => (hgA.2.2.2.1 c hc).2) (fun c hc => (hgB.2.2.2.1 c hc).2) (by omega) (by omega) q)
  have hb2 := hgA.1
  have hb8 := hgA.2.1
  have hlA := hgA.2.2.1
  have hlB := hgB.2.2.1
  have HBA := Lib.hid (fun (v : Int) (W : World) (hb : Below w.heap.size w W) => rbelow_any b1 v (some ⟨ba, oa, none⟩) c1 a W (hr1.old hb) hgA)
  have HBB := Lib.hid (fun (v : Int) (W : World) (hb : Below w.heap.size w W) => rbelow_any b2 v (some ⟨bv, ov, none⟩) c2 bb W (hr2.old hb) hgB)
  have HLO1 := Lib.hid (fun X (g0 : 0 ≤ X) (g1 : X ≤ maxB b1) (W : World) => (show Calls Tryz.prog 96 #[.int .i64 b1, .int .i64 X] W fun e w' => e = .returned (.int .i64 (loB b1 X)) ∧ W = w' by
    have h := low_any b1 X W hgA.1 hgA.2.1 (by have := maxB_bd b1 hgA.1 hgA.2.1; omega)
    rw [(lowR_pos b1 X hgA.1 hgA.2.1 g0 g1).1] at h; exact h))
  have HLO2 := Lib.hid (fun X (g0 : 0 ≤ X) (g1 : X ≤ maxB b1) (W : World) => (show Calls Tryz.prog 96 #[.int .i64 b2, .int .i64 X] W fun e w' => e = .returned (.int .i64 (loB b2 X)) ∧ W = w' by
    have h := low_any b2 X W hgB.1 hgB.2.1 (by have := maxB_bd b2 hgB.1 hgB.2.1; rw [hb12] at g1; omega)
    rw [(lowR_pos b2 X hgB.1 hgB.2.1 g0 (by rw [← hb12]; exact g1)).1] at h; exact h))
  have HTT := Lib.hid (fun W (hb : Below w.heap.size w W) => (ht.on hb).mono hb.size)
  have HCA := Lib.hid hca
  have HCB := Lib.hid hcb
  rw [← hn] at HTA hpA htA
  rw [← hm] at HTB hpB htB
  have hn1 : 1 ≤ n := by omega
  have hm1 : 1 ≤ m := by omega
  have hnm : n * m ≤ 1125899906842624 * 1125899906842624 := Nat.mul_le_mul (by omega) (by omega)
  have hnm1 : 1 ≤ n * m := Nat.mul_pos hn1 hm1
  have HOF := Lib.hid (fun (x : Nat) (hx : x ≤ 1125899906842624) W => rnatOf_any (x : Int) W (by omega))
  simp only [Int.toNat_natCast] at HOF
  have HLW := Lib.hid (fun W A1 c1 l1 A2 c2 l2 (s N : Nat) (hs : s ≤ 1125899906842624) (hN : N ≤ 1125899906842624) (hN1 : 1 ≤ N) (h1 : RNatR W A1 c1 l1 s) (h2 : RNatR W A2 c2 l2 N) => rLowest_any false A1 A2 c1 c2 l1 l2 s N W h1 h2 (by have := rnLen h1 (by omega); omega) (by have := rnLen h2 (by omega); omega) (by omega))
  have HLS := Lib.hid (fun W u v (x y : Nat) (hx : x ≤ 1125899906842624) (hy : y ≤ 1125899906842624) (hu : FracR W u (mkRat (sg false x) n)) (hv : FracR W v (mkRat (sg false y) m)) => rLess_any 100000 u v (mkRat (x : Int) n) (mkRat (y : Int) m) W (by omega) hu hv (rat_sz (by omega) (by omega) (by omega)) (rat_sz (by omega) (by omega) (by omega)))
  have HOR := Lib.hid (fun W u v (d q : Nat) (hd : d ≤ n * m) (hq : q ≤ n * m) (hu : FracR W u (mkRat (d : Int) (n * m))) (hv : FracR W v (mkRat (q : Int) (n * m))) => rOrder_any 100000 u v (mkRat (d : Int) (n * m)) (mkRat (q : Int) (n * m)) W (by omega) hu hv (rat_sz (by omega) (by omega) (by omega)) (rat_sz (by omega) (by omega) (by omega)))
  have HWH := Lib.hid (fun W => rWhole_any 0 W (by omega) (by omega))
  have HZ := Lib.hid (show ((0 : Int) : Rat) = mkRat ((mxD D (keysB (L.take 0)) : Nat) : Int) (n * m) by rw [List.take_zero]; exact (Rat.zero_mkRat _).symm)
  have HRA := Lib.hid (fun W u (s : Nat) (hs : s ≤ n * m) (hb : Below w.heap.size w W) (hu : FracR W u (mkRat (s : Int) (n * m))) => rRatio_any u (mkRat (s : Int) (n * m)) 1000 W hu (rat_mk s (n * m) (by omega)).1 (rat_sz (by omega) (by omega) (by omega)) (HTT.out W hb))
  have HCL := Lib.hid (show cells2 a ++ cells2 bb = cells2 L by rw [hL, cells2_append])
  have hA0 : 0 < a.length := by omega
  have hB0 : 0 < bb.length := by omega
  have s1 : ((n : Int) == 0) = false := by rw [beq_eq_false_iff_ne]; omega
  have s2 : (n == 0) = false := by rw [beq_eq_false_iff_ne]; omega
  have s3 : ((m : Int) == 0) = false := by rw [beq_eq_false_iff_ne]; omega
  have s4 : (m == 0) = false := by rw [beq_eq_false_iff_ne]; omega
  clear h hr1 hr2 hx1 hx2 ht hgA hgB hcA hcB hn hm h1 h2 hL hD hb12 hca hcb
  go_enter Tryz.func31, Tryz.ntmps31
  go_wp2_with fail
  rw [← hW0]
  clear hW0
  (with_reducible refine (HCK.out W0 HST0.out.below).mono ?_)
  rintro e w1 ⟨rfl, hb1⟩
  have hST1 := HST0.out.call hb1
  have HST1 := Lib.hid hST1
  have k00 := hST1.cell 0 0 rfl rfl
  have k01 := hST1.cell 0 1 rfl rfl
  have k10 := hST1.cell 1 0 rfl rfl
  have k11 := hST1.cell 1 1 rfl rfl
  have HKS := Lib.hid (show ∀ X, Below w1.heap.size w1 X → (fun X => Below w1.heap.size w1 X ∧ X.cell? ⟨w.heap.size, 0, none⟩ = some (.int .i64 b1) ∧ X.cell? ⟨w.heap.size, 1, none⟩ = some (.slice (some ⟨ba, oa, none⟩) a.length c1) ∧ X.cell? ⟨w.heap.size + 1, 0, none⟩ = some (.int .i64 b2) ∧ X.cell? ⟨w.heap.size + 1, 1, none⟩ = some (.slice (some ⟨bv, ov, none⟩) bb.length c2)) X from fun X h => ⟨h, (HST1.out.call h).cell 0 0 rfl rfl, (HST1.out.call h).cell 0 1 rfl rfl, (HST1.out.call h).cell 1 0 rfl rfl, (HST1.out.call h).cell 1 1 rfl rfl⟩)
  have HWB := Lib.hid (fun X (h : Below w1.heap.size w1 X) => (HST1.out.call h).below)
  clear hb1 hST1
  go_upto_region 4 with fail
  clear k00 k01 k10 k11
  obtain ⟨-, f0, f1, f2, f3⟩ := HKS.out w1 (Below.refl _ _)
  go_region_held3 (fun X => Below w1.heap.size w1 X ∧ X.cell? ⟨w.heap.size, 0, none⟩ = some (.int .i64 b1) ∧ X.cell? ⟨w.heap.size, 1, none⟩ = some (.slice (some ⟨ba, oa, none⟩) a.length c1) ∧ X.cell? ⟨w.heap.size + 1, 0, none⟩ = some (.int .i64 b2) ∧ X.cell? ⟨w.heap.size + 1, 1, none⟩ = some (.slice (some ⟨bv, ov, none⟩) bb.length c2))
    (first
      | exact HKS.out _ (Below.refl _ w1).drew
      | (go_split_ands; refine HKS.out _ (below_next ?_ hb2'); assumption)
      | (go_split_ands; refine HKS.out _ (below_next ?_ hb3'); assumption))
    (first
      | (go_at_call 94; (with_reducible refine (HTA.out _ (HWB.out _ ?_)).mono ?_); (first | exact (Below.refl _ w1).drew | (go_split_ands; assumption)); rintro e v2 ⟨rfl, hb2'⟩)
      | (go_at_call 94; (with_reducible refine (HTB.out _ (HWB.out _ ?_)).mono ?_); (first | exact (Below.refl _ w1).drew | (go_split_ands; assumption)); rintro e v3 ⟨rfl, hb3'⟩))
  have HB3 := Lib.hid (show Below w1.heap.size w1 v3 by go_split_ands; assumption)
  have hST3 := HST1.out.call HB3.out
  have HST3 := Lib.hid hST3
  clear hb2' hb3' f0 f1 f2 f3
  have k00 := hST3.cell 0 0 rfl rfl
  have k01 := hST3.cell 0 1 rfl rfl
  have k11 := hST3.cell 1 1 rfl rfl
  clear hST3
  go_wp2_with fail
  (with_reducible refine (HWH.out _).mono ?_)
  rintro e w4 ⟨v4, rfl, hv4, hb4⟩
  obtain ⟨A9, c9, l9, A0, c0, l0, rfl, n9, n0⟩ := hv4
  obtain ⟨s9, hs9⟩ : ∃ s, s = frS ((0 : Int) : Rat) := ⟨_, rfl⟩
  rw [← hs9]
  obtain ⟨B9, hB9⟩ : ∃ B, B = w4.heap.size := ⟨_, rfl⟩
  obtain ⟨W8, hW8⟩ : ∃ W, W = w4.alloc (.cells #[.bool s9, .slice A9 l9.length c9, .slice A0 l0.length c0] 39) := ⟨_, rfl⟩
  have hb48 : Below w4.heap.size w4 W8 := by rw [hW8]; exact (Below.refl _ _).alloc (Nat.le_refl _) _
  have HVQ := Lib.hid (show VarQ W8 B9 (mkRat ((mxD D (keysB (L.take 0)) : Nat) : Int) (n * m)) by
    rw [← HZ.out]
    exact ⟨A9, c9, l9, A0, c0, l0, by rw [hW8, hB9, ← hs9]; exact alloc_at _ _ _ rfl, n9.on hb48, n0.on hb48⟩)
  have hST4 := HST3.out.call hb4
  have hST8 := hST4.call hb48
  have HST8 := Lib.hid hST8
  have hB9w : w.heap.size + 1 + 1 < B9 := by rw [hB9]; exact hST4.lt 2 rfl
  have hB98 : B9 < W8.heap.size := by rw [hB9, hW8]; simp
  have k00 := hST8.cell 0 0 rfl rfl
  have k01 := hST8.cell 0 1 rfl rfl
  have k11 := hST8.cell 1 1 rfl rfl
  have HGO := Lib.hid hB9
  clear hb4 hb48 n9 n0 hST4 hST8 hs9
  go_upto_region 8 with fail
  rw [← hW8]
  try rw [← HGO.out]
  clear hW8 hB9
  have hba8 : ba < W8.heap.size := by have := HST8.out.below.size; omega
  have hbv8 : bv < W8.heap.size := by have := HST8.out.below.size; omega
  have HNA := Lib.hid (fun X (h : Below W8.heap.size W8 X) => news_rd (fun j u hu => ((HST8.out.call h).below.cell (p := ⟨ba, oa + j, none⟩) hba).trans (HCA.out j u hu)))
  have HNB := Lib.hid (fun X (h : Below W8.heap.size W8 X) => news_rd (fun j u hu => ((HST8.out.call h).below.cell (p := ⟨bv, ov + j, none⟩) hbv).trans (HCB.out j u hu)))
  have HONEA := Lib.hid (cells2_oneA a)
  have HONEB := Lib.hid (cells2_oneA bb)
  have HLA := Lib.hid (cells2_length a)
  have HLB := Lib.hid (cells2_length bb)
  go_cut [10] from 38 (fun v wx => ∃ g cap, v = .slice (some ⟨g, 0, none⟩) L.length cap ∧ Rd wx g (g + 1) 2 (some ⟨g, 0, none⟩) L.length (cells2 L) ∧ W8.heap.size ≤ g ∧ g < wx.heap.size ∧ Below W8.heap.size W8 wx)
  case first =>
    go_region_law (first
      | (refine step_append_lies _ (by rfl) _ _ _ (by rfl) W8.heap.size 121 ic _ 2 16 Tryz.underlying51 hic hiz0 hiz1 hiz2 rfl (by omega) (.slice none 0 0) 0 [] (by rfl) (nil_own _ _) ⟨ba, oa, none⟩ a.length c1 (cells2 a) (by rfl) HLA.out (HNA.out _ (by first | exact (Below.refl _ W8).drew | exact Below.refl _ _)) HONEA.out (by omega) (by unfold maxLen; omega) (by omega) (by first | exact Nat.le_refl _ | simp) W8.heap.size (by first | rfl | simp) ?_; intro g1 cap1 w5 hown0 hgrow1 hat1 hlt1; have hown1 := hown0; rw [Nat.zero_add, List.nil_append] at hown1; have HG1 := Lib.hid (show Below W8.heap.size W8 w5 from ((Below.refl _ W8).drew).grown hgrow1 (Nat.le_refl _) (fun j hj => by first | (exact absurd hj (by simp [Value.ownBlock])) | (simp [Value.ownBlock] at hj))); have s11 : w5.cell? ⟨w.heap.size + 1, 1, none⟩ = some (.slice (some ⟨bv, ov, none⟩) bb.length c2) := (HST8.out.call HG1.out).cell 1 1 rfl rfl)
      | (refine step_append_lies _ (by rfl) _ _ _ (by rfl) W8.heap.size 121 ic _ 2 16 Tryz.underlying51 hic hiz0 hiz1 hiz2 rfl (by omega) (.slice (some ⟨g1, 0, none⟩) a.length cap1) _ _ (by rfl) hown1 ⟨bv, ov, none⟩ bb.length c2 (cells2 bb) (by rfl) HLB.out (HNB.out _ HG1.out) HONEB.out (by omega) (by unfold maxLen; omega) (by omega) (by exact HG1.out.size) w5.heap.size (by rfl) ?_; intro g2 cap2 w6 hown2 hgrow2 hat2 hlt2))
    all_goals go_wp2_with fail
    all_goals go_meet
    all_goals
      have hgrow2' := hgrow2
      have hown2' : w6.ownsRow W8.heap.size 121 2 (.slice (some ⟨g2, 0, none⟩) L.length cap2) L.length (cells2 L) := by
        rw [← HCL.out, hLl]
        exact hown2
      have hbl := HG1.out.grown hgrow2 HG1.out.size (by intro j hj; exact (ownsRow_block hown1 hj.symm).1)
      exact ⟨g2, cap2, by rw [hLl], rd_row hown2', (ownsRow_block hown2' rfl).1, hlt2, hbl⟩
  case rest =>
    obtain ⟨g, cap, rfl, hrd, hgW, hgc, hbc⟩ := hcut
    have HRD := Lib.hid hrd
    have hBne : g ≠ B9 := by omega
    have HSTc := Lib.hid (HST8.out.call hbc)
    have HVQc := Lib.hid (HVQ.out.on hbc)
    have hBc : B9 < wc.heap.size := by have := hbc.size; omega
    have hLl1 : L.length ≤ a.length + bb.length := by omega
    clear hrd hbc k00 k01 k11 hLl
    go_wp2_with fail
    go_loopw [11, 12, 13, 14, 15, 16] (fun iv _ _ _ _ _ wr => ∃ k : Nat, k ≤ L.length ∧ iv = .int .i64 k ∧ VarQ wr B9 (mkRat ((mxD D (keysB (L.take k)) : Nat) : Int) (n * m)) ∧ Rd wr g (g + 1) 2 (some ⟨g, 0, none⟩) L.length (cells2 L) ∧ g < wr.heap.size ∧ St w wr [(w.heap.size, .cells #[.int .i64 b1, .slice (some ⟨ba, oa, none⟩) a.length c1] 53 (0, 0)), (w.heap.size + 1, .cells #[.int .i64 b2, .slice (some ⟨bv, ov, none⟩) bb.length c2] 53 (0, 0)), (w.heap.size + 1 + 1, .cells #[.string ⟨#[]⟩, .string ⟨#[]⟩] 31 (0, 0))]) (fun iv _ _ _ _ _ _ => L.length - (intOf iv).toNat)
    case atStart => exact ⟨0, Nat.zero_le _, rfl, HVQc.out, HRD.out, hgc, HSTc.out⟩
    case round =>
      obtain ⟨k, hk, rfl, hvq, hrd, hgr, hst⟩ := hrel
      have HST := Lib.hid hst
      have HVR := Lib.hid hvq
      have HRR := Lib.hid hrd
      have hBr : B9 < wr.heap.size := by obtain ⟨_, _, _, _, _, _, e, _, _⟩ := hvq; exact heap_lt e
      by_cases hlt : k < L.length
      · obtain ⟨bk, o, X, M, hA, _, _, hx, x0, _⟩ := hrd.at2 hlt
        simp only [Option.some.injEq, Addr.mk.injEq, and_true] at hA
        obtain ⟨rfl, rfl⟩ := hA
        rw [Nat.zero_add] at x0
        have HX := Lib.hid hx
        have hXm := HLM.out (X, M) (List.mem_of_getElem? hx)
        simp only at hXm
        obtain ⟨x, y, hmx, hmy, hxn, hym, hDX⟩ := HDX.out X hXm.1 hXm.2
        have HLA1 := Lib.hid (HLO1.out X hXm.1 hXm.2)
        have HLB1 := Lib.hid (HLO2.out X hXm.1 hXm.2)
        have HBA1 := Lib.hid (HBA.out (loB b1 X))
        have HBB1 := Lib.hid (HBB.out (loB b2 X))
        rw [hmx] at HBA1
        rw [hmy] at HBB1
        obtain ⟨lox, hlox⟩ : ∃ z, z = loB b1 X := ⟨_, rfl⟩
        obtain ⟨loy, hloy⟩ : ∃ z, z = loB b2 X := ⟨_, rfl⟩
        rw [← hlox] at HLA1 HBA1
        rw [← hloy] at HLB1 HBB1
        obtain ⟨lea, hlea⟩ : ∃ z, z = leB b1 lox a := ⟨_, rfl⟩
        obtain ⟨leb, hleb⟩ : ∃ z, z = leB b2 loy bb := ⟨_, rfl⟩
        rw [← hlea] at HBA1
        rw [← hleb] at HBB1
        have HDD := Lib.hid hDX
        have hki : (k : Int) < (L.length : Int) := by omega
        have HX0 := Lib.hid x0
        have k00 := hst.cell 0 0 rfl rfl
        have k01 := hst.cell 0 1 rfl rfl
        have k10 := hst.cell 1 0 rfl rfl
        have k11 := hst.cell 1 1 rfl rfl
        clear hx hst hvq hrd hmx hmy hDX hlox hloy hlea hleb x0
        have HB0 := Lib.hid (Below.refl wr.heap.size wr)
        have HKS6 := Lib.hid (show ∀ Y, Below wr.heap.size wr Y → (fun Y => Below wr.heap.size wr Y ∧ Y.cell? ⟨w.heap.size, 0, none⟩ = some (.int .i64 b1) ∧ Y.cell? ⟨w.heap.size, 1, none⟩ = some (.slice (some ⟨ba, oa, none⟩) a.length c1) ∧ Y.cell? ⟨g, k * 2, none⟩ = some (.int .i64 X)) Y from fun Y h => ⟨h, (HST.out.call (below_next HB0.out h)).cell 0 0 rfl rfl, (HST.out.call (below_next HB0.out h)).cell 0 1 rfl rfl, ((below_next HB0.out h).cell (p := ⟨g, k * 2, none⟩) hgr).trans HX0.out⟩)
        have HWB6 := Lib.hid (fun Y (h : Below wr.heap.size wr Y) => (HST.out.call (below_next HB0.out h)).below)
        go_upto_region 12 with fail
        clear k00 k01 k10 k11
        obtain ⟨-, f0, f1, f2⟩ := HKS6.out wr (Below.refl _ _)
        go_region_held3 (fun Y => Below wr.heap.size wr Y ∧ Y.cell? ⟨w.heap.size, 0, none⟩ = some (.int .i64 b1) ∧ Y.cell? ⟨w.heap.size, 1, none⟩ = some (.slice (some ⟨ba, oa, none⟩) a.length c1) ∧ Y.cell? ⟨g, k * 2, none⟩ = some (.int .i64 X))
          (first
            | exact HKS6.out _ (Below.refl _ wr).drew
            | (go_split_ands; refine HKS6.out _ (below_next ?_ hb62); assumption))
          (first
            | (go_at_call 96; (with_reducible refine (HLA1.out _).mono ?_); rintro e v61 ⟨rfl, rfl⟩)
            | (go_at_call 95; (with_reducible refine (HBA1.out _ (HWB6.out _ ?_)).mono ?_); (first | exact (Below.refl _ wr).drew | (go_split_ands; assumption)); rintro e v62 ⟨rfl, hb62⟩))
        have HB6 := Lib.hid (below_next HB0.out (show Below wr.heap.size wr v62 by go_split_ands; assumption))
        clear hb62 f0 f1 f2
        have HKS7 := Lib.hid (show ∀ Y, Below v62.heap.size v62 Y → (fun Y => Below v62.heap.size v62 Y ∧ Y.cell? ⟨w.heap.size + 1, 0, none⟩ = some (.int .i64 b2) ∧ Y.cell? ⟨w.heap.size + 1, 1, none⟩ = some (.slice (some ⟨bv, ov, none⟩) bb.length c2) ∧ Y.cell? ⟨g, k * 2, none⟩ = some (.int .i64 X)) Y from fun Y h => ⟨h, (HST.out.call (below_next HB6.out h)).cell 1 0 rfl rfl, (HST.out.call (below_next HB6.out h)).cell 1 1 rfl rfl, ((below_next HB6.out h).cell (p := ⟨g, k * 2, none⟩) hgr).trans HX0.out⟩)
        have HWB7 := Lib.hid (fun Y (h : Below v62.heap.size v62 Y) => (HST.out.call (below_next HB6.out h)).below)
        go_upto_region 13 with fail
        obtain ⟨-, f0, f1, f2⟩ := HKS7.out v62 (Below.refl _ _)
        go_region_held3 (fun Y => Below v62.heap.size v62 Y ∧ Y.cell? ⟨w.heap.size + 1, 0, none⟩ = some (.int .i64 b2) ∧ Y.cell? ⟨w.heap.size + 1, 1, none⟩ = some (.slice (some ⟨bv, ov, none⟩) bb.length c2) ∧ Y.cell? ⟨g, k * 2, none⟩ = some (.int .i64 X))
          (first
            | exact HKS7.out _ (Below.refl _ v62).drew
            | (go_split_ands; refine HKS7.out _ (below_next ?_ hb72); assumption))
          (first
            | (go_at_call 96; (with_reducible refine (HLB1.out _).mono ?_); rintro e v71 ⟨rfl, rfl⟩)
            | (go_at_call 95; (with_reducible refine (HBB1.out _ (HWB7.out _ ?_)).mono ?_); (first | exact (Below.refl _ v62).drew | (go_split_ands; assumption)); rintro e v72 ⟨rfl, hb72⟩))
        have HB7 := Lib.hid (below_next HB6.out (show Below v62.heap.size v62 v72 by go_split_ands; assumption))
        clear hb72 f0 f1 f2
        go_wp2_with fail
        (with_reducible refine (HOF.out x (by omega) _).mono ?_)
        rintro e u1 ⟨P1, d1, p1, rfl, j1, hb1⟩
        have HU1 := Lib.hid (below_next HB7.out hb1)
        have J1 := Lib.hid j1
        clear j1 hb1
        go_wp2_with fail
        (with_reducible refine (HOF.out n (by omega) _).mono ?_)
        rintro e u2 ⟨P2, d2, p2, rfl, j2, hb2'⟩
        have HU2 := Lib.hid (below_next HU1.out hb2')
        have HQ1 := Lib.hid (HLW.out u2 P1 d1 p1 P2 d2 p2 x n (by omega) (by omega) (by omega) (J1.out.on hb2') j2)
        clear j2 hb2'
        go_wp2_with fail
        (with_reducible refine (HQ1.out).mono ?_)
        rintro e u3 ⟨q3, rfl, hq3, hb3⟩
        have HU3 := Lib.hid (below_next HU2.out hb3)
        have Q3 := Lib.hid hq3
        clear hq3 hb3
        go_wp2_with fail
        (with_reducible refine (HOF.out y (by omega) _).mono ?_)
        rintro e u4 ⟨P4, d4, p4, rfl, j4, hb4⟩
        have HU4 := Lib.hid (below_next HU3.out hb4)
        have HU34 := Lib.hid hb4
        have J4 := Lib.hid j4
        clear j4 hb4
        go_wp2_with fail
        (with_reducible refine (HOF.out m (by omega) _).mono ?_)
        rintro e u5 ⟨P5, d5, p5, rfl, j5, hb5⟩
        have HU5 := Lib.hid (below_next HU4.out hb5)
        have HU35 := Lib.hid (below_next HU34.out hb5)
        have HQ2 := Lib.hid (HLW.out u5 P4 d4 p4 P5 d5 p5 y m (by omega) (by omega) (by omega) (J4.out.on hb5) j5)
        clear j5 hb5
        go_wp2_with fail
        (with_reducible refine (HQ2.out).mono ?_)
        rintro e u6 ⟨q6, rfl, hq6, hb6⟩
        have HU6 := Lib.hid (below_next HU5.out hb6)
        have HLS1 := Lib.hid (HLS.out u6 q3 q6 x y (by omega) (by omega) (Q3.out.on (below_next HU35.out hb6)) hq6)
        clear hq6 hb6
        go_wp2_with fail
        (with_reducible refine (HLS1.out).mono ?_)
        rintro e u7 ⟨q7, rfl, hq7, hb7⟩
        have HU7 := Lib.hid (below_next HU6.out hb7)
        obtain ⟨P7, d7, p7, P8, d8, p8, rfl, j7, j8⟩ := hq7
        have HFA := Lib.hid (fracR_abs (s := false) j7 j8)
        have J7 := Lib.hid (And.intro j7 j8)
        rw [abs_diff (by omega) (by omega), ← HDD.out] at HFA
        obtain ⟨sgn, hsgn⟩ : ∃ s, s = frS (mkRat (x : Int) n - mkRat (y : Int) m) := ⟨_, rfl⟩
        rw [← hsgn]
        obtain ⟨A9', c9', l9', A0', c0', l0', e9, n9', n0'⟩ := HVR.out
        have e9' := (HU7.out.block B9 (heap_lt e9)).trans e9
        have hmf := (rat_mk (mxD D (keysB (L.take k))) (n * m) (by omega)).1
        rw [hmf] at e9'
        obtain ⟨XD, hXD⟩ : ∃ W, W = u7.alloc (.cells #[.bool false, .slice P7 p7.length d7, .slice P8 p8.length d8] 39) := ⟨_, rfl⟩
        have hbX : Below u7.heap.size u7 XD := by rw [hXD]; exact (Below.refl _ _).alloc (Nat.le_refl _) _
        have HSX := Lib.hid (show St u7 XD [(u7.heap.size, .cells #[.bool false, .slice P7 p7.length d7, .slice P8 p8.length d8] 39 (0, 0))] by rw [hXD]; exact (St.start u7).alloc _ _ rfl)
        have HUX := Lib.hid (below_next HU7.out hbX)
        have g9 : XD.cell? ⟨B9, 0, none⟩ = some (.bool false) := by rw [cellsAt ((hbX.block B9 (heap_lt e9')).trans e9')]; rfl
        have g10 : XD.cell? ⟨B9, 1, none⟩ = some (.slice A9' l9'.length c9') := by rw [cellsAt ((hbX.block B9 (heap_lt e9')).trans e9')]; rfl
        have g11 : XD.cell? ⟨B9, 2, none⟩ = some (.slice A0' l0'.length c0') := by rw [cellsAt ((hbX.block B9 (heap_lt e9')).trans e9')]; rfl
        have d0 := HSX.out.cell 0 0 rfl rfl
        have d1' := HSX.out.cell 0 1 rfl rfl
        have d2' := HSX.out.cell 0 2 rfl rfl
        have HMQ := Lib.hid (show FracR XD (.agg #[.bool false, .slice A9' l9'.length c9', .slice A0' l0'.length c0']) (mkRat ((mxD D (keysB (L.take k)) : Nat) : Int) (n * m)) from ⟨A9', c9', l9', A0', c0', l0', by rw [hmf], n9'.on HUX.out, n0'.on HUX.out⟩)
        have hDle : D X ≤ n * m := by have := mxD_le.1 (HML.out [X]) X (by simp); exact this
        have HO1 := Lib.hid (HOR.out XD _ _ (D X) (mxD D (keysB (L.take k))) hDle (HML.out _) (HFA.out.on hbX) HMQ.out)
        have td := ord_gt (D := D X) (M := mxD D (keysB (L.take k))) (N := n * m) (by omega)
        obtain ⟨oz, hoz⟩ : ∃ z, z = ordQ (mkRat ((D X : Nat) : Int) (n * m)) (mkRat ((mxD D (keysB (L.take k)) : Nat) : Int) (n * m)) := ⟨_, rfl⟩
        rw [← hoz] at HO1 td
        have HNX := Lib.hid (mxD_next (D := D) HX.out)
        have hE9 := Lib.hid e9'
        clear j7 j8 hb7 hsgn e9 e9' n9' n0' hmf hbX hoz
        go_upto_region 16 with fail
        rw [← hXD]
        clear hXD
        go_wp2_with fail
        (with_reducible refine HO1.out.mono ?_)
        rintro e u8 ⟨rfl, hb8'⟩
        have HU8 := Lib.hid (below_next HUX.out hb8')
        have HX8 := Lib.hid (HSX.out.call hb8')
        have HST9 := Lib.hid (HST.out.call HU8.out)
        have HRR9 := Lib.hid (HRR.out.below HU8.out (by omega))
        have hgr9 : g < u8.heap.size := by have := HU8.out.size; omega
        clear g9 g10 g11 d0 d1' d2' hb8'
        by_cases hbest : mxD D (keysB (L.take k)) < D X
        · rw [decide_eq_true hbest] at td
          have hX9 : u8.heap[B9]? = some (.cells #[.bool false, .slice A9' l9'.length c9', .slice A0' l0'.length c0'] 39 (0, 0)) := ((HX8.out.below).block B9 (heap_lt hE9.out)).trans hE9.out
          have e1 : D X = mxD D (keysB (L.take (k + 1))) := by rw [HNX.out, Nat.max_eq_right (by omega)]
          obtain ⟨m1, m2, m3⟩ := abs_parts (mkRat (x : Int) n - mkRat (y : Int) m)
          rw [abs_diff (by omega) (by omega), ← HDD.out, e1] at m1 m2 m3
          have hnn : ∀ z, (Value.bool false) ≠ .int .i64 z ∧ (Value.slice A9' l9'.length c9') ≠ .int .i64 z ∧ (Value.slice A0' l0'.length c0') ≠ .int .i64 z := fun z => ⟨by simp, by simp, by simp⟩
          have HVN := Lib.hid (varq_set (q := mkRat ((mxD D (keysB (L.take (k + 1))) : Nat) : Int) (n * m)) hX9 hnn (by rw [m2]; exact J7.out.1.on HX8.out.below) (by rw [m3]; exact J7.out.2.on HX8.out.below))
          rw [m1] at HVN
          have hf := fr3 (w := u8) (B := B9) (.bool false) (.slice P7 p7.length d7) (.slice P8 p8.length d8)
          have HSN := Lib.hid (HST9.out.fr hf (fun i b o hi e => by
            rcases i with _ | _ | _ | i
            · simp at hi; omega
            · simp at hi; omega
            · simp at hi; omega
            · simp at hi) (fun i e => by omega))
          have HRN := Lib.hid (HRR9.out.fr hf (by omega) (fun i h1 h2 e => by omega))
          have hgz : g < (((u8.setCell ⟨B9, 0, none⟩ (.bool false)).setCell ⟨B9, 1, none⟩ (.slice P7 p7.length d7)).setCell ⟨B9, 2, none⟩ (.slice P8 p8.length d8)).heap.size := by have := hf.size; omega
          have g0 : u8.cell? ⟨B9, 0, none⟩ = some (.bool false) := by rw [cellsAt hX9]; rfl
          have g1 : u8.cell? ⟨B9, 1, none⟩ = some (.slice A9' l9'.length c9') := by rw [cellsAt hX9]; rfl
          have g2 : u8.cell? ⟨B9, 2, none⟩ = some (.slice A0' l0'.length c0') := by rw [cellsAt hX9]; rfl
          have z0 : u8.frozen? ⟨B9, 0, none⟩ = false := frozenAt hX9 0
          have z1 : u8.frozen? ⟨B9, 1, none⟩ = false := frozenAt hX9 1
          have z2 : u8.frozen? ⟨B9, 2, none⟩ = false := frozenAt hX9 2
          have d0 := HX8.out.cell 0 0 rfl rfl
          have d1' := HX8.out.cell 0 1 rfl rfl
          have d2' := HX8.out.cell 0 2 rfl rfl
          clear hX9 e1 m1 m2 m3 hnn hf hbest
          go_wp2
          go_roundw
          case rel => first | exact ⟨k + 1, by omega, by go_num, HVN.out, HRN.out, hgz, HSN.out⟩ | ((repeat apply Exists.intro); exact ⟨⟨k + 1, by omega, by go_num, HVN.out, HRN.out, hgz, HSN.out⟩, rfl⟩)
          case measure => first | omega | (simp [intOf]; omega)
        · rw [decide_eq_false hbest] at td
          have HVN := Lib.hid (show VarQ u8 B9 (mkRat ((mxD D (keysB (L.take (k + 1))) : Nat) : Int) (n * m)) by rw [HNX.out, Nat.max_eq_left (by omega)]; exact HVR.out.on HU8.out)
          clear hbest
          go_wp2
          go_roundw
          case rel => first | exact ⟨k + 1, by omega, by go_num, HVN.out, HRR9.out, hgr9, HST9.out⟩ | ((repeat apply Exists.intro); exact ⟨⟨k + 1, by omega, by go_num, HVN.out, HRR9.out, hgr9, HST9.out⟩, rfl⟩)
          case measure => first | omega | (simp [intOf]; omega)
      · have hfin : L.take k = L := List.take_of_length_le (by omega)
        rw [hfin] at HVR
        obtain ⟨best, hbest⟩ : ∃ z, z = mxD D (keysB L) := ⟨_, rfl⟩
        have hble : best ≤ n * m := by rw [hbest]; exact HML.out _
        rw [← hbest] at HVR HV
        obtain ⟨A9', c9', l9', A0', c0', l0', e9, n9', n0'⟩ := HVR.out
        have g9 : wr.cell? ⟨B9, 0, none⟩ = some (.bool (frS (mkRat (best : Int) (n * m)))) := by rw [cellsAt e9]; rfl
        have g10 : wr.cell? ⟨B9, 1, none⟩ = some (.slice A9' l9'.length c9') := by rw [cellsAt e9]; rfl
        have g11 : wr.cell? ⟨B9, 2, none⟩ = some (.slice A0' l0'.length c0') := by rw [cellsAt e9]; rfl
        have HR1 := Lib.hid (HRA.out wr _ best hble hst.below ⟨A9', c9', l9', A0', c0', l0', rfl, n9', n0'⟩)
        rw [(rat_mk best (n * m) (by omega)).2] at HR1
        obtain ⟨sgn, hsgn⟩ : ∃ s, s = frS (mkRat (best : Int) (n * m)) := ⟨_, rfl⟩
        rw [← hsgn] at HR1 g9
        obtain ⟨p1, hp1⟩ : ∃ s : ByteArray, s = ⟨(ratS best (n * m)).1.toArray⟩ := ⟨_, rfl⟩
        obtain ⟨p2, hp2⟩ : ∃ s : ByteArray, s = ⟨(ratS best (n * m)).2.toArray⟩ := ⟨_, rfl⟩
        unfold ratOf at HV HR1
        rw [← hp1, ← hp2] at HV HR1
        clear hst hvq hrd hfin hbest e9 n9' n0' hsgn hp1 hp2
        go_wp2_with fail
        (with_reducible refine HR1.out.mono ?_)
        rintro e u1 ⟨⟨bo, rfl⟩, hb1⟩
        have hST9 := HST.out.call hb1
        have hlt2 : w.heap.size + 1 + 1 < u1.heap.size := hST9.lt 2 rfl
        have r0 := hST9.cell 2 0 rfl rfl
        have r1 := hST9.cell 2 1 rfl rfl
        have z0 := hST9.frozen 2 0 rfl
        have z1 := hST9.frozen 2 1 rfl
        have HFIN := Lib.hid (((hST9.below.setCell (p := ⟨w.heap.size + 1 + 1, 0, none⟩) (by simp only; omega) (.string p1)).setCell (p := ⟨w.heap.size + 1 + 1, 1, none⟩) (by simp only; omega) (.string p2)).alloc (by have := hST9.below.size; simp; omega) (.cells #[.string p1, .string p2] 31))
        clear hb1 hST9 g9 g10 g11
        go_wp2
        refine bodyPost_ret (v := .tuple #[.agg #[.string p1, .string p2], .int .i64 0]) ?_ rfl ⟨by first | rw [HV.out] | (unfold ratOf; rw [HV.out]), HFIN.out⟩
        simp [results, Tryz.results31, go_sem, r0, r1, hlt2]

theorem rApart_any (b1 b2 : Int) (A1 A2 : Option Addr) (c1 c2 : Nat) (a bb : List (Int × Int)) (w : World) (hr1 : Rd w 0 w.heap.size 2 A1 a.length (cells2 a)) (hr2 : Rd w 0 w.heap.size 2 A2 bb.length (cells2 bb)) (hl1 : a.length < 9223372036854775807) (hl2 : bb.length < 9223372036854775807) (hx1 : ∀ c ∈ a, c.1 ≤ 9223372036854775807) (hx2 : ∀ c ∈ bb, c.1 ≤ 9223372036854775807) (ht : Tab w.heap.size w) :
    Calls Tryz.prog 31 #[.agg #[.int .i64 b1, .slice A1 a.length c1], .agg #[.int .i64 b2, .slice A2 bb.length c2]] w fun e w' => e = .returned (.tuple #[ratOf (apP b1 a b2 bb), .int .i64 (apC b1 a b2 bb)]) ∧ Below w.heap.size w w' := by
  by_cases h : codeB b1 a b2 bb = 0
  · by_cases h1 : a.length = 0
    · exact rApart_empty b1 b2 A1 A2 c1 c2 a bb w hr1 hr2 hl1 hl2 hx1 hx2 h (.inl h1)
    · by_cases h2 : bb.length = 0
      · exact rApart_empty b1 b2 A1 A2 c1 c2 a bb w hr1 hr2 hl1 hl2 hx1 hx2 h (.inr h2)
      · exact rApart_main b1 b2 A1 A2 c1 c2 a bb w hr1 hr2 hl1 hl2 hx1 hx2 h h1 h2 ht
  · exact rApart_bad b1 b2 A1 A2 c1 c2 a bb w hr1 hr2 hl1 hl2 hx1 hx2 h
end Go.Proofs.YtepfmoaihhonlaaGreatDoor
