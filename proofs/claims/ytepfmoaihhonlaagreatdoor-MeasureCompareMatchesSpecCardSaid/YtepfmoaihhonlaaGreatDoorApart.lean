/- Package measure: Apart. Printed by gen_apart.py. -/
import Derived.Test.YtepfmoaihhonlaaGreatDoorG8
import Derived.Test.YtepfmoaihhonlaaGreatDoorG21
import Derived.Test.YtepfmoaihhonlaaGreatDoorMean
import Derived.Test.YtepfmoaihhonlaaGreatDoorRQnt
namespace Go.Proofs.YtepfmoaihhonlaaGreatDoor
open Go Go.RowKit Go.Proofs

def apC (b1 : Int) (a : List (Int × Int)) (b2 : Int) (bb : List (Int × Int)) : Int := if codeB b1 a b2 bb ≠ 0 then codeB b1 a b2 bb else if a.length = 0 then 13 else if bb.length = 0 then 13 else 0
def apP (b1 : Int) (a : List (Int × Int)) (b2 : Int) (bb : List (Int × Int)) : List UInt8 × List UInt8 := if apC b1 a b2 bb = 0 then ratS (apV a bb) ((tot a).toNat * (tot bb).toNat) else ([], [])
theorem codeB_zero {b1 b2 : Int} {a bb : List (Int × Int)} (h : codeB b1 a b2 bb = 0) : codeH b1 a = 0 ∧ codeH b2 bb = 0 ∧ b1 = b2 := by
  unfold codeB at h
  by_cases h1 : codeH b1 a = 0
  · rw [if_neg (by omega)] at h
    by_cases h2 : codeH b2 bb = 0
    · rw [if_neg (by omega)] at h
      by_cases h3 : b1 = b2
      · exact ⟨h1, h2, h3⟩
      · rw [if_neg h3] at h; omega
    · rw [if_pos h2] at h; exact absurd h h2
  · rw [if_pos h1] at h; exact absurd h h1
theorem cmp_lt0 {x y : Nat} : decide (cmpN x y < 0) = decide (x < y) := by
  unfold cmpN
  congr 1
  rw [eq_iff_iff]
  repeat' split
  all_goals omega
theorem cmp_gt0 {x y : Nat} : decide (0 < cmpN x y) = decide (y < x) := by
  unfold cmpN
  congr 1
  rw [eq_iff_iff]
  repeat' split
  all_goals omega
theorem natCmpM_any (A1 A2 : Option Addr) (c1 c2 : Nat) (l1 l2 : List Nat) (x y : Nat) (w : World) (h1 : NatR w A1 c1 l1 x) (h2 : NatR w A2 c2 l2 y) (hs : l1.length ≤ 1000000) (hs2 : l2.length ≤ 1000000) :
    Calls Tryz.prog 91 #[.slice A1 l1.length c1, .slice A2 l2.length c2] w fun e w' => e = .returned (.int .i64 (cmpN x y)) ∧ Below w.heap.size w w' :=
  (natCmp_any A1 A2 c1 c2 l1 l2 x y w h1 h2 hs hs2).mono fun e w' ⟨he, q, hq⟩ => ⟨he, by rw [hq]; exact below_drewN (Below.refl _ w) q⟩
/-- what a round does to both places -/
def ApCut (a bb : List (Int × Int)) (n m i k i' k' : Nat) (x' y' : Nat) : Prop :=
  i' ≤ a.length ∧ k' ≤ bb.length ∧ (a.length - i') + (bb.length - k') < (a.length - i) + (bb.length - k) ∧ (x' : Int) = tot (a.take i') ∧ (y' : Int) = tot (bb.take k') ∧ ApInv a bb i' k' ∧
  apM a bb n m i' k' = max (apM a bb n m i k) ((x' * m - y' * n) + (y' * n - x' * m))
theorem dAp_at {a bb : List (Int × Int)} {n m : Nat} {X : Int} {x y : Nat} (h1 : cumF a X = x) (h2 : cumF bb X = y) : dAp a bb n m X = (x * m - y * n) + (y * n - x * m) := by
  unfold dAp; rw [h1, h2]; rfl
theorem apcut1 {a bb : List (Int × Int)} {n m i k : Nat} (ha : a.Pairwise (fun a b => a.1 < b.1)) {X M : Int} (hx : a[i]? = some (X, M)) (hI : ApInv a bb i k) (hb : ∀ d ∈ bb.drop k, X < d.1) (hk : k ≤ bb.length) {x' y : Nat} (e1 : (x' : Int) = tot (a.take (i + 1))) (e2 : (y : Int) = tot (bb.take k)) : ApCut a bb n m i k (i + 1) k x' y := by
  obtain ⟨h1, h2, h3⟩ := ap_step1 ha hx hI hb
  have hi := (List.getElem?_eq_some_iff.1 hx).1
  exact ⟨by omega, hk, by omega, e1, e2, h1, by rw [apM_step1 hx, dAp_at (h2.trans e1.symm) (h3.trans e2.symm)]⟩
theorem apcut2 {a bb : List (Int × Int)} {n m i k : Nat} (hb : bb.Pairwise (fun a b => a.1 < b.1)) {X M : Int} (hx : bb[k]? = some (X, M)) (hI : ApInv a bb i k) (ha : ∀ d ∈ a.drop i, X < d.1) (hi : i ≤ a.length) {x y' : Nat} (e1 : (x : Int) = tot (a.take i)) (e2 : (y' : Int) = tot (bb.take (k + 1))) : ApCut a bb n m i k i (k + 1) x y' := by
  obtain ⟨h1, h2, h3⟩ := ap_step1 hb hx hI.swap ha
  have hk := (List.getElem?_eq_some_iff.1 hx).1
  exact ⟨hi, by omega, by omega, e1, e2, h1.swap, by rw [apM_step2 hx, dAp_at (h3.trans e1.symm) (h2.trans e2.symm)]⟩
theorem apcut3 {a bb : List (Int × Int)} {n m i k : Nat} (ha : a.Pairwise (fun a b => a.1 < b.1)) (hb : bb.Pairwise (fun a b => a.1 < b.1)) {X M K : Int} (hx : a[i]? = some (X, M)) (hy : bb[k]? = some (X, K)) (hI : ApInv a bb i k) {x' y' : Nat} (e1 : (x' : Int) = tot (a.take (i + 1))) (e2 : (y' : Int) = tot (bb.take (k + 1))) : ApCut a bb n m i k (i + 1) (k + 1) x' y' := by
  obtain ⟨h1, h2, h3⟩ := ap_step3 ha hb hx hy hI
  have hi := (List.getElem?_eq_some_iff.1 hx).1
  have hk := (List.getElem?_eq_some_iff.1 hy).1
  exact ⟨by omega, by omega, by omega, e1, e2, h1, by rw [apM_step1 hx, apM_step2 hy, dAp_at (h2.trans e1.symm) (h3.trans e2.symm)]; omega⟩
theorem tot_in {cs : List (Int × Int)} (h : ∀ c ∈ cs, 1 ≤ c.2 ∧ c.2 ≤ 1125899906842624) (j : Nat) : 0 ≤ tot (cs.take j) ∧ tot (cs.take j) ≤ tot cs := by
  have h3 : tot cs = tot (cs.take j) + tot (cs.drop j) := by
    conv => lhs; rw [← List.take_append_drop j cs]
    unfold tot; rw [List.map_append, List.sum_append]
  have h1 := (tot_bd (cs.take j) (fun c hc => h c (List.mem_of_mem_take hc))).1
  have h2 := (tot_bd (cs.drop j) (fun c hc => h c (List.mem_of_mem_drop hc))).1
  omega
theorem head_lt {cs : List (Int × Int)} (hs : cs.Pairwise (fun a b => a.1 < b.1)) {k : Nat} {Y M : Int} (hy : cs[k]? = some (Y, M)) {X : Int} (h : X < Y) : ∀ d ∈ cs.drop k, X < d.1 := by
  intro d hd
  rw [drop_at2 hy] at hd
  rcases List.mem_cons.1 hd with rfl | hd'
  · exact h
  · have hs' : (cs.drop k).Pairwise (fun a b : Int × Int => a.1 < b.1) := hs.sublist (List.drop_sublist k cs)
    rw [drop_at2 hy, List.pairwise_cons] at hs'
    have := hs'.1 d hd'
    simp only at this; omega

set_option maxHeartbeats 8000000 in
set_option maxRecDepth 100000 in
theorem mApart_bad (b1 b2 : Int) (A1 A2 : Option Addr) (c1 c2 : Nat) (a bb : List (Int × Int)) (w : World) (hr1 : Rd w 0 w.heap.size 2 A1 a.length (cells2 a)) (hr2 : Rd w 0 w.heap.size 2 A2 bb.length (cells2 bb)) (hl1 : a.length < 9223372036854775807) (hl2 : bb.length < 9223372036854775807) (h : codeB b1 a b2 bb ≠ 0) :
    Calls Tryz.prog 30 #[.agg #[.int .i64 b1, .slice A1 a.length c1], .agg #[.int .i64 b2, .slice A2 bb.length c2]] w fun e w' => e = .returned (.tuple #[ratOf (apP b1 a b2 bb), .int .i64 (apC b1 a b2 bb)]) ∧ Below w.heap.size w w' := by
  have HV := Lib.hid (show (.tuple #[ratOf (apP b1 a b2 bb), .int .i64 (apC b1 a b2 bb)] : Value) = .tuple #[.agg #[.string ⟨#[]⟩, .string ⟨#[]⟩], .int .i64 (codeB b1 a b2 bb)] by
    have e : apC b1 a b2 bb = codeB b1 a b2 bb := by unfold apC; rw [if_pos h]
    unfold apP ratOf; rw [e, if_neg h])
  have HCK := Lib.hid (fun (W : World) (hb : Below w.heap.size w W) => checkBoth_any b1 b2 A1 A2 c1 c2 a bb W (hr1.old hb) (hr2.old hb) hl1 hl2)
  obtain ⟨W0, hW0⟩ : ∃ W0, W0 = ((w.alloc (.cells #[.int .i64 b1, .slice A1 a.length c1] 53)).alloc (.cells #[.int .i64 b2, .slice A2 bb.length c2] 53)).alloc (.cells #[.string ⟨#[]⟩, .string ⟨#[]⟩] 31) := ⟨_, rfl⟩
  have HST0 := Lib.hid (show St w W0 [(w.heap.size, .cells #[.int .i64 b1, .slice A1 a.length c1] 53 (0, 0)), (w.heap.size + 1, .cells #[.int .i64 b2, .slice A2 bb.length c2] 53 (0, 0)), (w.heap.size + 1 + 1, .cells #[.string ⟨#[]⟩, .string ⟨#[]⟩] 31 (0, 0))] by rw [hW0]; exact (((St.start w).alloc _ _ rfl).alloc _ _ (by simp)).alloc _ _ (by simp))
  obtain ⟨cc, hcc⟩ : ∃ cc, cc = codeB b1 a b2 bb := ⟨_, rfl⟩
  rw [← hcc] at HCK h HV
  have t1 : (cc != 0) = true := by simpa using h
  clear hcc hr1 hr2
  go_enter Tryz.func30, Tryz.ntmps30
  go_wp2_with fail
  rw [← hW0]
  clear hW0
  (with_reducible refine (HCK.out W0 HST0.out.below).mono ?_)
  rintro e w1 ⟨rfl, hb1⟩
  have hST1 := HST0.out.call hb1
  have HST1 := Lib.hid hST1
  have k00 := hST1.cell 0 0 rfl rfl
  have k01 := hST1.cell 0 1 rfl rfl
  have k10 := hST1.cell 1 0 rfl rfl
  have k11 := hST1.cell 1 1 rfl rfl
  have r0 := hST1.cell 2 0 rfl rfl
  have r1 := hST1.cell 2 1 rfl rfl
  have z0 := hST1.frozen 2 0 rfl
  have z1 := hST1.frozen 2 1 rfl
  have HFIN := Lib.hid ((hST1.below.setCell (p := ⟨w.heap.size + 1 + 1, 0, none⟩) (by simp only; omega) (.string ⟨#[]⟩)).setCell (p := ⟨w.heap.size + 1 + 1, 1, none⟩) (by simp only; omega) (.string ⟨#[]⟩))
  clear hb1 hST1
  go_wp2
  refine bodyPost_ret (v := .tuple #[.agg #[.string ⟨#[]⟩, .string ⟨#[]⟩], .int .i64 cc]) ?_ rfl ⟨by first | rw [HV.out] | (unfold ratOf; rw [HV.out]), HFIN.out⟩
  simp [results, Tryz.results30, go_sem, r0, r1]

set_option maxHeartbeats 8000000 in
set_option maxRecDepth 100000 in
theorem mApart_empty (b1 b2 : Int) (A1 A2 : Option Addr) (c1 c2 : Nat) (a bb : List (Int × Int)) (w : World) (hr1 : Rd w 0 w.heap.size 2 A1 a.length (cells2 a)) (hr2 : Rd w 0 w.heap.size 2 A2 bb.length (cells2 bb)) (hl1 : a.length < 9223372036854775807) (hl2 : bb.length < 9223372036854775807) (h : codeB b1 a b2 bb = 0) (h0 : a.length = 0 ∨ bb.length = 0) :
    Calls Tryz.prog 30 #[.agg #[.int .i64 b1, .slice A1 a.length c1], .agg #[.int .i64 b2, .slice A2 bb.length c2]] w fun e w' => e = .returned (.tuple #[ratOf (apP b1 a b2 bb), .int .i64 (apC b1 a b2 bb)]) ∧ Below w.heap.size w w' := by
  have HV := Lib.hid (show (.tuple #[ratOf (apP b1 a b2 bb), .int .i64 (apC b1 a b2 bb)] : Value) = .tuple #[.agg #[.string ⟨#[]⟩, .string ⟨#[]⟩], .int .i64 13] by
    have e : apC b1 a b2 bb = 13 := by
      unfold apC; rw [if_neg (by omega)]
      by_cases g : a.length = 0
      · rw [if_pos g]
      · rw [if_neg g, if_pos (by omega)]
    unfold apP ratOf; rw [e]; rfl)
  have HCK := Lib.hid (fun (W : World) (hb : Below w.heap.size w W) => checkBoth_any b1 b2 A1 A2 c1 c2 a bb W (hr1.old hb) (hr2.old hb) hl1 hl2)
  obtain ⟨W0, hW0⟩ : ∃ W0, W0 = ((w.alloc (.cells #[.int .i64 b1, .slice A1 a.length c1] 53)).alloc (.cells #[.int .i64 b2, .slice A2 bb.length c2] 53)).alloc (.cells #[.string ⟨#[]⟩, .string ⟨#[]⟩] 31) := ⟨_, rfl⟩
  have HST0 := Lib.hid (show St w W0 [(w.heap.size, .cells #[.int .i64 b1, .slice A1 a.length c1] 53 (0, 0)), (w.heap.size + 1, .cells #[.int .i64 b2, .slice A2 bb.length c2] 53 (0, 0)), (w.heap.size + 1 + 1, .cells #[.string ⟨#[]⟩, .string ⟨#[]⟩] 31 (0, 0))] by rw [hW0]; exact (((St.start w).alloc _ _ rfl).alloc _ _ (by simp)).alloc _ _ (by simp))
  rw [h] at HCK
  clear h hr1 hr2
  by_cases g : a.length = 0
  · have t1 : ((a.length : Int) == 0) = true := by rw [beq_iff_eq]; omega
    have t2 : (a.length == 0) = true := by rw [beq_iff_eq]; omega
    clear h0 g
    go_enter Tryz.func30, Tryz.ntmps30
    go_wp2_with fail
    rw [← hW0]
    clear hW0
    (with_reducible refine (HCK.out W0 HST0.out.below).mono ?_)
    rintro e w1 ⟨rfl, hb1⟩
    have hST1 := HST0.out.call hb1
    have HST1 := Lib.hid hST1
    have k00 := hST1.cell 0 0 rfl rfl
    have k01 := hST1.cell 0 1 rfl rfl
    have k10 := hST1.cell 1 0 rfl rfl
    have k11 := hST1.cell 1 1 rfl rfl
    have r0 := hST1.cell 2 0 rfl rfl
    have r1 := hST1.cell 2 1 rfl rfl
    have z0 := hST1.frozen 2 0 rfl
    have z1 := hST1.frozen 2 1 rfl
    have HFIN := Lib.hid ((hST1.below.setCell (p := ⟨w.heap.size + 1 + 1, 0, none⟩) (by simp only; omega) (.string ⟨#[]⟩)).setCell (p := ⟨w.heap.size + 1 + 1, 1, none⟩) (by simp only; omega) (.string ⟨#[]⟩))
    clear hb1 hST1
    go_wp2
    refine bodyPost_ret (v := .tuple #[.agg #[.string ⟨#[]⟩, .string ⟨#[]⟩], .int .i64 13]) ?_ rfl ⟨by first | rw [HV.out] | (unfold ratOf; rw [HV.out]), HFIN.out⟩
    simp [results, Tryz.results30, go_sem, r0, r1]
  · have t1 : ((a.length : Int) == 0) = false := by rw [beq_eq_false_iff_ne]; omega
    have t2 : (a.length == 0) = false := by rw [beq_eq_false_iff_ne]; omega
    have t3 : ((bb.length : Int) == 0) = true := by rw [beq_iff_eq]; omega
    have t4 : (bb.length == 0) = true := by rw [beq_iff_eq]; omega
    clear h0 g
    go_enter Tryz.func30, Tryz.ntmps30
    go_wp2_with fail
    rw [← hW0]
    clear hW0
    (with_reducible refine (HCK.out W0 HST0.out.below).mono ?_)
    rintro e w1 ⟨rfl, hb1⟩
    have hST1 := HST0.out.call hb1
    have HST1 := Lib.hid hST1
    have k00 := hST1.cell 0 0 rfl rfl
    have k01 := hST1.cell 0 1 rfl rfl
    have k10 := hST1.cell 1 0 rfl rfl
    have k11 := hST1.cell 1 1 rfl rfl
    have r0 := hST1.cell 2 0 rfl rfl
    have r1 := hST1.cell 2 1 rfl rfl
    have z0 := hST1.frozen 2 0 rfl
    have z1 := hST1.frozen 2 1 rfl
    have HFIN := Lib.hid ((hST1.below.setCell (p := ⟨w.heap.size + 1 + 1, 0, none⟩) (by simp only; omega) (.string ⟨#[]⟩)).setCell (p := ⟨w.heap.size + 1 + 1, 1, none⟩) (by simp only; omega) (.string ⟨#[]⟩))
    clear hb1 hST1
    go_wp2
    refine bodyPost_ret (v := .tuple #[.agg #[.string ⟨#[]⟩, .string ⟨#[]⟩], .int .i64 13]) ?_ rfl ⟨by first | rw [HV.out] | (unfold ratOf; rw [HV.out]), HFIN.out⟩
    simp [results, Tryz.results30, go_sem, r0, r1]

set_option maxHeartbeats 8000000 in
set_option maxRecDepth 100000 in
theorem mApart_main (b1 b2 : Int) (A1 A2 : Option Addr) (c1 c2 : Nat) (a bb : List (Int × Int)) (w : World) (hr1 : Rd w 0 w.heap.size 2 A1 a.length (cells2 a)) (hr2 : Rd w 0 w.heap.size 2 A2 bb.length (cells2 bb)) (hl1 : a.length < 9223372036854775807) (hl2 : bb.length < 9223372036854775807) (h : codeB b1 a b2 bb = 0) (h1 : a.length ≠ 0) (h2 : bb.length ≠ 0) (ht : Tab w.heap.size w) :
    Calls Tryz.prog 30 #[.agg #[.int .i64 b1, .slice A1 a.length c1], .agg #[.int .i64 b2, .slice A2 bb.length c2]] w fun e w' => e = .returned (.tuple #[ratOf (apP b1 a b2 bb), .int .i64 (apC b1 a b2 bb)]) ∧ Below w.heap.size w w' := by
  have HV := Lib.hid (show (.tuple #[ratOf (apP b1 a b2 bb), .int .i64 (apC b1 a b2 bb)] : Value) = .tuple #[ratV (apV a bb) ((tot a).toNat * (tot bb).toNat), .int .i64 0] by
    have e : apC b1 a b2 bb = 0 := by unfold apC; rw [if_neg (by omega), if_neg h1, if_neg h2]
    unfold apP ratV; rw [e]; rfl)
  obtain ⟨hcA, hcB, -⟩ := codeB_zero h
  have hgA := codeH_zero hcA
  have hgB := codeH_zero hcB
  have HCK := Lib.hid (fun (W : World) (hb : Below w.heap.size w W) => checkBoth_any b1 b2 A1 A2 c1 c2 a bb W (hr1.old hb) (hr2.old hb) hl1 hl2)
  obtain ⟨W0, hW0⟩ : ∃ W0, W0 = ((w.alloc (.cells #[.int .i64 b1, .slice A1 a.length c1] 53)).alloc (.cells #[.int .i64 b2, .slice A2 bb.length c2] 53)).alloc (.cells #[.string ⟨#[]⟩, .string ⟨#[]⟩] 31) := ⟨_, rfl⟩
  have HST0 := Lib.hid (show St w W0 [(w.heap.size, .cells #[.int .i64 b1, .slice A1 a.length c1] 53 (0, 0)), (w.heap.size + 1, .cells #[.int .i64 b2, .slice A2 bb.length c2] 53 (0, 0)), (w.heap.size + 1 + 1, .cells #[.string ⟨#[]⟩, .string ⟨#[]⟩] 31 (0, 0))] by rw [hW0]; exact (((St.start w).alloc _ _ rfl).alloc _ _ (by simp)).alloc _ _ (by simp))
  rw [h] at HCK
  have HGA := Lib.hid hgA
  have HGB := Lib.hid hgB
  have HRA := Lib.hid hr1
  have HRB := Lib.hid hr2
  have hb2 := hgA.1
  have hb8 := hgA.2.1
  have hlA := hgA.2.2.1
  have hlB := hgB.2.2.1
  have HCA := Lib.hid (fun c hc => (hgA.2.2.2.1 c hc).2)
  have HCB := Lib.hid (fun c hc => (hgB.2.2.2.1 c hc).2)
  have HPA := Lib.hid hgA.2.2.2.2.1
  have HPB := Lib.hid hgB.2.2.2.2.1
  have HTA := Lib.hid (fun (W : World) (hb : Below w.heap.size w W) => total_any b1 A1 a.length c1 a W (hr1.old hb) (by omega) (fun c hc => (hgA.2.2.2.1 c hc).2) hgA.2.2.1)
  have HTB := Lib.hid (fun (W : World) (hb : Below w.heap.size w W) => total_any b2 A2 bb.length c2 bb W (hr2.old hb) (by omega) (fun c hc => (hgB.2.2.2.1 c hc).2) hgB.2.2.1)
  have hpA := tot_pos HCA.out
  have hpB := tot_pos HCB.out
  have htA := hgA.2.2.2.2.2
  have htB := hgB.2.2.2.2.2
  obtain ⟨n, hn⟩ : ∃ n : Nat, (n : Int) = tot a := ⟨(tot a).toNat, by omega⟩
  obtain ⟨m, hm⟩ : ∃ m : Nat, (m : Int) = tot bb := ⟨(tot bb).toNat, by omega⟩
  have HAV := Lib.hid (show apV a bb = apM a bb n m a.length bb.length by unfold apV; rw [← hn, ← hm]; rfl)
  have HML := Lib.hid (fun i k => apM_le (a := a) (b := bb) (n := n) (m := m) HCA.out HCB.out (by omega) (by omega) i k)
  rw [← hn, ← hm, Int.toNat_natCast, Int.toNat_natCast, HAV.out] at HV
  have HTI := Lib.hid (fun i k => And.intro (tot_in HCA.out i) (tot_in HCB.out k))
  rw [← hn, ← hm] at HTI
  rw [← hn] at HTA hpA htA
  rw [← hm] at HTB hpB htB
  have hn1 : 1 ≤ n := by omega
  have hm1 : 1 ≤ m := by omega
  have hnm : n * m ≤ 1125899906842624 * 1125899906842624 := Nat.mul_le_mul (by omega) (by omega)
  have hnm1 : 1 ≤ n * m := Nat.mul_pos hn1 hm1
  have HTT := Lib.hid (fun W (hb : Below w.heap.size w W) => (ht.on hb).mono hb.size)
  have HOA := Lib.hid (fun W => natOf_any (n : Int) W (by omega))
  have HOB := Lib.hid (fun W => natOf_any (m : Int) W (by omega))
  have HMUL := Lib.hid (fun W A1 c1 l1 A2 c2 l2 (x y : Nat) (hx : x ≤ 1125899906842624) (hy : y ≤ 1125899906842624) (h1 : NatR W A1 c1 l1 x) (h2 : NatR W A2 c2 l2 y) => natMul_any A1 A2 c1 c2 l1 l2 _ _ W h1 h2 (by have := natLen h1 (by omega); omega) (by have := natLen h2 (by omega); omega))
  have HCMP := Lib.hid (fun W A1 c1 l1 A2 c2 l2 (x y : Nat) (hx : x ≤ 1125899906842624 * 1125899906842624) (hy : y ≤ 1125899906842624 * 1125899906842624) (h1 : NatR W A1 c1 l1 x) (h2 : NatR W A2 c2 l2 y) => natCmpM_any A1 A2 c1 c2 l1 l2 _ _ W h1 h2 (by have := natLen h1 hx; omega) (by have := natLen h2 hy; omega))
  have HSUB := Lib.hid (fun W A1 c1 l1 A2 c2 l2 (x y : Nat) (hx : x ≤ 1125899906842624 * 1125899906842624) (hxy : y ≤ x) (h1 : NatR W A1 c1 l1 x) (h2 : NatR W A2 c2 l2 y) => natSub_any A1 A2 c1 c2 l1 l2 _ _ W h1 h2 (by have := natLen h1 hx; omega) hxy)
  have HBU := Lib.hid (fun W => bucket_any b1 1125899906842623 W hb2 hb8 (by omega) (by omega))
  have hmx := bkt_max b1 hb2 hb8
  have HXB := Lib.hid (fun k Y M (hy : bb[k]? = some (Y, M)) => show Y ≤ bkt b1 1125899906842623 by
    have hb12 := (codeB_zero h).2.2
    rw [hmx, hb12]; exact (hgB.2.2.2.1 (Y, M) (List.mem_of_getElem? hy)).1.2)
  obtain ⟨mxb, hmxb⟩ : ∃ z, z = bkt b1 1125899906842623 := ⟨_, rfl⟩
  rw [← hmxb] at HBU HXB
  simp only [Int.toNat_natCast] at HOA HOB
  have s1 : ((a.length : Int) == 0) = false := by rw [beq_eq_false_iff_ne]; omega
  have s2 : (a.length == 0) = false := by rw [beq_eq_false_iff_ne]; omega
  have s3 : ((bb.length : Int) == 0) = false := by rw [beq_eq_false_iff_ne]; omega
  have s4 : (bb.length == 0) = false := by rw [beq_eq_false_iff_ne]; omega
  clear h hr1 hr2 ht hgA hgB hcA hcB hn hm hmx hmxb h1 h2
  go_enter Tryz.func30, Tryz.ntmps30
  go_wp2_with fail
  rw [← hW0]
  clear hW0
  (with_reducible refine (HCK.out W0 HST0.out.below).mono ?_)
  rintro e w1 ⟨rfl, hb1⟩
  have hST1 := HST0.out.call hb1
  have HST1 := Lib.hid hST1
  have k00 := hST1.cell 0 0 rfl rfl
  have k01 := hST1.cell 0 1 rfl rfl
  have k10 := hST1.cell 1 0 rfl rfl
  have k11 := hST1.cell 1 1 rfl rfl
  have HKS := Lib.hid (show ∀ X, Below w1.heap.size w1 X → (fun X => Below w1.heap.size w1 X ∧ X.cell? ⟨w.heap.size, 0, none⟩ = some (.int .i64 b1) ∧ X.cell? ⟨w.heap.size, 1, none⟩ = some (.slice A1 a.length c1) ∧ X.cell? ⟨w.heap.size + 1, 0, none⟩ = some (.int .i64 b2) ∧ X.cell? ⟨w.heap.size + 1, 1, none⟩ = some (.slice A2 bb.length c2)) X from fun X h => ⟨h, (HST1.out.call h).cell 0 0 rfl rfl, (HST1.out.call h).cell 0 1 rfl rfl, (HST1.out.call h).cell 1 0 rfl rfl, (HST1.out.call h).cell 1 1 rfl rfl⟩)
  have HWB := Lib.hid (fun X (h : Below w1.heap.size w1 X) => (HST1.out.call h).below)
  clear hb1 hST1
  go_upto_region 6 with fail
  clear k00 k01 k10 k11
  obtain ⟨-, f0, f1, f2, f3⟩ := HKS.out w1 (Below.refl _ _)
  go_region_held3 (fun X => Below w1.heap.size w1 X ∧ X.cell? ⟨w.heap.size, 0, none⟩ = some (.int .i64 b1) ∧ X.cell? ⟨w.heap.size, 1, none⟩ = some (.slice A1 a.length c1) ∧ X.cell? ⟨w.heap.size + 1, 0, none⟩ = some (.int .i64 b2) ∧ X.cell? ⟨w.heap.size + 1, 1, none⟩ = some (.slice A2 bb.length c2))
    (first
      | exact HKS.out _ (Below.refl _ w1).drew
      | (go_split_ands; refine HKS.out _ (below_next ?_ hb2'); assumption)
      | (go_split_ands; refine HKS.out _ (below_next ?_ hb3'); assumption)
      | (go_split_ands; refine HKS.out _ (below_next ?_ hb4'); assumption)
      | (go_split_ands; refine HKS.out _ (below_next ?_ hb5'); assumption))
    (first
      | (go_at_call 88; (with_reducible refine (HTA.out _ (HWB.out _ ?_)).mono ?_); (first | exact (Below.refl _ w1).drew | (go_split_ands; assumption)); rintro e v2 ⟨rfl, hb2'⟩)
      | (go_at_call 88; (with_reducible refine (HTB.out _ (HWB.out _ ?_)).mono ?_); (first | exact (Below.refl _ w1).drew | (go_split_ands; assumption)); rintro e v3 ⟨rfl, hb3'⟩)
      | (go_at_call 63; (with_reducible refine (HOA.out _).mono ?_); rintro e v4 ⟨An, cn, ln, rfl, hnn, hb4'⟩)
      | (go_at_call 63; (with_reducible refine (HOB.out _).mono ?_); rintro e v5 ⟨Am, cm, lm, rfl, hnm', hb5'⟩))
  have HB5 := Lib.hid (show Below w1.heap.size w1 v5 by go_split_ands; assumption)
  have HNN := Lib.hid (hnn.on (below_next hb3' hb5'))
  have HNM := Lib.hid hnm'
  have HST5 := Lib.hid (HST1.out.call HB5.out)
  clear hb2' hb3' hb4' hb5' hnn hnm' f0 f1 f2 f3
  go_wp2_with fail
  go_loopw [9, 10, 11, 12, 13, 14, 15, 16, 17] (fun bv xv yv iv kv _ _ _ _ wr => ∃ i k : Nat, i ≤ a.length ∧ k ≤ bb.length ∧ iv = .int .i64 i ∧ kv = .int .i64 k ∧ ∃ (x y : Nat) (Ab : Option Addr) (cb : Nat) (lb : List Nat), xv = .int .i64 x ∧ yv = .int .i64 y ∧ bv = .slice Ab lb.length cb ∧ Hid ((x : Int) = tot (a.take i)) ∧ Hid ((y : Int) = tot (bb.take k)) ∧ NatR wr Ab cb lb (apM a bb n m i k) ∧ Hid (ApInv a bb i k) ∧ NatR wr An cn ln n ∧ NatR wr Am cm lm m ∧ St w wr [(w.heap.size, .cells #[.int .i64 b1, .slice A1 a.length c1] 53 (0, 0)), (w.heap.size + 1, .cells #[.int .i64 b2, .slice A2 bb.length c2] 53 (0, 0)), (w.heap.size + 1 + 1, .cells #[.string ⟨#[]⟩, .string ⟨#[]⟩] 31 (0, 0))]) (fun _ _ _ iv kv _ _ _ _ _ => (a.length - (intOf iv).toNat) + (bb.length - (intOf kv).toNat))
  case atStart => exact ⟨0, 0, Nat.zero_le _, Nat.zero_le _, rfl, rfl, 0, 0, none, 0, [], rfl, rfl, rfl, Lib.hid (by simp [tot]), Lib.hid (by simp [tot]), by simp only [apM, List.take_zero, keysB, List.map_nil, List.append_nil, mxD]; exact natr_nil _, Lib.hid ⟨fun c hc => by simp at hc, fun c hc => by simp at hc⟩, HNN.out, HNM.out, HST5.out⟩
  case round =>
    obtain ⟨i, k, hi, hk, rfl, rfl, x, y, Ab, cb, lb, rfl, rfl, rfl, HXI, HYK, hnb, HINV, hna, hnm2, hst⟩ := hrel
    have HST := Lib.hid hst
    have HNB := Lib.hid hnb
    have HNA := Lib.hid hna
    have HNM2 := Lib.hid hnm2
    have hbw := hst.below
    have hti := HTI.out i k
    rw [← HXI.out, ← HYK.out] at hti
    have k00 := hst.cell 0 0 rfl rfl
    have k01 := hst.cell 0 1 rfl rfl
    have k11 := hst.cell 1 1 rfl rfl
    clear hnb hna hnm2 hst
    by_cases hlt : i < a.length
    · obtain ⟨bkA, oA, X, M, hA, _, hbkA0, hx, a0', a1'⟩ := (HRA.out.below hbw (Nat.le_refl _)).at2 hlt
      subst hA
      have hbkA : bkA < wr.heap.size := by have := hbw.size; omega
      have HA0 := Lib.hid a0'
      have HA1 := Lib.hid a1'
      have HX := Lib.hid hx
      have hMd := HCA.out (X, M) (List.mem_of_getElem? hx)
      simp only at hMd
      have hXI1 := tot_take a i X M hx
      have hti2 := HTI.out (i + 1) (k + 1)
      have hiI : (i : Int) < (a.length : Int) := by omega
      have d1 : decide ((i : Int) < (a.length : Int)) = true := decide_eq_true hiI
      have d2 : decide (i < a.length) = true := decide_eq_true hlt
      obtain ⟨M', rfl⟩ : ∃ M' : Nat, M = M' := ⟨M.toNat, by omega⟩
      have HX1 := Lib.hid (show ((x + M' : Nat) : Int) = tot (a.take (i + 1)) by rw [hXI1, ← HXI.out]; simp)
      have hxm : (x : Int) + (M' : Int) ≤ n := by have := HX1.out; omega
      clear a0' a1' hx hXI1 hti2
      by_cases hlk : k < bb.length
      · obtain ⟨bkB, oB, Y, K, hB, _, hbkB0, hy, c0', c1''⟩ := (HRB.out.below hbw (Nat.le_refl _)).at2 hlk
        subst hB
        have hbkB : bkB < wr.heap.size := by have := hbw.size; omega
        have HB0' := Lib.hid c0'
        have HB1' := Lib.hid c1''
        have HY := Lib.hid hy
        have hKd := HCB.out (Y, K) (List.mem_of_getElem? hy)
        simp only at hKd
        have hYK1 := tot_take bb k Y K hy
        have hti3 := HTI.out (i + 1) (k + 1)
        have hkI : (k : Int) < (bb.length : Int) := by omega
        have d3 : decide ((k : Int) < (bb.length : Int)) = true := decide_eq_true hkI
        have d4 : decide (k < bb.length) = true := decide_eq_true hlk
        obtain ⟨K', rfl⟩ : ∃ K' : Nat, K = K' := ⟨K.toNat, by omega⟩
        have HY1 := Lib.hid (show ((y + K' : Nat) : Int) = tot (bb.take (k + 1)) by rw [hYK1, ← HYK.out]; simp)
        have hyk : (y : Int) + (K' : Int) ≤ m := by have := HY1.out; omega
        have HYM := Lib.hid (HXB.out k Y K' hy)
        clear c0' c1'' hy hYK1 hti3
        rcases Int.lt_trichotomy X Y with hXY | hXY | hXY
        · have hmn : min X Y = X := Int.min_eq_left (by omega)
          have q1 : (Y == X) = false := by rw [beq_eq_false_iff_ne]; omega
          go_wp2_with fail
          (with_reducible refine (HBU.out _).mono ?_)
          rintro e u0 ⟨rfl, q0, hq0⟩
          have HBU0 := Lib.hid (show Below wr.heap.size wr u0 by rw [hq0]; exact below_drewN (Below.refl _ _) q0)
          clear hq0
          have e00 : u0.cell? ⟨w.heap.size, 0, none⟩ = some (.int .i64 b1) := (HST.out.call HBU0.out).cell 0 0 rfl rfl
          have e01 : u0.cell? ⟨w.heap.size, 1, none⟩ = some (.slice (some ⟨bkA, oA, none⟩) a.length c1) := (HST.out.call HBU0.out).cell 0 1 rfl rfl
          have e11 : u0.cell? ⟨w.heap.size + 1, 1, none⟩ = some (.slice (some ⟨bkB, oB, none⟩) bb.length c2) := (HST.out.call HBU0.out).cell 1 1 rfl rfl
          have a0 : u0.cell? ⟨bkA, oA + i * 2, none⟩ = some (.int .i64 X) := (HBU0.out.cell (p := ⟨bkA, oA + i * 2, none⟩) hbkA).trans HA0.out
          have a1 : u0.cell? ⟨bkA, oA + i * 2 + 1, none⟩ = some (.int .i64 (M' : Int)) := (HBU0.out.cell (p := ⟨bkA, oA + i * 2 + 1, none⟩) hbkA).trans HA1.out
          have c0 : u0.cell? ⟨bkB, oB + k * 2, none⟩ = some (.int .i64 Y) := (HBU0.out.cell (p := ⟨bkB, oB + k * 2, none⟩) hbkB).trans HB0'.out
          have c1' : u0.cell? ⟨bkB, oB + k * 2 + 1, none⟩ = some (.int .i64 (K' : Int)) := (HBU0.out.cell (p := ⟨bkB, oB + k * 2 + 1, none⟩) hbkB).trans HB1'.out
          clear k00 k01 k11
          have HSI := Lib.hid (show (i : Int) + 1 = ((i + 1 : Nat) : Int) by simp)
          have HSX := Lib.hid (show (x : Int) + (M' : Int) = ((x + M' : Nat) : Int) by simp)
          go_upto_region 22 with fail
          rw [HSI.out]
          obtain ⟨i', hiq⟩ : ∃ z : Nat, z = i + 1 := ⟨_, rfl⟩
          rw [← hiq]
          obtain ⟨k', hkq⟩ : ∃ z : Nat, z = k := ⟨_, rfl⟩
          try rw [← hkq]
          rw [HSX.out]
          obtain ⟨x', hxq⟩ : ∃ z : Nat, z = x + M' := ⟨_, rfl⟩
          rw [← hxq]
          obtain ⟨y', hyq⟩ : ∃ z : Nat, z = y := ⟨_, rfl⟩
          try rw [← hyq]
          have HCUT := Lib.hid (show ApCut a bb n m i k i' k' x' y' by rw [hiq, hkq, hxq, hyq]; exact apcut1 HPA.out HX.out HINV.out (head_lt HPB.out HY.out hXY) hk HX1.out HYK.out)
          clear hiq hkq hxq hyq
          have HBC := HBU0
          obtain ⟨g1, g2, g3, g4, g5, -, -⟩ := HCUT.out
          have hti' := HTI.out i' k'
          rw [← g4, ← g5] at hti'
          have hpm : x' * m ≤ n * m := Nat.mul_le_mul (by omega) (Nat.le_refl _)
          have hqm : y' * n ≤ n * m := by rw [Nat.mul_comm n m]; exact Nat.mul_le_mul (by omega) (Nat.le_refl _)
          have hmle := HML.out i k
          clear g4 g5
          have HO1 := Lib.hid (fun W => natOf_any (x' : Int) W (by omega))
          have HO2 := Lib.hid (fun W => natOf_any (y' : Int) W (by omega))
          simp only [Int.toNat_natCast] at HO1 HO2
          go_wp2_with fail
          (with_reducible refine (HO1.out _).mono ?_)
          rintro e u1 ⟨B1, d1, p1, rfl, j1, hb1⟩
          have HB1 := Lib.hid (below_next HBC.out hb1)
          have HM1 := Lib.hid (HMUL.out u1 B1 d1 p1 Am cm lm x' m (by omega) (by omega) j1 (HNM2.out.on HB1.out))
          clear j1 hb1
          go_wp2_with fail
          (with_reducible refine HM1.out.mono ?_)
          rintro e u2 ⟨B2, d2, p2, rfl, j2, hb2'⟩
          have HB2 := Lib.hid (below_next HB1.out hb2')
          have HJ2 := Lib.hid j2
          clear j2 hb2'
          go_wp2_with fail
          (with_reducible refine (HO2.out _).mono ?_)
          rintro e u3 ⟨B3, d3, p3, rfl, j3, hb3⟩
          have HB3 := Lib.hid (below_next HB2.out hb3)
          have HJ3 := Lib.hid (HJ2.out.on hb3)
          have HM3 := Lib.hid (HMUL.out u3 B3 d3 p3 An cn ln y' n (by omega) (by omega) j3 (HNA.out.on HB3.out))
          clear j3 hb3
          go_wp2_with fail
          (with_reducible refine HM3.out.mono ?_)
          rintro e u4 ⟨B4, d4, p4, rfl, j4, hb4⟩
          have HB4 := Lib.hid (below_next HB3.out hb4)
          have HJ4 := Lib.hid (HJ3.out.on hb4)
          have HK4 := Lib.hid j4
          clear j4 hb4
          obtain ⟨P, hP⟩ : ∃ P, P = x' * m := ⟨_, rfl⟩
          obtain ⟨Q, hQ⟩ : ∃ Q, Q = y' * n := ⟨_, rfl⟩
          rw [← hP] at HJ4 hpm
          rw [← hQ] at HK4 hqm
          have HPQ := Lib.hid (And.intro hP hQ)
          clear hP hQ
          have HC5 := Lib.hid (HCMP.out u4 B2 d2 p2 B4 d4 p4 P Q (by omega) (by omega) HJ4.out HK4.out)
          go_wp2_with fail
          (with_reducible refine HC5.out.mono ?_)
          rintro e u5 ⟨rfl, hb5⟩
          have HB5' := Lib.hid (below_next HB4.out hb5)
          have HJ5 := Lib.hid (HJ4.out.on hb5)
          have HK5 := Lib.hid (HK4.out.on hb5)
          have tc := cmp_lt0 (x := P) (y := Q)
          obtain ⟨cz, hcz⟩ : ∃ z, z = cmpN P Q := ⟨_, rfl⟩
          rw [← hcz] at tc ⊢
          clear hb5 hcz
          by_cases hpq : P < Q
          · rw [decide_eq_true hpq] at tc
            have HS6 := Lib.hid (HSUB.out u5 B4 d4 p4 B2 d2 p2 Q P (by omega) (by omega) HK5.out HJ5.out)
            have HD := Lib.hid (show (x' * m - y' * n) + (y' * n - x' * m) = Q - P by rw [← HPQ.out.1, ← HPQ.out.2]; omega)
            obtain ⟨D, hD⟩ : ∃ D, D = Q - P := ⟨_, rfl⟩
            rw [← hD] at HS6 HD
            have hDle : D ≤ n * m := by omega
            clear hD
            go_wp2_with fail
            (with_reducible refine HS6.out.mono ?_)
            rintro e u6 ⟨B6, d6, p6, rfl, j6, hb6⟩
            have HB6 := Lib.hid (below_next HB5'.out hb6)
            have HJ6 := Lib.hid j6
            have HC7 := Lib.hid (HCMP.out u6 B6 d6 p6 Ab cb lb D (apM a bb n m i k) (by omega) (by omega) j6 (HNB.out.on HB6.out))
            clear j6 hb6
            go_wp2_with fail
            (with_reducible refine HC7.out.mono ?_)
            rintro e u7 ⟨rfl, hb7⟩
            have HB7 := Lib.hid (below_next HB6.out hb7)
            have HJ7 := Lib.hid (HJ6.out.on hb7)
            have td := cmp_gt0 (x := D) (y := apM a bb n m i k)
            obtain ⟨cz2, hcz2⟩ : ∃ z, z = cmpN D (apM a bb n m i k) := ⟨_, rfl⟩
            rw [← hcz2] at td ⊢
            clear hb7 hcz2
            by_cases hbest : apM a bb n m i k < D
            · rw [decide_eq_true hbest] at td
              have HNEW := Lib.hid (show NatR u7 B6 d6 p6 (apM a bb n m i' k') by rw [HCUT.out.2.2.2.2.2.2, HD.out, Nat.max_eq_right (by omega)]; exact HJ7.out)
              clear hbest
              go_wp2
              go_roundw
              case rel => first | exact ⟨i', k', g1, g2, rfl, rfl, x', y', B6, d6, p6, rfl, rfl, rfl, Lib.hid HCUT.out.2.2.2.1, Lib.hid HCUT.out.2.2.2.2.1, HNEW.out, Lib.hid HCUT.out.2.2.2.2.2.1, HNA.out.on HB7.out, HNM2.out.on HB7.out, HST.out.call HB7.out⟩ | ((repeat apply Exists.intro); exact ⟨⟨i', k', g1, g2, rfl, rfl, x', y', B6, d6, p6, rfl, rfl, rfl, Lib.hid HCUT.out.2.2.2.1, Lib.hid HCUT.out.2.2.2.2.1, HNEW.out, Lib.hid HCUT.out.2.2.2.2.2.1, HNA.out.on HB7.out, HNM2.out.on HB7.out, HST.out.call HB7.out⟩, rfl⟩)
              case measure => first | omega | (simp [intOf]; omega)
            · rw [decide_eq_false hbest] at td
              have HNEW := Lib.hid (show NatR u7 Ab cb lb (apM a bb n m i' k') by rw [HCUT.out.2.2.2.2.2.2, HD.out, Nat.max_eq_left (by omega)]; exact HNB.out.on HB7.out)
              clear hbest
              go_wp2
              go_roundw
              case rel => first | exact ⟨i', k', g1, g2, rfl, rfl, x', y', Ab, cb, lb, rfl, rfl, rfl, Lib.hid HCUT.out.2.2.2.1, Lib.hid HCUT.out.2.2.2.2.1, HNEW.out, Lib.hid HCUT.out.2.2.2.2.2.1, HNA.out.on HB7.out, HNM2.out.on HB7.out, HST.out.call HB7.out⟩ | ((repeat apply Exists.intro); exact ⟨⟨i', k', g1, g2, rfl, rfl, x', y', Ab, cb, lb, rfl, rfl, rfl, Lib.hid HCUT.out.2.2.2.1, Lib.hid HCUT.out.2.2.2.2.1, HNEW.out, Lib.hid HCUT.out.2.2.2.2.2.1, HNA.out.on HB7.out, HNM2.out.on HB7.out, HST.out.call HB7.out⟩, rfl⟩)
              case measure => first | omega | (simp [intOf]; omega)
          · rw [decide_eq_false hpq] at tc
            have HS6 := Lib.hid (HSUB.out u5 B2 d2 p2 B4 d4 p4 P Q (by omega) (by omega) HJ5.out HK5.out)
            have HD := Lib.hid (show (x' * m - y' * n) + (y' * n - x' * m) = P - Q by rw [← HPQ.out.1, ← HPQ.out.2]; omega)
            obtain ⟨D, hD⟩ : ∃ D, D = P - Q := ⟨_, rfl⟩
            rw [← hD] at HS6 HD
            have hDle : D ≤ n * m := by omega
            clear hD
            go_wp2_with fail
            (with_reducible refine HS6.out.mono ?_)
            rintro e u6 ⟨B6, d6, p6, rfl, j6, hb6⟩
            have HB6 := Lib.hid (below_next HB5'.out hb6)
            have HJ6 := Lib.hid j6
            have HC7 := Lib.hid (HCMP.out u6 B6 d6 p6 Ab cb lb D (apM a bb n m i k) (by omega) (by omega) j6 (HNB.out.on HB6.out))
            clear j6 hb6
            go_wp2_with fail
            (with_reducible refine HC7.out.mono ?_)
            rintro e u7 ⟨rfl, hb7⟩
            have HB7 := Lib.hid (below_next HB6.out hb7)
            have HJ7 := Lib.hid (HJ6.out.on hb7)
            have td := cmp_gt0 (x := D) (y := apM a bb n m i k)
            obtain ⟨cz2, hcz2⟩ : ∃ z, z = cmpN D (apM a bb n m i k) := ⟨_, rfl⟩
            rw [← hcz2] at td ⊢
            clear hb7 hcz2
            by_cases hbest : apM a bb n m i k < D
            · rw [decide_eq_true hbest] at td
              have HNEW := Lib.hid (show NatR u7 B6 d6 p6 (apM a bb n m i' k') by rw [HCUT.out.2.2.2.2.2.2, HD.out, Nat.max_eq_right (by omega)]; exact HJ7.out)
              clear hbest
              go_wp2
              go_roundw
              case rel => first | exact ⟨i', k', g1, g2, rfl, rfl, x', y', B6, d6, p6, rfl, rfl, rfl, Lib.hid HCUT.out.2.2.2.1, Lib.hid HCUT.out.2.2.2.2.1, HNEW.out, Lib.hid HCUT.out.2.2.2.2.2.1, HNA.out.on HB7.out, HNM2.out.on HB7.out, HST.out.call HB7.out⟩ | ((repeat apply Exists.intro); exact ⟨⟨i', k', g1, g2, rfl, rfl, x', y', B6, d6, p6, rfl, rfl, rfl, Lib.hid HCUT.out.2.2.2.1, Lib.hid HCUT.out.2.2.2.2.1, HNEW.out, Lib.hid HCUT.out.2.2.2.2.2.1, HNA.out.on HB7.out, HNM2.out.on HB7.out, HST.out.call HB7.out⟩, rfl⟩)
              case measure => first | omega | (simp [intOf]; omega)
            · rw [decide_eq_false hbest] at td
              have HNEW := Lib.hid (show NatR u7 Ab cb lb (apM a bb n m i' k') by rw [HCUT.out.2.2.2.2.2.2, HD.out, Nat.max_eq_left (by omega)]; exact HNB.out.on HB7.out)
              clear hbest
              go_wp2
              go_roundw
              case rel => first | exact ⟨i', k', g1, g2, rfl, rfl, x', y', Ab, cb, lb, rfl, rfl, rfl, Lib.hid HCUT.out.2.2.2.1, Lib.hid HCUT.out.2.2.2.2.1, HNEW.out, Lib.hid HCUT.out.2.2.2.2.2.1, HNA.out.on HB7.out, HNM2.out.on HB7.out, HST.out.call HB7.out⟩ | ((repeat apply Exists.intro); exact ⟨⟨i', k', g1, g2, rfl, rfl, x', y', Ab, cb, lb, rfl, rfl, rfl, Lib.hid HCUT.out.2.2.2.1, Lib.hid HCUT.out.2.2.2.2.1, HNEW.out, Lib.hid HCUT.out.2.2.2.2.2.1, HNA.out.on HB7.out, HNM2.out.on HB7.out, HST.out.call HB7.out⟩, rfl⟩)
              case measure => first | omega | (simp [intOf]; omega)
        · subst hXY
          have hmn : min X X = X := Int.min_eq_left (Int.le_refl _)
          go_wp2_with fail
          (with_reducible refine (HBU.out _).mono ?_)
          rintro e u0 ⟨rfl, q0, hq0⟩
          have HBU0 := Lib.hid (show Below wr.heap.size wr u0 by rw [hq0]; exact below_drewN (Below.refl _ _) q0)
          clear hq0
          have e00 : u0.cell? ⟨w.heap.size, 0, none⟩ = some (.int .i64 b1) := (HST.out.call HBU0.out).cell 0 0 rfl rfl
          have e01 : u0.cell? ⟨w.heap.size, 1, none⟩ = some (.slice (some ⟨bkA, oA, none⟩) a.length c1) := (HST.out.call HBU0.out).cell 0 1 rfl rfl
          have e11 : u0.cell? ⟨w.heap.size + 1, 1, none⟩ = some (.slice (some ⟨bkB, oB, none⟩) bb.length c2) := (HST.out.call HBU0.out).cell 1 1 rfl rfl
          have a0 : u0.cell? ⟨bkA, oA + i * 2, none⟩ = some (.int .i64 X) := (HBU0.out.cell (p := ⟨bkA, oA + i * 2, none⟩) hbkA).trans HA0.out
          have a1 : u0.cell? ⟨bkA, oA + i * 2 + 1, none⟩ = some (.int .i64 (M' : Int)) := (HBU0.out.cell (p := ⟨bkA, oA + i * 2 + 1, none⟩) hbkA).trans HA1.out
          have c0 : u0.cell? ⟨bkB, oB + k * 2, none⟩ = some (.int .i64 X) := (HBU0.out.cell (p := ⟨bkB, oB + k * 2, none⟩) hbkB).trans HB0'.out
          have c1' : u0.cell? ⟨bkB, oB + k * 2 + 1, none⟩ = some (.int .i64 (K' : Int)) := (HBU0.out.cell (p := ⟨bkB, oB + k * 2 + 1, none⟩) hbkB).trans HB1'.out
          clear k00 k01 k11
          have HSI := Lib.hid (show (i : Int) + 1 = ((i + 1 : Nat) : Int) by simp)
          have HSK := Lib.hid (show (k : Int) + 1 = ((k + 1 : Nat) : Int) by simp)
          have HSX := Lib.hid (show (x : Int) + (M' : Int) = ((x + M' : Nat) : Int) by simp)
          have HSY := Lib.hid (show (y : Int) + (K' : Int) = ((y + K' : Nat) : Int) by simp)
          go_upto_region 22 with fail
          rw [HSI.out]
          obtain ⟨i', hiq⟩ : ∃ z : Nat, z = i + 1 := ⟨_, rfl⟩
          rw [← hiq]
          rw [HSK.out]
          obtain ⟨k', hkq⟩ : ∃ z : Nat, z = k + 1 := ⟨_, rfl⟩
          rw [← hkq]
          rw [HSX.out]
          obtain ⟨x', hxq⟩ : ∃ z : Nat, z = x + M' := ⟨_, rfl⟩
          rw [← hxq]
          rw [HSY.out]
          obtain ⟨y', hyq⟩ : ∃ z : Nat, z = y + K' := ⟨_, rfl⟩
          rw [← hyq]
          have HCUT := Lib.hid (show ApCut a bb n m i k i' k' x' y' by rw [hiq, hkq, hxq, hyq]; exact apcut3 HPA.out HPB.out HX.out HY.out HINV.out HX1.out HY1.out)
          clear hiq hkq hxq hyq
          have HBC := HBU0
          obtain ⟨g1, g2, g3, g4, g5, -, -⟩ := HCUT.out
          have hti' := HTI.out i' k'
          rw [← g4, ← g5] at hti'
          have hpm : x' * m ≤ n * m := Nat.mul_le_mul (by omega) (Nat.le_refl _)
          have hqm : y' * n ≤ n * m := by rw [Nat.mul_comm n m]; exact Nat.mul_le_mul (by omega) (Nat.le_refl _)
          have hmle := HML.out i k
          clear g4 g5
          have HO1 := Lib.hid (fun W => natOf_any (x' : Int) W (by omega))
          have HO2 := Lib.hid (fun W => natOf_any (y' : Int) W (by omega))
          simp only [Int.toNat_natCast] at HO1 HO2
          go_wp2_with fail
          (with_reducible refine (HO1.out _).mono ?_)
          rintro e u1 ⟨B1, d1, p1, rfl, j1, hb1⟩
          have HB1 := Lib.hid (below_next HBC.out hb1)
          have HM1 := Lib.hid (HMUL.out u1 B1 d1 p1 Am cm lm x' m (by omega) (by omega) j1 (HNM2.out.on HB1.out))
          clear j1 hb1
          go_wp2_with fail
          (with_reducible refine HM1.out.mono ?_)
          rintro e u2 ⟨B2, d2, p2, rfl, j2, hb2'⟩
          have HB2 := Lib.hid (below_next HB1.out hb2')
          have HJ2 := Lib.hid j2
          clear j2 hb2'
          go_wp2_with fail
          (with_reducible refine (HO2.out _).mono ?_)
          rintro e u3 ⟨B3, d3, p3, rfl, j3, hb3⟩
          have HB3 := Lib.hid (below_next HB2.out hb3)
          have HJ3 := Lib.hid (HJ2.out.on hb3)
          have HM3 := Lib.hid (HMUL.out u3 B3 d3 p3 An cn ln y' n (by omega) (by omega) j3 (HNA.out.on HB3.out))
          clear j3 hb3
          go_wp2_with fail
          (with_reducible refine HM3.out.mono ?_)
          rintro e u4 ⟨B4, d4, p4, rfl, j4, hb4⟩
          have HB4 := Lib.hid (below_next HB3.out hb4)
          have HJ4 := Lib.hid (HJ3.out.on hb4)
          have HK4 := Lib.hid j4
          clear j4 hb4
          obtain ⟨P, hP⟩ : ∃ P, P = x' * m := ⟨_, rfl⟩
          obtain ⟨Q, hQ⟩ : ∃ Q, Q = y' * n := ⟨_, rfl⟩
          rw [← hP] at HJ4 hpm
          rw [← hQ] at HK4 hqm
          have HPQ := Lib.hid (And.intro hP hQ)
          clear hP hQ
          have HC5 := Lib.hid (HCMP.out u4 B2 d2 p2 B4 d4 p4 P Q (by omega) (by omega) HJ4.out HK4.out)
          go_wp2_with fail
          (with_reducible refine HC5.out.mono ?_)
          rintro e u5 ⟨rfl, hb5⟩
          have HB5' := Lib.hid (below_next HB4.out hb5)
          have HJ5 := Lib.hid (HJ4.out.on hb5)
          have HK5 := Lib.hid (HK4.out.on hb5)
          have tc := cmp_lt0 (x := P) (y := Q)
          obtain ⟨cz, hcz⟩ : ∃ z, z = cmpN P Q := ⟨_, rfl⟩
          rw [← hcz] at tc ⊢
          clear hb5 hcz
          by_cases hpq : P < Q
          · rw [decide_eq_true hpq] at tc
            have HS6 := Lib.hid (HSUB.out u5 B4 d4 p4 B2 d2 p2 Q P (by omega) (by omega) HK5.out HJ5.out)
            have HD := Lib.hid (show (x' * m - y' * n) + (y' * n - x' * m) = Q - P by rw [← HPQ.out.1, ← HPQ.out.2]; omega)
            obtain ⟨D, hD⟩ : ∃ D, D = Q - P := ⟨_, rfl⟩
            rw [← hD] at HS6 HD
            have hDle : D ≤ n * m := by omega
            clear hD
            go_wp2_with fail
            (with_reducible refine HS6.out.mono ?_)
            rintro e u6 ⟨B6, d6, p6, rfl, j6, hb6⟩
            have HB6 := Lib.hid (below_next HB5'.out hb6)
            have HJ6 := Lib.hid j6
            have HC7 := Lib.hid (HCMP.out u6 B6 d6 p6 Ab cb lb D (apM a bb n m i k) (by omega) (by omega) j6 (HNB.out.on HB6.out))
            clear j6 hb6
            go_wp2_with fail
            (with_reducible refine HC7.out.mono ?_)
            rintro e u7 ⟨rfl, hb7⟩
            have HB7 := Lib.hid (below_next HB6.out hb7)
            have HJ7 := Lib.hid (HJ6.out.on hb7)
            have td := cmp_gt0 (x := D) (y := apM a bb n m i k)
            obtain ⟨cz2, hcz2⟩ : ∃ z, z = cmpN D (apM a bb n m i k) := ⟨_, rfl⟩
            rw [← hcz2] at td ⊢
            clear hb7 hcz2
            by_cases hbest : apM a bb n m i k < D
            · rw [decide_eq_true hbest] at td
              have HNEW := Lib.hid (show NatR u7 B6 d6 p6 (apM a bb n m i' k') by rw [HCUT.out.2.2.2.2.2.2, HD.out, Nat.max_eq_right (by omega)]; exact HJ7.out)
              clear hbest
              go_wp2
              go_roundw
              case rel => first | exact ⟨i', k', g1, g2, rfl, rfl, x', y', B6, d6, p6, rfl, rfl, rfl, Lib.hid HCUT.out.2.2.2.1, Lib.hid HCUT.out.2.2.2.2.1, HNEW.out, Lib.hid HCUT.out.2.2.2.2.2.1, HNA.out.on HB7.out, HNM2.out.on HB7.out, HST.out.call HB7.out⟩ | ((repeat apply Exists.intro); exact ⟨⟨i', k', g1, g2, rfl, rfl, x', y', B6, d6, p6, rfl, rfl, rfl, Lib.hid HCUT.out.2.2.2.1, Lib.hid HCUT.out.2.2.2.2.1, HNEW.out, Lib.hid HCUT.out.2.2.2.2.2.1, HNA.out.on HB7.out, HNM2.out.on HB7.out, HST.out.call HB7.out⟩, rfl⟩)
              case measure => first | omega | (simp [intOf]; omega)
            · rw [decide_eq_false hbest] at td
              have HNEW := Lib.hid (show NatR u7 Ab cb lb (apM a bb n m i' k') by rw [HCUT.out.2.2.2.2.2.2, HD.out, Nat.max_eq_left (by omega)]; exact HNB.out.on HB7.out)
              clear hbest
              go_wp2
              go_roundw
              case rel => first | exact ⟨i', k', g1, g2, rfl, rfl, x', y', Ab, cb, lb, rfl, rfl, rfl, Lib.hid HCUT.out.2.2.2.1, Lib.hid HCUT.out.2.2.2.2.1, HNEW.out, Lib.hid HCUT.out.2.2.2.2.2.1, HNA.out.on HB7.out, HNM2.out.on HB7.out, HST.out.call HB7.out⟩ | ((repeat apply Exists.intro); exact ⟨⟨i', k', g1, g2, rfl, rfl, x', y', Ab, cb, lb, rfl, rfl, rfl, Lib.hid HCUT.out.2.2.2.1, Lib.hid HCUT.out.2.2.2.2.1, HNEW.out, Lib.hid HCUT.out.2.2.2.2.2.1, HNA.out.on HB7.out, HNM2.out.on HB7.out, HST.out.call HB7.out⟩, rfl⟩)
              case measure => first | omega | (simp [intOf]; omega)
          · rw [decide_eq_false hpq] at tc
            have HS6 := Lib.hid (HSUB.out u5 B2 d2 p2 B4 d4 p4 P Q (by omega) (by omega) HJ5.out HK5.out)
            have HD := Lib.hid (show (x' * m - y' * n) + (y' * n - x' * m) = P - Q by rw [← HPQ.out.1, ← HPQ.out.2]; omega)
            obtain ⟨D, hD⟩ : ∃ D, D = P - Q := ⟨_, rfl⟩
            rw [← hD] at HS6 HD
            have hDle : D ≤ n * m := by omega
            clear hD
            go_wp2_with fail
            (with_reducible refine HS6.out.mono ?_)
            rintro e u6 ⟨B6, d6, p6, rfl, j6, hb6⟩
            have HB6 := Lib.hid (below_next HB5'.out hb6)
            have HJ6 := Lib.hid j6
            have HC7 := Lib.hid (HCMP.out u6 B6 d6 p6 Ab cb lb D (apM a bb n m i k) (by omega) (by omega) j6 (HNB.out.on HB6.out))
            clear j6 hb6
            go_wp2_with fail
            (with_reducible refine HC7.out.mono ?_)
            rintro e u7 ⟨rfl, hb7⟩
            have HB7 := Lib.hid (below_next HB6.out hb7)
            have HJ7 := Lib.hid (HJ6.out.on hb7)
            have td := cmp_gt0 (x := D) (y := apM a bb n m i k)
            obtain ⟨cz2, hcz2⟩ : ∃ z, z = cmpN D (apM a bb n m i k) := ⟨_, rfl⟩
            rw [← hcz2] at td ⊢
            clear hb7 hcz2
            by_cases hbest : apM a bb n m i k < D
            · rw [decide_eq_true hbest] at td
              have HNEW := Lib.hid (show NatR u7 B6 d6 p6 (apM a bb n m i' k') by rw [HCUT.out.2.2.2.2.2.2, HD.out, Nat.max_eq_right (by omega)]; exact HJ7.out)
              clear hbest
              go_wp2
              go_roundw
              case rel => first | exact ⟨i', k', g1, g2, rfl, rfl, x', y', B6, d6, p6, rfl, rfl, rfl, Lib.hid HCUT.out.2.2.2.1, Lib.hid HCUT.out.2.2.2.2.1, HNEW.out, Lib.hid HCUT.out.2.2.2.2.2.1, HNA.out.on HB7.out, HNM2.out.on HB7.out, HST.out.call HB7.out⟩ | ((repeat apply Exists.intro); exact ⟨⟨i', k', g1, g2, rfl, rfl, x', y', B6, d6, p6, rfl, rfl, rfl, Lib.hid HCUT.out.2.2.2.1, Lib.hid HCUT.out.2.2.2.2.1, HNEW.out, Lib.hid HCUT.out.2.2.2.2.2.1, HNA.out.on HB7.out, HNM2.out.on HB7.out, HST.out.call HB7.out⟩, rfl⟩)
              case measure => first | omega | (simp [intOf]; omega)
            · rw [decide_eq_false hbest] at td
              have HNEW := Lib.hid (show NatR u7 Ab cb lb (apM a bb n m i' k') by rw [HCUT.out.2.2.2.2.2.2, HD.out, Nat.max_eq_left (by omega)]; exact HNB.out.on HB7.out)
              clear hbest
              go_wp2
              go_roundw
              case rel => first | exact ⟨i', k', g1, g2, rfl, rfl, x', y', Ab, cb, lb, rfl, rfl, rfl, Lib.hid HCUT.out.2.2.2.1, Lib.hid HCUT.out.2.2.2.2.1, HNEW.out, Lib.hid HCUT.out.2.2.2.2.2.1, HNA.out.on HB7.out, HNM2.out.on HB7.out, HST.out.call HB7.out⟩ | ((repeat apply Exists.intro); exact ⟨⟨i', k', g1, g2, rfl, rfl, x', y', Ab, cb, lb, rfl, rfl, rfl, Lib.hid HCUT.out.2.2.2.1, Lib.hid HCUT.out.2.2.2.2.1, HNEW.out, Lib.hid HCUT.out.2.2.2.2.2.1, HNA.out.on HB7.out, HNM2.out.on HB7.out, HST.out.call HB7.out⟩, rfl⟩)
              case measure => first | omega | (simp [intOf]; omega)
        · have hmn : min X Y = Y := Int.min_eq_right (by omega)
          have q1 : (X == Y) = false := by rw [beq_eq_false_iff_ne]; omega
          go_wp2_with fail
          (with_reducible refine (HBU.out _).mono ?_)
          rintro e u0 ⟨rfl, q0, hq0⟩
          have HBU0 := Lib.hid (show Below wr.heap.size wr u0 by rw [hq0]; exact below_drewN (Below.refl _ _) q0)
          clear hq0
          have e00 : u0.cell? ⟨w.heap.size, 0, none⟩ = some (.int .i64 b1) := (HST.out.call HBU0.out).cell 0 0 rfl rfl
          have e01 : u0.cell? ⟨w.heap.size, 1, none⟩ = some (.slice (some ⟨bkA, oA, none⟩) a.length c1) := (HST.out.call HBU0.out).cell 0 1 rfl rfl
          have e11 : u0.cell? ⟨w.heap.size + 1, 1, none⟩ = some (.slice (some ⟨bkB, oB, none⟩) bb.length c2) := (HST.out.call HBU0.out).cell 1 1 rfl rfl
          have a0 : u0.cell? ⟨bkA, oA + i * 2, none⟩ = some (.int .i64 X) := (HBU0.out.cell (p := ⟨bkA, oA + i * 2, none⟩) hbkA).trans HA0.out
          have a1 : u0.cell? ⟨bkA, oA + i * 2 + 1, none⟩ = some (.int .i64 (M' : Int)) := (HBU0.out.cell (p := ⟨bkA, oA + i * 2 + 1, none⟩) hbkA).trans HA1.out
          have c0 : u0.cell? ⟨bkB, oB + k * 2, none⟩ = some (.int .i64 Y) := (HBU0.out.cell (p := ⟨bkB, oB + k * 2, none⟩) hbkB).trans HB0'.out
          have c1' : u0.cell? ⟨bkB, oB + k * 2 + 1, none⟩ = some (.int .i64 (K' : Int)) := (HBU0.out.cell (p := ⟨bkB, oB + k * 2 + 1, none⟩) hbkB).trans HB1'.out
          clear k00 k01 k11
          have HSK := Lib.hid (show (k : Int) + 1 = ((k + 1 : Nat) : Int) by simp)
          have HSY := Lib.hid (show (y : Int) + (K' : Int) = ((y + K' : Nat) : Int) by simp)
          go_upto_region 22 with fail
          obtain ⟨i', hiq⟩ : ∃ z : Nat, z = i := ⟨_, rfl⟩
          try rw [← hiq]
          rw [HSK.out]
          obtain ⟨k', hkq⟩ : ∃ z : Nat, z = k + 1 := ⟨_, rfl⟩
          rw [← hkq]
          obtain ⟨x', hxq⟩ : ∃ z : Nat, z = x := ⟨_, rfl⟩
          try rw [← hxq]
          rw [HSY.out]
          obtain ⟨y', hyq⟩ : ∃ z : Nat, z = y + K' := ⟨_, rfl⟩
          rw [← hyq]
          have HCUT := Lib.hid (show ApCut a bb n m i k i' k' x' y' by rw [hiq, hkq, hxq, hyq]; exact apcut2 HPB.out HY.out HINV.out (head_lt HPA.out HX.out (by omega)) hi HXI.out HY1.out)
          clear hiq hkq hxq hyq
          have HBC := HBU0
          obtain ⟨g1, g2, g3, g4, g5, -, -⟩ := HCUT.out
          have hti' := HTI.out i' k'
          rw [← g4, ← g5] at hti'
          have hpm : x' * m ≤ n * m := Nat.mul_le_mul (by omega) (Nat.le_refl _)
          have hqm : y' * n ≤ n * m := by rw [Nat.mul_comm n m]; exact Nat.mul_le_mul (by omega) (Nat.le_refl _)
          have hmle := HML.out i k
          clear g4 g5
          have HO1 := Lib.hid (fun W => natOf_any (x' : Int) W (by omega))
          have HO2 := Lib.hid (fun W => natOf_any (y' : Int) W (by omega))
          simp only [Int.toNat_natCast] at HO1 HO2
          go_wp2_with fail
          (with_reducible refine (HO1.out _).mono ?_)
          rintro e u1 ⟨B1, d1, p1, rfl, j1, hb1⟩
          have HB1 := Lib.hid (below_next HBC.out hb1)
          have HM1 := Lib.hid (HMUL.out u1 B1 d1 p1 Am cm lm x' m (by omega) (by omega) j1 (HNM2.out.on HB1.out))
          clear j1 hb1
          go_wp2_with fail
          (with_reducible refine HM1.out.mono ?_)
          rintro e u2 ⟨B2, d2, p2, rfl, j2, hb2'⟩
          have HB2 := Lib.hid (below_next HB1.out hb2')
          have HJ2 := Lib.hid j2
          clear j2 hb2'
          go_wp2_with fail
          (with_reducible refine (HO2.out _).mono ?_)
          rintro e u3 ⟨B3, d3, p3, rfl, j3, hb3⟩
          have HB3 := Lib.hid (below_next HB2.out hb3)
          have HJ3 := Lib.hid (HJ2.out.on hb3)
          have HM3 := Lib.hid (HMUL.out u3 B3 d3 p3 An cn ln y' n (by omega) (by omega) j3 (HNA.out.on HB3.out))
          clear j3 hb3
          go_wp2_with fail
          (with_reducible refine HM3.out.mono ?_)
          rintro e u4 ⟨B4, d4, p4, rfl, j4, hb4⟩
          have HB4 := Lib.hid (below_next HB3.out hb4)
          have HJ4 := Lib.hid (HJ3.out.on hb4)
          have HK4 := Lib.hid j4
          clear j4 hb4
          obtain ⟨P, hP⟩ : ∃ P, P = x' * m := ⟨_, rfl⟩
          obtain ⟨Q, hQ⟩ : ∃ Q, Q = y' * n := ⟨_, rfl⟩
          rw [← hP] at HJ4 hpm
          rw [← hQ] at HK4 hqm
          have HPQ := Lib.hid (And.intro hP hQ)
          clear hP hQ
          have HC5 := Lib.hid (HCMP.out u4 B2 d2 p2 B4 d4 p4 P Q (by omega) (by omega) HJ4.out HK4.out)
          go_wp2_with fail
          (with_reducible refine HC5.out.mono ?_)
          rintro e u5 ⟨rfl, hb5⟩
          have HB5' := Lib.hid (below_next HB4.out hb5)
          have HJ5 := Lib.hid (HJ4.out.on hb5)
          have HK5 := Lib.hid (HK4.out.on hb5)
          have tc := cmp_lt0 (x := P) (y := Q)
          obtain ⟨cz, hcz⟩ : ∃ z, z = cmpN P Q := ⟨_, rfl⟩
          rw [← hcz] at tc ⊢
          clear hb5 hcz
          by_cases hpq : P < Q
          · rw [decide_eq_true hpq] at tc
            have HS6 := Lib.hid (HSUB.out u5 B4 d4 p4 B2 d2 p2 Q P (by omega) (by omega) HK5.out HJ5.out)
            have HD := Lib.hid (show (x' * m - y' * n) + (y' * n - x' * m) = Q - P by rw [← HPQ.out.1, ← HPQ.out.2]; omega)
            obtain ⟨D, hD⟩ : ∃ D, D = Q - P := ⟨_, rfl⟩
            rw [← hD] at HS6 HD
            have hDle : D ≤ n * m := by omega
            clear hD
            go_wp2_with fail
            (with_reducible refine HS6.out.mono ?_)
            rintro e u6 ⟨B6, d6, p6, rfl, j6, hb6⟩
            have HB6 := Lib.hid (below_next HB5'.out hb6)
            have HJ6 := Lib.hid j6
            have HC7 := Lib.hid (HCMP.out u6 B6 d6 p6 Ab cb lb D (apM a bb n m i k) (by omega) (by omega) j6 (HNB.out.on HB6.out))
            clear j6 hb6
            go_wp2_with fail
            (with_reducible refine HC7.out.mono ?_)
            rintro e u7 ⟨rfl, hb7⟩
            have HB7 := Lib.hid (below_next HB6.out hb7)
            have HJ7 := Lib.hid (HJ6.out.on hb7)
            have td := cmp_gt0 (x := D) (y := apM a bb n m i k)
            obtain ⟨cz2, hcz2⟩ : ∃ z, z = cmpN D (apM a bb n m i k) := ⟨_, rfl⟩
            rw [← hcz2] at td ⊢
            clear hb7 hcz2
            by_cases hbest : apM a bb n m i k < D
            · rw [decide_eq_true hbest] at td
              have HNEW := Lib.hid (show NatR u7 B6 d6 p6 (apM a bb n m i' k') by rw [HCUT.out.2.2.2.2.2.2, HD.out, Nat.max_eq_right (by omega)]; exact HJ7.out)
              clear hbest
              go_wp2
              go_roundw
              case rel => first | exact ⟨i', k', g1, g2, rfl, rfl, x', y', B6, d6, p6, rfl, rfl, rfl, Lib.hid HCUT.out.2.2.2.1, Lib.hid HCUT.out.2.2.2.2.1, HNEW.out, Lib.hid HCUT.out.2.2.2.2.2.1, HNA.out.on HB7.out, HNM2.out.on HB7.out, HST.out.call HB7.out⟩ | ((repeat apply Exists.intro); exact ⟨⟨i', k', g1, g2, rfl, rfl, x', y', B6, d6, p6, rfl, rfl, rfl, Lib.hid HCUT.out.2.2.2.1, Lib.hid HCUT.out.2.2.2.2.1, HNEW.out, Lib.hid HCUT.out.2.2.2.2.2.1, HNA.out.on HB7.out, HNM2.out.on HB7.out, HST.out.call HB7.out⟩, rfl⟩)
              case measure => first | omega | (simp [intOf]; omega)
            · rw [decide_eq_false hbest] at td
              have HNEW := Lib.hid (show NatR u7 Ab cb lb (apM a bb n m i' k') by rw [HCUT.out.2.2.2.2.2.2, HD.out, Nat.max_eq_left (by omega)]; exact HNB.out.on HB7.out)
              clear hbest
              go_wp2
              go_roundw
              case rel => first | exact ⟨i', k', g1, g2, rfl, rfl, x', y', Ab, cb, lb, rfl, rfl, rfl, Lib.hid HCUT.out.2.2.2.1, Lib.hid HCUT.out.2.2.2.2.1, HNEW.out, Lib.hid HCUT.out.2.2.2.2.2.1, HNA.out.on HB7.out, HNM2.out.on HB7.out, HST.out.call HB7.out⟩ | ((repeat apply Exists.intro); exact ⟨⟨i', k', g1, g2, rfl, rfl, x', y', Ab, cb, lb, rfl, rfl, rfl, Lib.hid HCUT.out.2.2.2.1, Lib.hid HCUT.out.2.2.2.2.1, HNEW.out, Lib.hid HCUT.out.2.2.2.2.2.1, HNA.out.on HB7.out, HNM2.out.on HB7.out, HST.out.call HB7.out⟩, rfl⟩)
              case measure => first | omega | (simp [intOf]; omega)
          · rw [decide_eq_false hpq] at tc
            have HS6 := Lib.hid (HSUB.out u5 B2 d2 p2 B4 d4 p4 P Q (by omega) (by omega) HJ5.out HK5.out)
            have HD := Lib.hid (show (x' * m - y' * n) + (y' * n - x' * m) = P - Q by rw [← HPQ.out.1, ← HPQ.out.2]; omega)
            obtain ⟨D, hD⟩ : ∃ D, D = P - Q := ⟨_, rfl⟩
            rw [← hD] at HS6 HD
            have hDle : D ≤ n * m := by omega
            clear hD
            go_wp2_with fail
            (with_reducible refine HS6.out.mono ?_)
            rintro e u6 ⟨B6, d6, p6, rfl, j6, hb6⟩
            have HB6 := Lib.hid (below_next HB5'.out hb6)
            have HJ6 := Lib.hid j6
            have HC7 := Lib.hid (HCMP.out u6 B6 d6 p6 Ab cb lb D (apM a bb n m i k) (by omega) (by omega) j6 (HNB.out.on HB6.out))
            clear j6 hb6
            go_wp2_with fail
            (with_reducible refine HC7.out.mono ?_)
            rintro e u7 ⟨rfl, hb7⟩
            have HB7 := Lib.hid (below_next HB6.out hb7)
            have HJ7 := Lib.hid (HJ6.out.on hb7)
            have td := cmp_gt0 (x := D) (y := apM a bb n m i k)
            obtain ⟨cz2, hcz2⟩ : ∃ z, z = cmpN D (apM a bb n m i k) := ⟨_, rfl⟩
            rw [← hcz2] at td ⊢
            clear hb7 hcz2
            by_cases hbest : apM a bb n m i k < D
            · rw [decide_eq_true hbest] at td
              have HNEW := Lib.hid (show NatR u7 B6 d6 p6 (apM a bb n m i' k') by rw [HCUT.out.2.2.2.2.2.2, HD.out, Nat.max_eq_right (by omega)]; exact HJ7.out)
              clear hbest
              go_wp2
              go_roundw
              case rel => first | exact ⟨i', k', g1, g2, rfl, rfl, x', y', B6, d6, p6, rfl, rfl, rfl, Lib.hid HCUT.out.2.2.2.1, Lib.hid HCUT.out.2.2.2.2.1, HNEW.out, Lib.hid HCUT.out.2.2.2.2.2.1, HNA.out.on HB7.out, HNM2.out.on HB7.out, HST.out.call HB7.out⟩ | ((repeat apply Exists.intro); exact ⟨⟨i', k', g1, g2, rfl, rfl, x', y', B6, d6, p6, rfl, rfl, rfl, Lib.hid HCUT.out.2.2.2.1, Lib.hid HCUT.out.2.2.2.2.1, HNEW.out, Lib.hid HCUT.out.2.2.2.2.2.1, HNA.out.on HB7.out, HNM2.out.on HB7.out, HST.out.call HB7.out⟩, rfl⟩)
              case measure => first | omega | (simp [intOf]; omega)
            · rw [decide_eq_false hbest] at td
              have HNEW := Lib.hid (show NatR u7 Ab cb lb (apM a bb n m i' k') by rw [HCUT.out.2.2.2.2.2.2, HD.out, Nat.max_eq_left (by omega)]; exact HNB.out.on HB7.out)
              clear hbest
              go_wp2
              go_roundw
              case rel => first | exact ⟨i', k', g1, g2, rfl, rfl, x', y', Ab, cb, lb, rfl, rfl, rfl, Lib.hid HCUT.out.2.2.2.1, Lib.hid HCUT.out.2.2.2.2.1, HNEW.out, Lib.hid HCUT.out.2.2.2.2.2.1, HNA.out.on HB7.out, HNM2.out.on HB7.out, HST.out.call HB7.out⟩ | ((repeat apply Exists.intro); exact ⟨⟨i', k', g1, g2, rfl, rfl, x', y', Ab, cb, lb, rfl, rfl, rfl, Lib.hid HCUT.out.2.2.2.1, Lib.hid HCUT.out.2.2.2.2.1, HNEW.out, Lib.hid HCUT.out.2.2.2.2.2.1, HNA.out.on HB7.out, HNM2.out.on HB7.out, HST.out.call HB7.out⟩, rfl⟩)
              case measure => first | omega | (simp [intOf]; omega)
      · have d3 : decide ((k : Int) < (bb.length : Int)) = false := decide_eq_false (by omega)
        have d4 : decide (k < bb.length) = false := decide_eq_false (by omega)
        go_wp2_with fail
        (with_reducible refine (HBU.out _).mono ?_)
        rintro e u0 ⟨rfl, q0, hq0⟩
        have HBU0 := Lib.hid (show Below wr.heap.size wr u0 by rw [hq0]; exact below_drewN (Below.refl _ _) q0)
        clear hq0
        have e00 : u0.cell? ⟨w.heap.size, 0, none⟩ = some (.int .i64 b1) := (HST.out.call HBU0.out).cell 0 0 rfl rfl
        have e01 : u0.cell? ⟨w.heap.size, 1, none⟩ = some (.slice (some ⟨bkA, oA, none⟩) a.length c1) := (HST.out.call HBU0.out).cell 0 1 rfl rfl
        have e11 : u0.cell? ⟨w.heap.size + 1, 1, none⟩ = some (.slice A2 bb.length c2) := (HST.out.call HBU0.out).cell 1 1 rfl rfl
        have a0 : u0.cell? ⟨bkA, oA + i * 2, none⟩ = some (.int .i64 X) := (HBU0.out.cell (p := ⟨bkA, oA + i * 2, none⟩) hbkA).trans HA0.out
        have a1 : u0.cell? ⟨bkA, oA + i * 2 + 1, none⟩ = some (.int .i64 (M' : Int)) := (HBU0.out.cell (p := ⟨bkA, oA + i * 2 + 1, none⟩) hbkA).trans HA1.out
        clear HBU
        clear k00 k01 k11
        have HSI := Lib.hid (show (i : Int) + 1 = ((i + 1 : Nat) : Int) by simp)
        have HSX := Lib.hid (show (x : Int) + (M' : Int) = ((x + M' : Nat) : Int) by simp)
        go_upto_region 22 with fail
        rw [HSI.out]
        obtain ⟨i', hiq⟩ : ∃ z : Nat, z = i + 1 := ⟨_, rfl⟩
        rw [← hiq]
        obtain ⟨k', hkq⟩ : ∃ z : Nat, z = k := ⟨_, rfl⟩
        try rw [← hkq]
        rw [HSX.out]
        obtain ⟨x', hxq⟩ : ∃ z : Nat, z = x + M' := ⟨_, rfl⟩
        rw [← hxq]
        obtain ⟨y', hyq⟩ : ∃ z : Nat, z = y := ⟨_, rfl⟩
        try rw [← hyq]
        have HCUT := Lib.hid (show ApCut a bb n m i k i' k' x' y' by rw [hiq, hkq, hxq, hyq]; exact apcut1 HPA.out HX.out HINV.out (by rw [List.drop_eq_nil_of_le (by omega)]; intro d hd; cases hd) hk HX1.out HYK.out)
        clear hiq hkq hxq hyq
        have HBC := HBU0
        obtain ⟨g1, g2, g3, g4, g5, -, -⟩ := HCUT.out
        have hti' := HTI.out i' k'
        rw [← g4, ← g5] at hti'
        have hpm : x' * m ≤ n * m := Nat.mul_le_mul (by omega) (Nat.le_refl _)
        have hqm : y' * n ≤ n * m := by rw [Nat.mul_comm n m]; exact Nat.mul_le_mul (by omega) (Nat.le_refl _)
        have hmle := HML.out i k
        clear g4 g5
        have HO1 := Lib.hid (fun W => natOf_any (x' : Int) W (by omega))
        have HO2 := Lib.hid (fun W => natOf_any (y' : Int) W (by omega))
        simp only [Int.toNat_natCast] at HO1 HO2
        go_wp2_with fail
        (with_reducible refine (HO1.out _).mono ?_)
        rintro e u1 ⟨B1, d1, p1, rfl, j1, hb1⟩
        have HB1 := Lib.hid (below_next HBC.out hb1)
        have HM1 := Lib.hid (HMUL.out u1 B1 d1 p1 Am cm lm x' m (by omega) (by omega) j1 (HNM2.out.on HB1.out))
        clear j1 hb1
        go_wp2_with fail
        (with_reducible refine HM1.out.mono ?_)
        rintro e u2 ⟨B2, d2, p2, rfl, j2, hb2'⟩
        have HB2 := Lib.hid (below_next HB1.out hb2')
        have HJ2 := Lib.hid j2
        clear j2 hb2'
        go_wp2_with fail
        (with_reducible refine (HO2.out _).mono ?_)
        rintro e u3 ⟨B3, d3, p3, rfl, j3, hb3⟩
        have HB3 := Lib.hid (below_next HB2.out hb3)
        have HJ3 := Lib.hid (HJ2.out.on hb3)
        have HM3 := Lib.hid (HMUL.out u3 B3 d3 p3 An cn ln y' n (by omega) (by omega) j3 (HNA.out.on HB3.out))
        clear j3 hb3
        go_wp2_with fail
        (with_reducible refine HM3.out.mono ?_)
        rintro e u4 ⟨B4, d4, p4, rfl, j4, hb4⟩
        have HB4 := Lib.hid (below_next HB3.out hb4)
        have HJ4 := Lib.hid (HJ3.out.on hb4)
        have HK4 := Lib.hid j4
        clear j4 hb4
        obtain ⟨P, hP⟩ : ∃ P, P = x' * m := ⟨_, rfl⟩
        obtain ⟨Q, hQ⟩ : ∃ Q, Q = y' * n := ⟨_, rfl⟩
        rw [← hP] at HJ4 hpm
        rw [← hQ] at HK4 hqm
        have HPQ := Lib.hid (And.intro hP hQ)
        clear hP hQ
        have HC5 := Lib.hid (HCMP.out u4 B2 d2 p2 B4 d4 p4 P Q (by omega) (by omega) HJ4.out HK4.out)
        go_wp2_with fail
        (with_reducible refine HC5.out.mono ?_)
        rintro e u5 ⟨rfl, hb5⟩
        have HB5' := Lib.hid (below_next HB4.out hb5)
        have HJ5 := Lib.hid (HJ4.out.on hb5)
        have HK5 := Lib.hid (HK4.out.on hb5)
        have tc := cmp_lt0 (x := P) (y := Q)
        obtain ⟨cz, hcz⟩ : ∃ z, z = cmpN P Q := ⟨_, rfl⟩
        rw [← hcz] at tc ⊢
        clear hb5 hcz
        by_cases hpq : P < Q
        · rw [decide_eq_true hpq] at tc
          have HS6 := Lib.hid (HSUB.out u5 B4 d4 p4 B2 d2 p2 Q P (by omega) (by omega) HK5.out HJ5.out)
          have HD := Lib.hid (show (x' * m - y' * n) + (y' * n - x' * m) = Q - P by rw [← HPQ.out.1, ← HPQ.out.2]; omega)
          obtain ⟨D, hD⟩ : ∃ D, D = Q - P := ⟨_, rfl⟩
          rw [← hD] at HS6 HD
          have hDle : D ≤ n * m := by omega
          clear hD
          go_wp2_with fail
          (with_reducible refine HS6.out.mono ?_)
          rintro e u6 ⟨B6, d6, p6, rfl, j6, hb6⟩
          have HB6 := Lib.hid (below_next HB5'.out hb6)
          have HJ6 := Lib.hid j6
          have HC7 := Lib.hid (HCMP.out u6 B6 d6 p6 Ab cb lb D (apM a bb n m i k) (by omega) (by omega) j6 (HNB.out.on HB6.out))
          clear j6 hb6
          go_wp2_with fail
          (with_reducible refine HC7.out.mono ?_)
          rintro e u7 ⟨rfl, hb7⟩
          have HB7 := Lib.hid (below_next HB6.out hb7)
          have HJ7 := Lib.hid (HJ6.out.on hb7)
          have td := cmp_gt0 (x := D) (y := apM a bb n m i k)
          obtain ⟨cz2, hcz2⟩ : ∃ z, z = cmpN D (apM a bb n m i k) := ⟨_, rfl⟩
          rw [← hcz2] at td ⊢
          clear hb7 hcz2
          by_cases hbest : apM a bb n m i k < D
          · rw [decide_eq_true hbest] at td
            have HNEW := Lib.hid (show NatR u7 B6 d6 p6 (apM a bb n m i' k') by rw [HCUT.out.2.2.2.2.2.2, HD.out, Nat.max_eq_right (by omega)]; exact HJ7.out)
            clear hbest
            go_wp2
            go_roundw
            case rel => first | exact ⟨i', k', g1, g2, rfl, rfl, x', y', B6, d6, p6, rfl, rfl, rfl, Lib.hid HCUT.out.2.2.2.1, Lib.hid HCUT.out.2.2.2.2.1, HNEW.out, Lib.hid HCUT.out.2.2.2.2.2.1, HNA.out.on HB7.out, HNM2.out.on HB7.out, HST.out.call HB7.out⟩ | ((repeat apply Exists.intro); exact ⟨⟨i', k', g1, g2, rfl, rfl, x', y', B6, d6, p6, rfl, rfl, rfl, Lib.hid HCUT.out.2.2.2.1, Lib.hid HCUT.out.2.2.2.2.1, HNEW.out, Lib.hid HCUT.out.2.2.2.2.2.1, HNA.out.on HB7.out, HNM2.out.on HB7.out, HST.out.call HB7.out⟩, rfl⟩)
            case measure => first | omega | (simp [intOf]; omega)
          · rw [decide_eq_false hbest] at td
            have HNEW := Lib.hid (show NatR u7 Ab cb lb (apM a bb n m i' k') by rw [HCUT.out.2.2.2.2.2.2, HD.out, Nat.max_eq_left (by omega)]; exact HNB.out.on HB7.out)
            clear hbest
            go_wp2
            go_roundw
            case rel => first | exact ⟨i', k', g1, g2, rfl, rfl, x', y', Ab, cb, lb, rfl, rfl, rfl, Lib.hid HCUT.out.2.2.2.1, Lib.hid HCUT.out.2.2.2.2.1, HNEW.out, Lib.hid HCUT.out.2.2.2.2.2.1, HNA.out.on HB7.out, HNM2.out.on HB7.out, HST.out.call HB7.out⟩ | ((repeat apply Exists.intro); exact ⟨⟨i', k', g1, g2, rfl, rfl, x', y', Ab, cb, lb, rfl, rfl, rfl, Lib.hid HCUT.out.2.2.2.1, Lib.hid HCUT.out.2.2.2.2.1, HNEW.out, Lib.hid HCUT.out.2.2.2.2.2.1, HNA.out.on HB7.out, HNM2.out.on HB7.out, HST.out.call HB7.out⟩, rfl⟩)
            case measure => first | omega | (simp [intOf]; omega)
        · rw [decide_eq_false hpq] at tc
          have HS6 := Lib.hid (HSUB.out u5 B2 d2 p2 B4 d4 p4 P Q (by omega) (by omega) HJ5.out HK5.out)
          have HD := Lib.hid (show (x' * m - y' * n) + (y' * n - x' * m) = P - Q by rw [← HPQ.out.1, ← HPQ.out.2]; omega)
          obtain ⟨D, hD⟩ : ∃ D, D = P - Q := ⟨_, rfl⟩
          rw [← hD] at HS6 HD
          have hDle : D ≤ n * m := by omega
          clear hD
          go_wp2_with fail
          (with_reducible refine HS6.out.mono ?_)
          rintro e u6 ⟨B6, d6, p6, rfl, j6, hb6⟩
          have HB6 := Lib.hid (below_next HB5'.out hb6)
          have HJ6 := Lib.hid j6
          have HC7 := Lib.hid (HCMP.out u6 B6 d6 p6 Ab cb lb D (apM a bb n m i k) (by omega) (by omega) j6 (HNB.out.on HB6.out))
          clear j6 hb6
          go_wp2_with fail
          (with_reducible refine HC7.out.mono ?_)
          rintro e u7 ⟨rfl, hb7⟩
          have HB7 := Lib.hid (below_next HB6.out hb7)
          have HJ7 := Lib.hid (HJ6.out.on hb7)
          have td := cmp_gt0 (x := D) (y := apM a bb n m i k)
          obtain ⟨cz2, hcz2⟩ : ∃ z, z = cmpN D (apM a bb n m i k) := ⟨_, rfl⟩
          rw [← hcz2] at td ⊢
          clear hb7 hcz2
          by_cases hbest : apM a bb n m i k < D
          · rw [decide_eq_true hbest] at td
            have HNEW := Lib.hid (show NatR u7 B6 d6 p6 (apM a bb n m i' k') by rw [HCUT.out.2.2.2.2.2.2, HD.out, Nat.max_eq_right (by omega)]; exact HJ7.out)
            clear hbest
            go_wp2
            go_roundw
            case rel => first | exact ⟨i', k', g1, g2, rfl, rfl, x', y', B6, d6, p6, rfl, rfl, rfl, Lib.hid HCUT.out.2.2.2.1, Lib.hid HCUT.out.2.2.2.2.1, HNEW.out, Lib.hid HCUT.out.2.2.2.2.2.1, HNA.out.on HB7.out, HNM2.out.on HB7.out, HST.out.call HB7.out⟩ | ((repeat apply Exists.intro); exact ⟨⟨i', k', g1, g2, rfl, rfl, x', y', B6, d6, p6, rfl, rfl, rfl, Lib.hid HCUT.out.2.2.2.1, Lib.hid HCUT.out.2.2.2.2.1, HNEW.out, Lib.hid HCUT.out.2.2.2.2.2.1, HNA.out.on HB7.out, HNM2.out.on HB7.out, HST.out.call HB7.out⟩, rfl⟩)
            case measure => first | omega | (simp [intOf]; omega)
          · rw [decide_eq_false hbest] at td
            have HNEW := Lib.hid (show NatR u7 Ab cb lb (apM a bb n m i' k') by rw [HCUT.out.2.2.2.2.2.2, HD.out, Nat.max_eq_left (by omega)]; exact HNB.out.on HB7.out)
            clear hbest
            go_wp2
            go_roundw
            case rel => first | exact ⟨i', k', g1, g2, rfl, rfl, x', y', Ab, cb, lb, rfl, rfl, rfl, Lib.hid HCUT.out.2.2.2.1, Lib.hid HCUT.out.2.2.2.2.1, HNEW.out, Lib.hid HCUT.out.2.2.2.2.2.1, HNA.out.on HB7.out, HNM2.out.on HB7.out, HST.out.call HB7.out⟩ | ((repeat apply Exists.intro); exact ⟨⟨i', k', g1, g2, rfl, rfl, x', y', Ab, cb, lb, rfl, rfl, rfl, Lib.hid HCUT.out.2.2.2.1, Lib.hid HCUT.out.2.2.2.2.1, HNEW.out, Lib.hid HCUT.out.2.2.2.2.2.1, HNA.out.on HB7.out, HNM2.out.on HB7.out, HST.out.call HB7.out⟩, rfl⟩)
            case measure => first | omega | (simp [intOf]; omega)
    · have d1 : decide ((i : Int) < (a.length : Int)) = false := decide_eq_false (by omega)
      have d2 : decide (i < a.length) = false := decide_eq_false hlt
      by_cases hlk : k < bb.length
      · obtain ⟨bkB, oB, Y, K, hB, _, hbkB0, hy, c0', c1''⟩ := (HRB.out.below hbw (Nat.le_refl _)).at2 hlk
        subst hB
        have hbkB : bkB < wr.heap.size := by have := hbw.size; omega
        have HB0' := Lib.hid c0'
        have HB1' := Lib.hid c1''
        have HY := Lib.hid hy
        have hKd := HCB.out (Y, K) (List.mem_of_getElem? hy)
        simp only at hKd
        have hYK1 := tot_take bb k Y K hy
        have hti3 := HTI.out (i + 1) (k + 1)
        have hkI : (k : Int) < (bb.length : Int) := by omega
        have d3 : decide ((k : Int) < (bb.length : Int)) = true := decide_eq_true hkI
        have d4 : decide (k < bb.length) = true := decide_eq_true hlk
        obtain ⟨K', rfl⟩ : ∃ K' : Nat, K = K' := ⟨K.toNat, by omega⟩
        have HY1 := Lib.hid (show ((y + K' : Nat) : Int) = tot (bb.take (k + 1)) by rw [hYK1, ← HYK.out]; simp)
        have hyk : (y : Int) + (K' : Int) ≤ m := by have := HY1.out; omega
        have HYM := Lib.hid (HXB.out k Y K' hy)
        clear c0' c1'' hy hYK1 hti3
        have hmn : min mxb Y = Y := Int.min_eq_right HYM.out
        go_wp2_with fail
        (with_reducible refine (HBU.out _).mono ?_)
        rintro e u0 ⟨rfl, q0, hq0⟩
        have HBU0 := Lib.hid (show Below wr.heap.size wr u0 by rw [hq0]; exact below_drewN (Below.refl _ _) q0)
        clear hq0
        have e00 : u0.cell? ⟨w.heap.size, 0, none⟩ = some (.int .i64 b1) := (HST.out.call HBU0.out).cell 0 0 rfl rfl
        have e01 : u0.cell? ⟨w.heap.size, 1, none⟩ = some (.slice A1 a.length c1) := (HST.out.call HBU0.out).cell 0 1 rfl rfl
        have e11 : u0.cell? ⟨w.heap.size + 1, 1, none⟩ = some (.slice (some ⟨bkB, oB, none⟩) bb.length c2) := (HST.out.call HBU0.out).cell 1 1 rfl rfl
        have c0 : u0.cell? ⟨bkB, oB + k * 2, none⟩ = some (.int .i64 Y) := (HBU0.out.cell (p := ⟨bkB, oB + k * 2, none⟩) hbkB).trans HB0'.out
        have c1' : u0.cell? ⟨bkB, oB + k * 2 + 1, none⟩ = some (.int .i64 (K' : Int)) := (HBU0.out.cell (p := ⟨bkB, oB + k * 2 + 1, none⟩) hbkB).trans HB1'.out
        clear k00 k01 k11
        have HSK := Lib.hid (show (k : Int) + 1 = ((k + 1 : Nat) : Int) by simp)
        have HSY := Lib.hid (show (y : Int) + (K' : Int) = ((y + K' : Nat) : Int) by simp)
        go_upto_region 22 with fail
        obtain ⟨i', hiq⟩ : ∃ z : Nat, z = i := ⟨_, rfl⟩
        try rw [← hiq]
        rw [HSK.out]
        obtain ⟨k', hkq⟩ : ∃ z : Nat, z = k + 1 := ⟨_, rfl⟩
        rw [← hkq]
        obtain ⟨x', hxq⟩ : ∃ z : Nat, z = x := ⟨_, rfl⟩
        try rw [← hxq]
        rw [HSY.out]
        obtain ⟨y', hyq⟩ : ∃ z : Nat, z = y + K' := ⟨_, rfl⟩
        rw [← hyq]
        have HCUT := Lib.hid (show ApCut a bb n m i k i' k' x' y' by rw [hiq, hkq, hxq, hyq]; exact apcut2 HPB.out HY.out HINV.out (by rw [List.drop_eq_nil_of_le (by omega)]; intro d hd; cases hd) hi HXI.out HY1.out)
        clear hiq hkq hxq hyq
        have HBC := HBU0
        obtain ⟨g1, g2, g3, g4, g5, -, -⟩ := HCUT.out
        have hti' := HTI.out i' k'
        rw [← g4, ← g5] at hti'
        have hpm : x' * m ≤ n * m := Nat.mul_le_mul (by omega) (Nat.le_refl _)
        have hqm : y' * n ≤ n * m := by rw [Nat.mul_comm n m]; exact Nat.mul_le_mul (by omega) (Nat.le_refl _)
        have hmle := HML.out i k
        clear g4 g5
        have HO1 := Lib.hid (fun W => natOf_any (x' : Int) W (by omega))
        have HO2 := Lib.hid (fun W => natOf_any (y' : Int) W (by omega))
        simp only [Int.toNat_natCast] at HO1 HO2
        go_wp2_with fail
        (with_reducible refine (HO1.out _).mono ?_)
        rintro e u1 ⟨B1, d1, p1, rfl, j1, hb1⟩
        have HB1 := Lib.hid (below_next HBC.out hb1)
        have HM1 := Lib.hid (HMUL.out u1 B1 d1 p1 Am cm lm x' m (by omega) (by omega) j1 (HNM2.out.on HB1.out))
        clear j1 hb1
        go_wp2_with fail
        (with_reducible refine HM1.out.mono ?_)
        rintro e u2 ⟨B2, d2, p2, rfl, j2, hb2'⟩
        have HB2 := Lib.hid (below_next HB1.out hb2')
        have HJ2 := Lib.hid j2
        clear j2 hb2'
        go_wp2_with fail
        (with_reducible refine (HO2.out _).mono ?_)
        rintro e u3 ⟨B3, d3, p3, rfl, j3, hb3⟩
        have HB3 := Lib.hid (below_next HB2.out hb3)
        have HJ3 := Lib.hid (HJ2.out.on hb3)
        have HM3 := Lib.hid (HMUL.out u3 B3 d3 p3 An cn ln y' n (by omega) (by omega) j3 (HNA.out.on HB3.out))
        clear j3 hb3
        go_wp2_with fail
        (with_reducible refine HM3.out.mono ?_)
        rintro e u4 ⟨B4, d4, p4, rfl, j4, hb4⟩
        have HB4 := Lib.hid (below_next HB3.out hb4)
        have HJ4 := Lib.hid (HJ3.out.on hb4)
        have HK4 := Lib.hid j4
        clear j4 hb4
        obtain ⟨P, hP⟩ : ∃ P, P = x' * m := ⟨_, rfl⟩
        obtain ⟨Q, hQ⟩ : ∃ Q, Q = y' * n := ⟨_, rfl⟩
        rw [← hP] at HJ4 hpm
        rw [← hQ] at HK4 hqm
        have HPQ := Lib.hid (And.intro hP hQ)
        clear hP hQ
        have HC5 := Lib.hid (HCMP.out u4 B2 d2 p2 B4 d4 p4 P Q (by omega) (by omega) HJ4.out HK4.out)
        go_wp2_with fail
        (with_reducible refine HC5.out.mono ?_)
        rintro e u5 ⟨rfl, hb5⟩
        have HB5' := Lib.hid (below_next HB4.out hb5)
        have HJ5 := Lib.hid (HJ4.out.on hb5)
        have HK5 := Lib.hid (HK4.out.on hb5)
        have tc := cmp_lt0 (x := P) (y := Q)
        obtain ⟨cz, hcz⟩ : ∃ z, z = cmpN P Q := ⟨_, rfl⟩
        rw [← hcz] at tc ⊢
        clear hb5 hcz
        by_cases hpq : P < Q
        · rw [decide_eq_true hpq] at tc
          have HS6 := Lib.hid (HSUB.out u5 B4 d4 p4 B2 d2 p2 Q P (by omega) (by omega) HK5.out HJ5.out)
          have HD := Lib.hid (show (x' * m - y' * n) + (y' * n - x' * m) = Q - P by rw [← HPQ.out.1, ← HPQ.out.2]; omega)
          obtain ⟨D, hD⟩ : ∃ D, D = Q - P := ⟨_, rfl⟩
          rw [← hD] at HS6 HD
          have hDle : D ≤ n * m := by omega
          clear hD
          go_wp2_with fail
          (with_reducible refine HS6.out.mono ?_)
          rintro e u6 ⟨B6, d6, p6, rfl, j6, hb6⟩
          have HB6 := Lib.hid (below_next HB5'.out hb6)
          have HJ6 := Lib.hid j6
          have HC7 := Lib.hid (HCMP.out u6 B6 d6 p6 Ab cb lb D (apM a bb n m i k) (by omega) (by omega) j6 (HNB.out.on HB6.out))
          clear j6 hb6
          go_wp2_with fail
          (with_reducible refine HC7.out.mono ?_)
          rintro e u7 ⟨rfl, hb7⟩
          have HB7 := Lib.hid (below_next HB6.out hb7)
          have HJ7 := Lib.hid (HJ6.out.on hb7)
          have td := cmp_gt0 (x := D) (y := apM a bb n m i k)
          obtain ⟨cz2, hcz2⟩ : ∃ z, z = cmpN D (apM a bb n m i k) := ⟨_, rfl⟩
          rw [← hcz2] at td ⊢
          clear hb7 hcz2
          by_cases hbest : apM a bb n m i k < D
          · rw [decide_eq_true hbest] at td
            have HNEW := Lib.hid (show NatR u7 B6 d6 p6 (apM a bb n m i' k') by rw [HCUT.out.2.2.2.2.2.2, HD.out, Nat.max_eq_right (by omega)]; exact HJ7.out)
            clear hbest
            go_wp2
            go_roundw
            case rel => first | exact ⟨i', k', g1, g2, rfl, rfl, x', y', B6, d6, p6, rfl, rfl, rfl, Lib.hid HCUT.out.2.2.2.1, Lib.hid HCUT.out.2.2.2.2.1, HNEW.out, Lib.hid HCUT.out.2.2.2.2.2.1, HNA.out.on HB7.out, HNM2.out.on HB7.out, HST.out.call HB7.out⟩ | ((repeat apply Exists.intro); exact ⟨⟨i', k', g1, g2, rfl, rfl, x', y', B6, d6, p6, rfl, rfl, rfl, Lib.hid HCUT.out.2.2.2.1, Lib.hid HCUT.out.2.2.2.2.1, HNEW.out, Lib.hid HCUT.out.2.2.2.2.2.1, HNA.out.on HB7.out, HNM2.out.on HB7.out, HST.out.call HB7.out⟩, rfl⟩)
            case measure => first | omega | (simp [intOf]; omega)
          · rw [decide_eq_false hbest] at td
            have HNEW := Lib.hid (show NatR u7 Ab cb lb (apM a bb n m i' k') by rw [HCUT.out.2.2.2.2.2.2, HD.out, Nat.max_eq_left (by omega)]; exact HNB.out.on HB7.out)
            clear hbest
            go_wp2
            go_roundw
            case rel => first | exact ⟨i', k', g1, g2, rfl, rfl, x', y', Ab, cb, lb, rfl, rfl, rfl, Lib.hid HCUT.out.2.2.2.1, Lib.hid HCUT.out.2.2.2.2.1, HNEW.out, Lib.hid HCUT.out.2.2.2.2.2.1, HNA.out.on HB7.out, HNM2.out.on HB7.out, HST.out.call HB7.out⟩ | ((repeat apply Exists.intro); exact ⟨⟨i', k', g1, g2, rfl, rfl, x', y', Ab, cb, lb, rfl, rfl, rfl, Lib.hid HCUT.out.2.2.2.1, Lib.hid HCUT.out.2.2.2.2.1, HNEW.out, Lib.hid HCUT.out.2.2.2.2.2.1, HNA.out.on HB7.out, HNM2.out.on HB7.out, HST.out.call HB7.out⟩, rfl⟩)
            case measure => first | omega | (simp [intOf]; omega)
        · rw [decide_eq_false hpq] at tc
          have HS6 := Lib.hid (HSUB.out u5 B2 d2 p2 B4 d4 p4 P Q (by omega) (by omega) HJ5.out HK5.out)
          have HD := Lib.hid (show (x' * m - y' * n) + (y' * n - x' * m) = P - Q by rw [← HPQ.out.1, ← HPQ.out.2]; omega)
          obtain ⟨D, hD⟩ : ∃ D, D = P - Q := ⟨_, rfl⟩
          rw [← hD] at HS6 HD
          have hDle : D ≤ n * m := by omega
          clear hD
          go_wp2_with fail
          (with_reducible refine HS6.out.mono ?_)
          rintro e u6 ⟨B6, d6, p6, rfl, j6, hb6⟩
          have HB6 := Lib.hid (below_next HB5'.out hb6)
          have HJ6 := Lib.hid j6
          have HC7 := Lib.hid (HCMP.out u6 B6 d6 p6 Ab cb lb D (apM a bb n m i k) (by omega) (by omega) j6 (HNB.out.on HB6.out))
          clear j6 hb6
          go_wp2_with fail
          (with_reducible refine HC7.out.mono ?_)
          rintro e u7 ⟨rfl, hb7⟩
          have HB7 := Lib.hid (below_next HB6.out hb7)
          have HJ7 := Lib.hid (HJ6.out.on hb7)
          have td := cmp_gt0 (x := D) (y := apM a bb n m i k)
          obtain ⟨cz2, hcz2⟩ : ∃ z, z = cmpN D (apM a bb n m i k) := ⟨_, rfl⟩
          rw [← hcz2] at td ⊢
          clear hb7 hcz2
          by_cases hbest : apM a bb n m i k < D
          · rw [decide_eq_true hbest] at td
            have HNEW := Lib.hid (show NatR u7 B6 d6 p6 (apM a bb n m i' k') by rw [HCUT.out.2.2.2.2.2.2, HD.out, Nat.max_eq_right (by omega)]; exact HJ7.out)
            clear hbest
            go_wp2
            go_roundw
            case rel => first | exact ⟨i', k', g1, g2, rfl, rfl, x', y', B6, d6, p6, rfl, rfl, rfl, Lib.hid HCUT.out.2.2.2.1, Lib.hid HCUT.out.2.2.2.2.1, HNEW.out, Lib.hid HCUT.out.2.2.2.2.2.1, HNA.out.on HB7.out, HNM2.out.on HB7.out, HST.out.call HB7.out⟩ | ((repeat apply Exists.intro); exact ⟨⟨i', k', g1, g2, rfl, rfl, x', y', B6, d6, p6, rfl, rfl, rfl, Lib.hid HCUT.out.2.2.2.1, Lib.hid HCUT.out.2.2.2.2.1, HNEW.out, Lib.hid HCUT.out.2.2.2.2.2.1, HNA.out.on HB7.out, HNM2.out.on HB7.out, HST.out.call HB7.out⟩, rfl⟩)
            case measure => first | omega | (simp [intOf]; omega)
          · rw [decide_eq_false hbest] at td
            have HNEW := Lib.hid (show NatR u7 Ab cb lb (apM a bb n m i' k') by rw [HCUT.out.2.2.2.2.2.2, HD.out, Nat.max_eq_left (by omega)]; exact HNB.out.on HB7.out)
            clear hbest
            go_wp2
            go_roundw
            case rel => first | exact ⟨i', k', g1, g2, rfl, rfl, x', y', Ab, cb, lb, rfl, rfl, rfl, Lib.hid HCUT.out.2.2.2.1, Lib.hid HCUT.out.2.2.2.2.1, HNEW.out, Lib.hid HCUT.out.2.2.2.2.2.1, HNA.out.on HB7.out, HNM2.out.on HB7.out, HST.out.call HB7.out⟩ | ((repeat apply Exists.intro); exact ⟨⟨i', k', g1, g2, rfl, rfl, x', y', Ab, cb, lb, rfl, rfl, rfl, Lib.hid HCUT.out.2.2.2.1, Lib.hid HCUT.out.2.2.2.2.1, HNEW.out, Lib.hid HCUT.out.2.2.2.2.2.1, HNA.out.on HB7.out, HNM2.out.on HB7.out, HST.out.call HB7.out⟩, rfl⟩)
            case measure => first | omega | (simp [intOf]; omega)
      · have d3 : decide ((k : Int) < (bb.length : Int)) = false := decide_eq_false (by omega)
        have d4 : decide (k < bb.length) = false := decide_eq_false hlk
        obtain rfl : i = a.length := by omega
        obtain rfl : k = bb.length := by omega
        have hmle := HML.out a.length bb.length
        obtain ⟨best, hbest⟩ : ∃ z, z = apM a bb n m a.length bb.length := ⟨_, rfl⟩
        rw [← hbest] at HNB HV hmle
        have HM1 := Lib.hid (HMUL.out wr An cn ln Am cm lm n m (by omega) (by omega) HNA.out HNM2.out)
        clear hbest
        go_wp2_with fail
        (with_reducible refine HM1.out.mono ?_)
        rintro e u1 ⟨B1, d1', p1, rfl, j1, hb1⟩
        have HST6 := Lib.hid (HST.out.call hb1)
        have hlb := natLen HNB.out (by omega)
        have hlp := natLen j1 (by omega)
        have HR1 := Lib.hid (mRatio_any Ab B1 cb d1' lb p1 best (n * m) u1 (HNB.out.on hb1) j1 (by omega) (by omega) (by omega) (HTT.out u1 HST6.out.below))
        clear j1 hb1 k00 k01 k11
        go_wp2_with fail
        (with_reducible refine HR1.out.mono ?_)
        rintro e u2 ⟨rfl, hb2'⟩
        have hST7 := HST6.out.call hb2'
        obtain ⟨p1', hp1⟩ : ∃ s : ByteArray, s = ⟨(ratS best (n * m)).1.toArray⟩ := ⟨_, rfl⟩
        obtain ⟨p2', hp2⟩ : ∃ s : ByteArray, s = ⟨(ratS best (n * m)).2.toArray⟩ := ⟨_, rfl⟩
        unfold ratV ratOf at HV ⊢
        rw [← hp1, ← hp2] at HV ⊢
        have r0 := hST7.cell 2 0 rfl rfl
        have r1 := hST7.cell 2 1 rfl rfl
        have z0 := hST7.frozen 2 0 rfl
        have z1 := hST7.frozen 2 1 rfl
        have HFIN := Lib.hid ((hST7.below.setCell (p := ⟨w.heap.size + 1 + 1, 0, none⟩) (by simp only; omega) (.string p1')).setCell (p := ⟨w.heap.size + 1 + 1, 1, none⟩) (by simp only; omega) (.string p2'))
        clear hb2' hST7 hp1 hp2 HR1
        go_wp2
        refine bodyPost_ret (v := .tuple #[.agg #[.string p1', .string p2'], .int .i64 0]) ?_ rfl ⟨by first | rw [HV.out] | (unfold ratOf; rw [HV.out]), HFIN.out⟩
        simp [results, Tryz.results30, go_sem, r0, r1]

theorem mApart_any (b1 b2 : Int) (A1 A2 : Option Addr) (c1 c2 : Nat) (a bb : List (Int × Int)) (w : World) (hr1 : Rd w 0 w.heap.size 2 A1 a.length (cells2 a)) (hr2 : Rd w 0 w.heap.size 2 A2 bb.length (cells2 bb)) (hl1 : a.length < 9223372036854775807) (hl2 : bb.length < 9223372036854775807) (ht : Tab w.heap.size w) :
    Calls Tryz.prog 30 #[.agg #[.int .i64 b1, .slice A1 a.length c1], .agg #[.int .i64 b2, .slice A2 bb.length c2]] w fun e w' => e = .returned (.tuple #[ratOf (apP b1 a b2 bb), .int .i64 (apC b1 a b2 bb)]) ∧ Below w.heap.size w w' := by
  by_cases h : codeB b1 a b2 bb = 0
  · by_cases h1 : a.length = 0
    · exact mApart_empty b1 b2 A1 A2 c1 c2 a bb w hr1 hr2 hl1 hl2 h (.inl h1)
    · by_cases h2 : bb.length = 0
      · exact mApart_empty b1 b2 A1 A2 c1 c2 a bb w hr1 hr2 hl1 hl2 h (.inr h2)
      · exact mApart_main b1 b2 A1 A2 c1 c2 a bb w hr1 hr2 hl1 hl2 h h1 h2 ht
  · exact mApart_bad b1 b2 A1 A2 c1 c2 a bb w hr1 hr2 hl1 hl2 h
end Go.Proofs.YtepfmoaihhonlaaGreatDoor
