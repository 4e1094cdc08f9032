import Derived.Test.YtepfmoaihhonlaaGreatDoorRApart
import Derived.Test.YtepfmoaihhonlaaGreatDoorQPub
import Derived.Test.YtepfmoaihhonlaaGreatDoorG44
import Derived.Test.YtepfmoaihhonlaaGreatDoorRMean
import Derived.Test.YtepfmoaihhonlaaGreatDoorRows
import Derived.WalkKit
import Derived.ProofKit
import Derived.OpenShut
import Derived.JoinedCond
import Derived.Test.YtepfmoaihhonlaaGreatDoorChk
import Derived.Test.YtepfmoaihhonlaaGreatDoorG24
import Derived.Laws.BytesString
import Derived.Lib.ItoaLen
import Derived.Lib.SlBytesRow
import Derived.Lib.BufferRead
/- MeasureCompareMatchesSpec: the law's walk. Printed by gen_lawcmp.py. -/
namespace Go.Proofs.YtepfmoaihhonlaaGreatDoor
open Go Go.RowKit Go.Proofs

theorem ratS_len3 {x y : Nat} (hx : x ≤ 1125899906842624 * 1125899906842624) (hy : y ≤ 1125899906842624 * 1125899906842624) : (ratS x y).1.length ≤ 577 ∧ (ratS x y).2.length ≤ 577 := by
  have h1 := dec_le (k := 40) (by omega) (Nat.lt_of_le_of_lt (Nat.le_trans (Nat.div_le_self x (Nat.gcd x y)) hx) (by decide))
  have h2 := dec_le (k := 40) (by omega) (Nat.lt_of_le_of_lt (Nat.le_trans (Nat.div_le_self y (Nat.gcd x y)) hy) (by decide))
  unfold ratS
  exact ⟨by show (Lib.decDigits _).length ≤ 577; omega, by show (Lib.decDigits _).length ≤ 577; omega⟩
theorem apP_len (b1 b2 : Int) (a bb : List (Int × Int)) : (apP b1 a b2 bb).1.length ≤ 577 ∧ (apP b1 a b2 bb).2.length ≤ 577 := by
  unfold apP
  by_cases h : apC b1 a b2 bb = 0
  · rw [if_pos h]
    have hc : codeB b1 a b2 bb = 0 := by
      unfold apC at h
      by_cases hc : codeB b1 a b2 bb = 0
      · exact hc
      · rw [if_pos hc] at h; exact absurd h hc
    obtain ⟨hcA, hcB, -⟩ := codeB_zero hc
    have hgA := codeH_zero hcA
    have hgB := codeH_zero hcB
    have h1 := tot_pos (fun c hc => (hgA.2.2.2.1 c hc).2)
    have h2 := tot_pos (fun c hc => (hgB.2.2.2.1 c hc).2)
    have t1 := hgA.2.2.2.2.2
    have t2 := hgB.2.2.2.2.2
    have hM : apV a bb ≤ (tot a).toNat * (tot bb).toNat := apM_le (fun c hc => (hgA.2.2.2.1 c hc).2) (fun c hc => (hgB.2.2.2.1 c hc).2) (by omega) (by omega) _ _
    have hN : (tot a).toNat * (tot bb).toNat ≤ 1125899906842624 * 1125899906842624 := Nat.mul_le_mul (by omega) (by omega)
    exact ratS_len3 (by omega) hN
  · rw [if_neg h]; simp
theorem ap_swap {b1 b2 : Int} {a bb : List (Int × Int)} (h : apC b1 a b2 bb = 0) : apC b2 bb b1 a = 0 ∧ apP b2 bb b1 a = apP b1 a b2 bb := by
  have hc : codeB b1 a b2 bb = 0 := by
    unfold apC at h
    by_cases hc : codeB b1 a b2 bb = 0
    · exact hc
    · rw [if_pos hc] at h; exact absurd h hc
  obtain ⟨hcA, hcB, he⟩ := codeB_zero hc
  have hc2 : codeB b2 bb b1 a = 0 := by unfold codeB; rw [if_neg (by omega), if_neg (by omega), if_pos he.symm]
  have h0 : a.length ≠ 0 ∧ bb.length ≠ 0 := by
    unfold apC at h
    rw [if_neg (by omega)] at h
    by_cases g1 : a.length = 0
    · rw [if_pos g1] at h; omega
    · rw [if_neg g1] at h
      by_cases g2 : bb.length = 0
      · rw [if_pos g2] at h; omega
      · exact ⟨g1, g2⟩
  have e : apC b2 bb b1 a = 0 := by unfold apC; rw [if_neg (by omega), if_neg h0.2, if_neg h0.1]
  refine ⟨e, ?_⟩
  unfold apP
  rw [if_pos e, if_pos h, apV_comm, Nat.mul_comm]

set_option maxHeartbeats 4000000 in
set_option maxRecDepth 100000 in
theorem lawCmp_any (b1 b2 : Int) (A1 A2 : Option Addr) (c1 c2 : Nat) (a bb : List (Int × Int)) (v : Int) (w : World) (ht : Tab w.heap.size w) (hr1 : Rd w 0 w.heap.size 2 A1 a.length (cells2 a)) (hr2 : Rd w 0 w.heap.size 2 A2 bb.length (cells2 bb)) (hl1 : a.length < 9223372036854775807) (hl2 : bb.length < 9223372036854775807) (hx1 : ∀ c ∈ a, c.1 ≤ 9223372036854775807) (hx2 : ∀ c ∈ bb, c.1 ≤ 9223372036854775807) :
    Calls Tryz.prog 5 #[.agg #[.int .i64 b1, .slice A1 a.length c1], .agg #[.int .i64 b2, .slice A2 bb.length c2], .int .i64 v] w fun e w' => e = .returned (.bool true) ∧ Below w.heap.size w w' := by
  obtain ⟨W0, hW0⟩ : ∃ W0, W0 = (w.alloc (.cells #[.int .i64 b1, .slice A1 a.length c1] 53)).alloc (.cells #[.int .i64 b2, .slice A2 bb.length c2] 53) := ⟨_, rfl⟩
  have HST0 := Lib.hid (show St w W0 [(w.heap.size, .cells #[.int .i64 b1, .slice A1 a.length c1] 53 (0, 0)), (w.heap.size + 1, .cells #[.int .i64 b2, .slice A2 bb.length c2] 53 (0, 0))] by rw [hW0]; exact ((St.start w).alloc _ _ rfl).alloc _ _ (by simp))
  have HT := fun W (h : Below w.heap.size w W) => (ht.on h).mono h.size
  have HA1 := Lib.hid (fun W (h : Below w.heap.size w W) => mApart_any b1 b2 A1 A2 c1 c2 a bb W (hr1.old h) (hr2.old h) hl1 hl2 (HT W h))
  have HA2 := Lib.hid (fun W (h : Below w.heap.size w W) => rApart_any b1 b2 A1 A2 c1 c2 a bb W (hr1.old h) (hr2.old h) hl1 hl2 hx1 hx2 (HT W h))
  have HA3 := Lib.hid (fun W (h : Below w.heap.size w W) => mApart_any b2 b1 A2 A1 c2 c1 bb a W (hr2.old h) (hr1.old h) hl2 hl1 (HT W h))
  have HS1 := Lib.hid (fun W (h : Below w.heap.size w W) => mScore_any b1 A1 c1 a v W (hr1.old h) hl1)
  have HS2 := Lib.hid (fun W (h : Below w.heap.size w W) => rScore_any b1 A1 c1 a v W (hr1.old h) hl1 hx1)
  have hpl := apP_len b1 b2 a bb
  have HR1 := Lib.hid (fun W (h : Below w.heap.size w W) => toldRatM_any (apP b1 a b2 bb).1 (apP b1 a b2 bb).2 W (HT W h) (by omega) (by omega))
  have HCT := Lib.hid (fun W => counts_any W)
  have HSW := Lib.hid (fun (h : apC b1 a b2 bb = 0) => ap_swap h)
  unfold ratOf at HA1 HA2 HA3
  obtain ⟨s1, hs1⟩ : ∃ s : ByteArray, s = ⟨(tellRatM (apP b1 a b2 bb).1 (apP b1 a b2 bb).2).toArray⟩ := ⟨_, rfl⟩
  rw [← hs1] at HR1
  obtain ⟨p1, hp1⟩ : ∃ s : ByteArray, s = ⟨(apP b1 a b2 bb).1.toArray⟩ := ⟨_, rfl⟩
  obtain ⟨p2, hp2⟩ : ∃ s : ByteArray, s = ⟨(apP b1 a b2 bb).2.toArray⟩ := ⟨_, rfl⟩
  rw [← hp1, ← hp2] at HR1 HA1 HA2
  obtain ⟨x1, hx1e⟩ : ∃ z, z = (scoV b1 a v).1 := ⟨_, rfl⟩
  obtain ⟨x2, hx2e⟩ : ∃ z, z = (scoV b1 a v).2.1 := ⟨_, rfl⟩
  obtain ⟨x3, hx3e⟩ : ∃ z, z = (scoV b1 a v).2.2 := ⟨_, rfl⟩
  obtain ⟨sc, hsc⟩ : ∃ z, z = scoC b1 a v := ⟨_, rfl⟩
  rw [← hx1e, ← hx2e, ← hx3e, ← hsc] at HS1 HS2
  have HA4 := Lib.hid (fun (h : apC b1 a b2 bb = 0) W (hb : Below w.heap.size w W) => (show Calls Tryz.prog 30 #[.agg #[.int .i64 b2, .slice A2 bb.length c2], .agg #[.int .i64 b1, .slice A1 a.length c1]] W fun e w' => e = .returned (.tuple #[.agg #[.string p1, .string p2], .int .i64 0]) ∧ Below W.heap.size W w' by
    have g := HA3.out W hb
    rw [(HSW.out h).1, (HSW.out h).2, ← hp1, ← hp2] at g
    exact g))
  obtain ⟨E, hE⟩ : ∃ z, z = apC b1 a b2 bb := ⟨_, rfl⟩
  rw [← hE] at HA1 HA2
  have HA5 := Lib.hid (fun (h : E = 0) => HA4.out (hE.symm.trans h))
  clear hr1 hr2 ht HT hpl hs1 hp1 hp2 hx1e hx2e hx3e hsc hE hx1 hx2 HA3 HA4 HSW
  go_enter Tryz.func5, Tryz.ntmps5
  go_wp2_with fail
  rw [← hW0]
  clear hW0
  (with_reducible refine (HA1.out W0 HST0.out.below).mono ?_)
  rintro e w1 ⟨rfl, hb1⟩
  have hST1 := HST0.out.call hb1
  obtain ⟨X1, hX1⟩ : ∃ X, X = w1.alloc (.cells #[.string p1, .string p2] 31) := ⟨_, rfl⟩
  have HSX1 := Lib.hid (show St w X1 [(w.heap.size, .cells #[.int .i64 b1, .slice A1 a.length c1] 53 (0, 0)), (w.heap.size + 1, .cells #[.int .i64 b2, .slice A2 bb.length c2] 53 (0, 0)), (w1.heap.size, .cells #[.string p1, .string p2] 31 (0, 0))] by rw [hX1]; exact hST1.alloc _ _ rfl)
  have k00 := hST1.cell 0 0 rfl rfl
  have k01 := hST1.cell 0 1 rfl rfl
  have k10 := hST1.cell 1 0 rfl rfl
  have k11 := hST1.cell 1 1 rfl rfl
  have hlt0 : w.heap.size < w1.heap.size := hST1.lt 0 rfl
  have hlt1 : w.heap.size + 1 < w1.heap.size := hST1.lt 1 rfl
  clear hb1 hST1
  go_wp2_with fail
  rw [← hX1]
  clear hX1
  (with_reducible refine (HA2.out X1 HSX1.out.below).mono ?_)
  rintro e w2 ⟨rfl, hb2⟩
  have hST2 := HSX1.out.call hb2
  obtain ⟨X2, hX2⟩ : ∃ X, X = w2.alloc (.cells #[.string p1, .string p2] 31) := ⟨_, rfl⟩
  have HSX2 := Lib.hid (show St w X2 [(w.heap.size, .cells #[.int .i64 b1, .slice A1 a.length c1] 53 (0, 0)), (w.heap.size + 1, .cells #[.int .i64 b2, .slice A2 bb.length c2] 53 (0, 0)), (w1.heap.size, .cells #[.string p1, .string p2] 31 (0, 0)), (w2.heap.size, .cells #[.string p1, .string p2] 31 (0, 0))] by rw [hX2]; exact hST2.alloc _ _ rfl)
  have hlt2 : w1.heap.size < w2.heap.size := hST2.lt 2 rfl
  clear hb2 hST2 k00 k01 k10 k11
  have HKS1 := Lib.hid (show ∀ X, Below X2.heap.size X2 X → (fun X => Below X2.heap.size X2 X ∧ X.cell? ⟨w1.heap.size, 0, none⟩ = some (.string p1) ∧ X.cell? ⟨w1.heap.size, 1, none⟩ = some (.string p2) ∧ X.cell? ⟨w2.heap.size, 0, none⟩ = some (.string p1) ∧ X.cell? ⟨w2.heap.size, 1, none⟩ = some (.string p2)) X from fun X h => ⟨h, (HSX2.out.call h).cell 2 0 rfl rfl, (HSX2.out.call h).cell 2 1 rfl rfl, (HSX2.out.call h).cell 3 0 rfl rfl, (HSX2.out.call h).cell 3 1 rfl rfl⟩)
  have HRA1 := Lib.hid (fun X (h : Below X2.heap.size X2 X) => HR1.out X (HSX2.out.call h).below)
  go_upto_region 3 with fail
  rw [← hX2]
  clear hX2
  obtain ⟨-, f0, f1, f2, f3⟩ := HKS1.out X2 (Below.refl _ _)
  go_region_held3 (fun X => Below X2.heap.size X2 X ∧ X.cell? ⟨w1.heap.size, 0, none⟩ = some (.string p1) ∧ X.cell? ⟨w1.heap.size, 1, none⟩ = some (.string p2) ∧ X.cell? ⟨w2.heap.size, 0, none⟩ = some (.string p1) ∧ X.cell? ⟨w2.heap.size, 1, none⟩ = some (.string p2))
    (first
      | exact HKS1.out _ (Below.refl _ X2).drew
      | (go_split_ands; refine HKS1.out _ (below_next ?_ hbA); assumption))
    (first
      | (go_at_call 32; (with_reducible refine (HRA1.out _ ?_).mono ?_); (first | exact (Below.refl _ X2).drew | (go_split_ands; assumption)); rintro e wA1 ⟨rfl, hbA⟩))
  have HBL1 := Lib.hid (show Below X2.heap.size X2 wA1 by go_split_ands; assumption)
  have hSTA1 := HSX2.out.call HBL1.out
  have HSTA1 := Lib.hid hSTA1
  clear hbA f0 f1 f2 f3
  by_cases hE0 : E = 0
  · have HAS := Lib.hid (HA5.out hE0)
    have t1 : (E == 0) = true := by simpa using hE0
    have k00 := hSTA1.cell 0 0 rfl rfl
    have k01 := hSTA1.cell 0 1 rfl rfl
    have k10 := hSTA1.cell 1 0 rfl rfl
    have k11 := hSTA1.cell 1 1 rfl rfl
    clear hSTA1 hE0
    go_wp2_with fail
    (with_reducible refine (HAS.out _ HSTA1.out.below).mono ?_)
    rintro e w5 ⟨rfl, hb5⟩
    have hST5 := HSTA1.out.call hb5
    obtain ⟨X3, hX3⟩ : ∃ X, X = w5.alloc (.cells #[.string p1, .string p2] 31) := ⟨_, rfl⟩
    have HSX3 := Lib.hid (show St w X3 [(w.heap.size, .cells #[.int .i64 b1, .slice A1 a.length c1] 53 (0, 0)), (w.heap.size + 1, .cells #[.int .i64 b2, .slice A2 bb.length c2] 53 (0, 0)), (w1.heap.size, .cells #[.string p1, .string p2] 31 (0, 0)), (w2.heap.size, .cells #[.string p1, .string p2] 31 (0, 0)), (w5.heap.size, .cells #[.string p1, .string p2] 31 (0, 0))] by rw [hX3]; exact hST5.alloc _ _ rfl)
    have hlt5 : w2.heap.size < w5.heap.size := hST5.lt 3 rfl
    clear hb5 hST5 k00 k01 k10 k11
    have HKS2 := Lib.hid (show ∀ X, Below X3.heap.size X3 X → (fun X => Below X3.heap.size X3 X ∧ X.cell? ⟨w1.heap.size, 0, none⟩ = some (.string p1) ∧ X.cell? ⟨w1.heap.size, 1, none⟩ = some (.string p2) ∧ X.cell? ⟨w5.heap.size, 0, none⟩ = some (.string p1) ∧ X.cell? ⟨w5.heap.size, 1, none⟩ = some (.string p2)) X from fun X h => ⟨h, (HSX3.out.call h).cell 2 0 rfl rfl, (HSX3.out.call h).cell 2 1 rfl rfl, (HSX3.out.call h).cell 4 0 rfl rfl, (HSX3.out.call h).cell 4 1 rfl rfl⟩)
    have HRA2 := Lib.hid (fun X (h : Below X3.heap.size X3 X) => HR1.out X (HSX3.out.call h).below)
    go_upto_region 7 with fail
    rw [← hX3]
    clear hX3
    obtain ⟨-, f0, f1, f2, f3⟩ := HKS2.out X3 (Below.refl _ _)
    go_region_held3 (fun X => Below X3.heap.size X3 X ∧ X.cell? ⟨w1.heap.size, 0, none⟩ = some (.string p1) ∧ X.cell? ⟨w1.heap.size, 1, none⟩ = some (.string p2) ∧ X.cell? ⟨w5.heap.size, 0, none⟩ = some (.string p1) ∧ X.cell? ⟨w5.heap.size, 1, none⟩ = some (.string p2))
      (first
        | exact HKS2.out _ (Below.refl _ X3).drew
        | (go_split_ands; refine HKS2.out _ (below_next ?_ hbA); assumption))
      (first
        | (go_at_call 32; (with_reducible refine (HRA2.out _ ?_).mono ?_); (first | exact (Below.refl _ X3).drew | (go_split_ands; assumption)); rintro e wA2 ⟨rfl, hbA⟩))
    have HBL2 := Lib.hid (show Below X3.heap.size X3 wA2 by go_split_ands; assumption)
    have hSTA2 := HSX3.out.call HBL2.out
    have HSTA2 := Lib.hid hSTA2
    clear hbA f0 f1 f2 f3
    have k00 := hSTA2.cell 0 0 rfl rfl
    have k01 := hSTA2.cell 0 1 rfl rfl
    clear hSTA2
    go_wp2_with fail
    (with_reducible refine (HS1.out _ HSTA2.out.below).mono ?_)
    rintro e y1 ⟨rfl, hb5⟩
    have hSY1 := HSTA2.out.call hb5
    have HSY1 := Lib.hid hSY1
    have k00 := hSY1.cell 0 0 rfl rfl
    have k01 := hSY1.cell 0 1 rfl rfl
    clear hb5 hSY1
    go_wp2_with fail
    (with_reducible refine (HS2.out _ HSY1.out.below).mono ?_)
    rintro e y2 ⟨rfl, hb6⟩
    have HSY2 := Lib.hid (HSY1.out.call hb6)
    clear hb6 k00 k01
    go_wp2_with fail
    (with_reducible refine (HCT.out _).mono ?_)
    rintro e y3 ⟨rfl, hb7⟩
    have HFIN := Lib.hid (HSY2.out.call hb7).below
    clear hb7
    go_wp2
    go_ret
    exact ⟨rfl, HFIN.out⟩
  · have t1 : (E == 0) = false := by simpa using hE0
    clear hE0
    have k00 := hSTA1.cell 0 0 rfl rfl
    have k01 := hSTA1.cell 0 1 rfl rfl
    clear hSTA1
    go_wp2_with fail
    (with_reducible refine (HS1.out _ HSTA1.out.below).mono ?_)
    rintro e y1 ⟨rfl, hb5⟩
    have hSY1 := HSTA1.out.call hb5
    have HSY1 := Lib.hid hSY1
    have k00 := hSY1.cell 0 0 rfl rfl
    have k01 := hSY1.cell 0 1 rfl rfl
    clear hb5 hSY1
    go_wp2_with fail
    (with_reducible refine (HS2.out _ HSY1.out.below).mono ?_)
    rintro e y2 ⟨rfl, hb6⟩
    have HSY2 := Lib.hid (HSY1.out.call hb6)
    clear hb6 k00 k01
    go_wp2_with fail
    (with_reducible refine (HCT.out _).mono ?_)
    rintro e y3 ⟨rfl, hb7⟩
    have HFIN := Lib.hid (HSY2.out.call hb7).below
    clear hb7
    go_wp2
    go_ret
    exact ⟨rfl, HFIN.out⟩
end Go.Proofs.YtepfmoaihhonlaaGreatDoor

/- The last step of every law: what was read before the call reads the same behind it, because nothing that was there has turned. -/
namespace Go.Proofs.YtepfmoaihhonlaaGreatDoor
open Go Go.ChangeShapes Go.WideShapes Go.ChangeAt Go.RowKit

theorem own : ownKnob Tryz.prog.godebug = none := by kernel_rfl
theorem laidOut : laidOutB Tryz.prog = true := by kernel_rfl

theorem trodAll_below {H : Type} {enc : TypeId × Value → H} {P : Program} (hl : laidOutB P = true) {W W' : World} (hb : Below W.heap.size W W') :
    ∀ (ts : List TypeId) (vs : List Value) (ds : List (DataW H)) (ps : List MemPlace), (∀ t ∈ ts, P.readableRec t = true ∧ t < P.types.size) → (∀ x ∈ ps, x.block < W.heap.size) →
    DataW.TrodAll enc P W 0 (fun _ => true) true ts vs ds ps → DataW.TrodAll enc P W' 0 (fun b => decide (b < W.heap.size)) true ts vs ds ps := by
  intro ts
  induction ts with
  | nil =>
    intro vs ds ps _ _ h
    obtain ⟨rfl, rfl, rfl⟩ := trodAll_nil h
    exact trodAll_mk0
  | cons t ts ih =>
    intro vs ds ps ht hp h
    obtain ⟨v, vs', d, ds', p, q, rfl, rfl, rfl, h1, h2⟩ := trodAll_cons h
    have ht1 := ht t (by simp)
    exact trodAll_cons_mk (Below.trod hl ht1.1 ht1.2 h1 hb (fun x hx => hp x (by simp [hx]))) (ih vs' ds' q (fun t' h' => ht t' (by simp [h'])) (fun x hx => hp x (by simp [hx])) h2)

/-- a law's post, out of 'nothing that was there has turned' -/
theorem law_post {H : Type} {enc : TypeId × Value → H} {P : Program} (hl : laidOutB P = true) {f : Func} {s : ChangeSpec} {W W' : World} {args : Array Value} {ds gs : List (DataW H)} {before : List MemPlace} {tb : TypeId}
    (hW : DataW.Whole enc P f.params.toList s.vars false W args.toList ds gs before) (hv : s.vars = []) (hfn : s.fn H (ds ++ gs) = { results := [.lit (.bool true)], args := ds })
    (hts : ∀ t ∈ f.params.toList, P.readableRec t = true ∧ t < P.types.size) (hres : f.resultTypes = #[tb]) (htb : P.underlying tb = some .bool) (hb : Below W.heap.size W W') :
    s.post enc P f false true false false W args (.bool true) W' := by
  have hlt : ∀ p ∈ before, p.block < W.heap.size := fun p hp => hW.lt p hp
  obtain ⟨p, q, hA, hV, rfl, hfz, hnd⟩ := id hW
  have hV0 := hV
  rw [hv] at hV
  obtain ⟨rfl, rfl⟩ := trodVars_none hV
  refine ⟨ds, [], p ++ [], [], p, [], hW, ?_, ?_, ?_, hb.frame _, fun h => by cases h⟩
  · rw [hfn, hres]
    exact trodAll_mk1 (shut_bool htb true)
  · rw [hfn]
    exact trodAll_below hl hb _ _ _ _ hts (fun x hx => hlt x (by simp [hx])) hA
  · rw [hfn, hv]
    rfl
end Go.Proofs.YtepfmoaihhonlaaGreatDoor

/- Ink: what is written is a function of what is to be written. -/
namespace Go.Proofs.YtepfmoaihhonlaaGreatDoor
open Go Go.RowKit Go.Proofs Go.Maps

/-- what Histogram writes -/
def inkPairs (cs : List (Int × Int)) : List UInt8 := cs.flatMap fun c => inkInt c.1 ++ inkInt c.2
def inkHist (b : Int) (cs : List (Int × Int)) : List UInt8 := inkInt b ++ inkInt cs.length ++ inkPairs cs
theorem inkPairs_take (cs : List (Int × Int)) (i : Nat) (x n : Int) (h : cs[i]? = some (x, n)) : inkPairs (cs.take (i + 1)) = inkPairs (cs.take i) ++ inkInt x ++ inkInt n := by
  rw [List.take_add_one, h]; simp [inkPairs]
theorem inkPairs_length (cs : List (Int × Int)) (h : ∀ c ∈ cs, I64 c.1 ∧ I64 c.2) : (inkPairs cs).length ≤ 44 * cs.length := by
  induction cs with
  | nil => simp [inkPairs]
  | cons c cs ih =>
    have h1 := ih (fun x hx => h x (by simp [hx]))
    have h2 := h c (by simp)
    have l1 := inkInt_length c.1 h2.1.1 h2.1.2
    have l2 := inkInt_length c.2 h2.2.1 h2.2.2
    simp only [inkPairs, List.flatMap_cons, List.length_append, List.length_cons] at *
    omega

set_option maxHeartbeats 1000000 in
set_option maxRecDepth 100000 in
theorem inkHist_any (K base : Nat) (bs : List UInt8) (b : Int) (A : Option Addr) (c : Nat) (cs : List (Int × Int)) (w : World) (h : InkAt w K base bs) (hl : bs.length < 10000000000) (hb : I64 b) (hcs : ∀ c ∈ cs, I64 c.1 ∧ I64 c.2) (hn : cs.length ≤ 100000000)
    (hr : Rd w 0 K 2 A cs.length (cells2 cs)) :
    Calls Tryz.prog 123 #[.pointer (some ⟨K, 0, none⟩), .agg #[.int .i64 b, .slice A cs.length c]] w fun e w' => e = .returned (.tuple #[]) ∧ InkAt w' K base (bs ++ inkHist b cs) ∧ InkFr K base w w' := by
  have hlen := inkPairs_length cs hcs
  have l1 := inkInt_length b hb.1 hb.2
  have l2 := inkInt_length (cs.length : Int) (by omega) (by omega)
  have hin : InkAt (w.alloc (.cells #[.int .i64 b, .slice A cs.length c] 53)) K base bs := h.fr (may := fun _ => False) ((Fr.refl _ w).alloc _) (fun _ _ h => h) (fun _ _ _ h => h)
  have hKw : K < w.heap.size := by have := h.1; have := h.2.1; omega
  have hbw := h.2.1
  have hKb := h.1
  have HI := Lib.hid hin
  have HB := Lib.hid hb
  have HC := Lib.hid hcs
  have HR := Lib.hid (hr.alloc (by omega) (.cells #[.int .i64 b, .slice A cs.length c] 53))
  have HL := Lib.hid hl
  have HN := Lib.hid hn
  have hbx0 : (w.alloc (.cells #[.int .i64 b, .slice A cs.length c] 53)).heap[w.heap.size]? = some (.cells #[.int .i64 b, .slice A cs.length c] 53 (0, 0)) := alloc_at _ _ _ rfl
  have HBX := Lib.hid hbx0
  have HLEN := Lib.hid hlen
  clear h hin hb hcs hr hl hlen hbx0
  go_enter Tryz.func123, Tryz.ntmps123
  go_wp2_with fail
  obtain ⟨W0, hW0⟩ : ∃ W0, W0 = w.alloc (.cells #[.int .i64 b, .slice A cs.length c] 53) := ⟨_, rfl⟩
  rw [← hW0] at HI HR HBX ⊢
  have hs0 : W0.heap.size = w.heap.size + 1 := by rw [hW0]; simp
  have HFR0 : Hid (InkFr K base w W0) := Lib.hid (by rw [hW0]; exact (InkFr.refl K base w).alloc _)
  clear hW0
  refine (inkInt_any K base bs b _ HI.out (by have := HL.out; omega) HB.out.1 HB.out.2).mono ?_
  rintro e w1 ⟨rfl, hi1, hf1⟩
  have hbx1 := hf1.keep HBX.out (by decide) (by omega)
  have e1 : w1.cell? ⟨w.heap.size, 1, none⟩ = some (.slice A cs.length c) := by rw [cellsAt hbx1]; rfl
  have HI1 := Lib.hid hi1
  have HF1 := Lib.hid hf1
  have HS0 := Lib.hid hs0
  clear hi1 hf1 hbx1 hs0
  go_wp2_with fail
  refine (inkInt_any K base (bs ++ inkInt b) (cs.length : Int) _ HI1.out (by have := HL.out; simp; omega) (by omega) (by have := HN.out; omega)).mono ?_
  rintro e w2 ⟨rfl, hi2, hf2⟩
  have hf02 := HF1.out.trans hf2
  have HI2 := Lib.hid hi2
  have HF2 := Lib.hid hf02
  clear hi2 hf2 hf02 e1
  go_wp2
  go_loopw [4] (fun i wr => ∃ k : Nat, k ≤ cs.length ∧ i = .int .i64 k ∧ InkAt wr K base (bs ++ inkInt b ++ inkInt cs.length ++ inkPairs (cs.take k)) ∧ InkFr K base W0 wr) (fun i _ => cs.length - (intOf i).toNat)
  case atStart => exact ⟨0, Nat.zero_le _, rfl, by simpa [inkPairs] using HI2.out, HF2.out⟩
  case round =>
    obtain ⟨k, hk, rfl, hik, hfk⟩ := hrel
    have hbxk := hfk.keep HBX.out (by decide) (by omega)
    have e1 : wr.cell? ⟨w.heap.size, 1, none⟩ = some (.slice A cs.length c) := by rw [cellsAt hbxk]; rfl
    have hbel := hfk.below (by have := HS0.out; omega) (by omega)
    have hrk := HR.out.below hbel (Nat.le_refl _)
    have HIK := Lib.hid hik
    have HFK := Lib.hid hfk
    clear hik hfk hbxk
    by_cases hlt : k < cs.length
    · obtain ⟨bk, o, x, m, rfl, _, hbk, hx, c0, c1⟩ := hrk.at2 hlt
      have hpt := inkPairs_take cs k x m hx
      have hxm := HC.out (x, m) (List.mem_of_getElem? hx)
      have hlk := inkPairs_length (cs.take k) (fun c hc => HC.out c (List.mem_of_mem_take hc))
      rw [List.length_take] at hlk
      have hlx := inkInt_length x hxm.1.1 hxm.1.2
      have HPT := Lib.hid hpt
      have HXM := Lib.hid hxm
      have HLK := Lib.hid hlk
      have HRK := Lib.hid hrk
      clear hx hpt hxm hlk hrk hbel
      go_wp2_with fail
      refine (inkInt_any K base _ x _ HIK.out (by have := HL.out; have := HLK.out; have := HN.out; simp only [List.length_append]; omega) HXM.out.1.1 HXM.out.1.2).mono ?_
      rintro e w3 ⟨rfl, hi3, hf3⟩
      have hf03 := HFK.out.trans hf3
      have hbx3 := hf03.keep HBX.out (by decide) (by omega)
      have e3 : w3.cell? ⟨w.heap.size, 1, none⟩ = some (.slice (some ⟨bk, o, none⟩) cs.length c) := by rw [cellsAt hbx3]; rfl
      have d1 : w3.cell? ⟨bk, o + k * 2 + 1, none⟩ = some (.int .i64 m) := by
        have hb3 : Below K wr w3 := hf3.below (by have := HFK.out.size; have := HS0.out; omega) (by omega)
        exact (hb3.cell (p := ⟨bk, o + k * 2 + 1, none⟩) hbk).trans c1
      have HI3 := Lib.hid hi3
      have HF3 := Lib.hid hf03
      clear hi3 hf3 hf03 hbx3 e1 c0 c1
      go_wp2_with fail
      refine (inkInt_any K base _ m _ HI3.out (by have := HL.out; have := HLK.out; have := HN.out; simp only [List.length_append]; omega) HXM.out.2.1 HXM.out.2.2).mono ?_
      rintro e w4 ⟨rfl, hi4, hf4⟩
      have HI4 := Lib.hid hi4
      have HF4 := Lib.hid (HF3.out.trans hf4)
      clear hi4 hf4 e3 d1
      go_wp2
      go_roundw
      case rel => exact ⟨k + 1, by omega, by go_num, by rw [HPT.out]; simpa [List.append_assoc] using HI4.out, HF4.out⟩
      case measure => simp [intOf]; omega
    · clear hrk hbel
      go_wp2
      go_end0
      refine ⟨rfl, ?_, HFR0.out.trans HFK.out⟩
      have := HIK.out
      rw [List.take_of_length_le (by omega)] at this
      simpa [inkHist, List.append_assoc] using this

/-- a value that is a histogram, its counts below block B -/
def HistB (w : World) (B : Nat) (v : Value) (b : Int) (cs : List (Int × Int)) : Prop :=
  ∃ A c, v = .agg #[.int .i64 b, .slice A cs.length c] ∧ Rd w 0 B 2 A cs.length (cells2 cs)

end Go.Proofs.YtepfmoaihhonlaaGreatDoor
