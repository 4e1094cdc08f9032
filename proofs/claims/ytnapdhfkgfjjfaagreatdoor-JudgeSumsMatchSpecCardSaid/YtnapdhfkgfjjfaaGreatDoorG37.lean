import Derived.Test.YtnapdhfkgfjjfaaGreatDoorG34
import Derived.Test.YtnapdhfkgfjjfaaGreatDoorJRnkW
import Derived.Test.YtnapdhfkgfjjfaaGreatDoorG32
import Derived.Test.YtnapdhfkgfjjfaaGreatDoorG0
import Derived.Test.YtnapdhfkgfjjfaaGreatDoorG33
/- Package dynamometerref10: ranked. -/
namespace Go.Proofs.YtnapdhfkgfjjfaaGreatDoor
open Go Go.RowKit Go.Proofs

set_option maxHeartbeats 8000000 in
set_option maxRecDepth 100000 in
theorem rRanked_any (V : Int) (mN P : Nat) (Bd : Int) (T : List Int) (w : World) (hzN : MapZ w mN P Bd (cN T)) (hTW : ∀ x, cN T x ≠ 0 → (Lit.int .i64 x).wf = true) (hTL : T.length ≤ 1152921504606846976) :
    Calls Tryz.prog 34 #[.int .i64 V, .map (some mN)] w fun e w' => e = .returned (.agg #[.int .i64 V, .int .i64 (cntLe V T : Nat), .int .i64 (cntGe V T : Nat), .int .i64 (T.length : Nat)]) ∧ Below w.heap.size w w' := by
  have hmlt := hzN.lt
  have HMO := Lib.hid (show mN < w.heap.size by omega)
  have HTW := Lib.hid hTW
  have HTL := Lib.hid hTL
  obtain ⟨W2, hW2⟩ : ∃ W2, W2 = (w.alloc (.cells #[.int .i64 0, .int .i64 0, .int .i64 0, .int .i64 0] 24)).alloc (.cells #[.int .i64 V, .int .i64 0, .int .i64 0, .int .i64 0] 24) := ⟨_, rfl⟩
  have hst : St w W2 [(w.heap.size, .cells #[.int .i64 0, .int .i64 0, .int .i64 0, .int .i64 0] 24 (0, 0)), (w.heap.size + 1, .cells #[.int .i64 V, .int .i64 0, .int .i64 0, .int .i64 0] 24 (0, 0))] := by
    rw [hW2]
    exact ((St.start w).alloc _ _ rfl).alloc _ _ (by simp)
  have HR2S := Lib.hid (show W2.heap.size = w.heap.size + 2 by rw [hW2]; simp)
  have hz2 := hzN.on hst.below
  have HX2 := Lib.hid (show W2.heap[w.heap.size]? = some (.cells #[.int .i64 0, .int .i64 0, .int .i64 0, .int .i64 0] 24 (0, 0)) from (hst.box 0 _ _ rfl).2)
  have HOB := Lib.hid (show W2.heap[w.heap.size + 1]? = some (.cells #[.int .i64 V, .int .i64 0, .int .i64 0, .int .i64 0] 24 (0, 0)) from (hst.box 1 _ _ rfl).2)
  have HB2 := Lib.hid hst.below
  rw [hW2] at hz2
  clear hzN hTW hTL hst hmlt
  go_enter Tryz.func34, Tryz.ntmps34
  go_wp2_with (at_range; refine wpList_range_z rfl _ rfl mN P Bd (cN T) rfl hz2 ?_; intro w6 cnt0 hrg0 hcn0 hb6)
  go_frame
  rw [← hW2] at hrg0 hb6 ⊢
  have HRG0 := Lib.hid hrg0
  have HO6 := Lib.hid ((hb6.block _ (heap_lt HOB.out)).trans HOB.out)
  have HX6 := Lib.hid ((hb6.block _ (heap_lt HX2.out)).trans HX2.out)
  have HB6 := Lib.hid (show Below w.heap.size w w6 from below_next HB2.out hb6)
  clear hrg0 hb6 hcn0 hz2 hW2
  go_loopw [6, 7] (fun _ _ wr => ∃ E done cnt, RgZ wr mN W2.heap.size P Bd (cN T) done cnt ∧ (E.map (·.1)).Nodup ∧ (∀ e ∈ E, e.2 = cN T e.1) ∧ (∀ x, done x = true ↔ x ∈ E.map (·.1)) ∧ wr.heap[w.heap.size + 1]? = some (.cells #[.int .i64 V, .int .i64 (sumE (fun s => decide (s ≤ V)) E), .int .i64 (sumE (fun s => decide (V ≤ s)) E), .int .i64 (sumE (fun _ => true) E)] 24 (0, 0)) ∧ wr.heap[w.heap.size]? = some (.cells #[.int .i64 0, .int .i64 0, .int .i64 0, .int .i64 0] 24 (0, 0)) ∧ Below w.heap.size w wr) (fun _ _ wr => wr.rangeLeft mN W2.heap.size)
  case atStart => exact ⟨[], (fun _ => false), cnt0, HRG0.out, List.Pairwise.nil, (fun e he => by cases he), (fun x => by simp), HO6.out, HX6.out, HB6.out⟩
  case round =>
    obtain ⟨E, done, cnt, hrg, hnd, hval, hdn, hob, hox, hbw⟩ := hrel
    have HND := Lib.hid hnd
    have HVAL := Lib.hid hval
    have HDN := Lib.hid hdn
    have HOX := Lib.hid hob
    have HXX := Lib.hid hox
    have HBX := Lib.hid hbw
    have s1 := sumE_le (fun s => decide (s ≤ V)) hnd hval
    have s2 := sumE_le (fun s => decide (V ≤ s)) hnd hval
    have s3 := sumE_le (fun _ => true) hnd hval
    have htl := HTL.out
    obtain ⟨L1, hL1⟩ : ∃ z, z = sumE (fun s => decide (s ≤ V)) E := ⟨_, rfl⟩
    obtain ⟨L2, hL2⟩ : ∃ z, z = sumE (fun s => decide (V ≤ s)) E := ⟨_, rfl⟩
    obtain ⟨L3, hL3⟩ : ∃ z, z = sumE (fun _ => true) E := ⟨_, rfl⟩
    rw [← hL1] at s1
    rw [← hL2] at s2
    rw [← hL3] at s3
    rw [← hL1, ← hL2, ← hL3] at HOX
    have HLL := Lib.hid (And.intro hL1 (And.intro hL2 hL3))
    obtain ⟨s10, s11⟩ := s1
    obtain ⟨s20, s21⟩ := s2
    obtain ⟨s30, s31⟩ := s3
    have s12 : L1 ≤ 1152921504606846976 := by omega
    have s22 : L2 ≤ 1152921504606846976 := by omega
    have s32 : L3 ≤ 1152921504606846976 := by omega
    clear hnd hval hdn hob hox hbw hL1 hL2 hL3 HRG0 HO6 HB6 HX6 htl s11 s21 s31
    go_wp2_with (at_next; refine wpList_next_z rfl _ rfl mN W2.heap.size P Bd (cN T) done cnt rfl hrg ?_ ?_)
    · intro hall
      have hkeys : ∀ s ∈ T, s ∈ E.map (·.1) := fun s hs => (HDN.out s).1 (hall s (by
        have := List.count_pos_iff.2 hs
        unfold cN; omega) (HTW.out s (by
        have := List.count_pos_iff.2 hs
        unfold cN; omega)))
      have HR1' := Lib.hid (show L1 = (cntLe V T : Nat) from by rw [HLL.out.1]; exact sumE_all _ HND.out HVAL.out hkeys)
      have HR2' := Lib.hid (show L2 = (cntGe V T : Nat) from by rw [HLL.out.2.1]; exact sumE_all _ HND.out HVAL.out hkeys)
      have HR3' := Lib.hid (show L3 = (T.length : Nat) from by
        rw [HLL.out.2.2, sumE_all _ HND.out HVAL.out hkeys]; simp)
      have k0 : wr.cell? ⟨w.heap.size + 1, 0, none⟩ = some (.int .i64 V) := by rw [cellsAt HOX.out]; rfl
      have k1 : wr.cell? ⟨w.heap.size + 1, 1, none⟩ = some (.int .i64 L1) := by rw [cellsAt HOX.out]; rfl
      have k2 : wr.cell? ⟨w.heap.size + 1, 2, none⟩ = some (.int .i64 L2) := by rw [cellsAt HOX.out]; rfl
      have k3 : wr.cell? ⟨w.heap.size + 1, 3, none⟩ = some (.int .i64 L3) := by rw [cellsAt HOX.out]; rfl
      have b0 : wr.cell? ⟨w.heap.size, 0, none⟩ = some (.int .i64 0) := by rw [cellsAt HXX.out]; rfl
      have b1 : wr.cell? ⟨w.heap.size, 1, none⟩ = some (.int .i64 0) := by rw [cellsAt HXX.out]; rfl
      have b2 : wr.cell? ⟨w.heap.size, 2, none⟩ = some (.int .i64 0) := by rw [cellsAt HXX.out]; rfl
      have b3 : wr.cell? ⟨w.heap.size, 3, none⟩ = some (.int .i64 0) := by rw [cellsAt HXX.out]; rfl
      have z0 := frozenAt HXX.out 0
      have z1 := frozenAt HXX.out 1
      have z2 := frozenAt HXX.out 2
      have z3 := frozenAt HXX.out 3
      have hlt := heap_lt HXX.out
      have HBF := Lib.hid (fun x y u v => (((HBX.out.setCell (p := ⟨w.heap.size, 0, none⟩) (Nat.le_refl _) x).setCell (p := ⟨w.heap.size, 1, none⟩) (Nat.le_refl _) y).setCell (p := ⟨w.heap.size, 2, none⟩) (Nat.le_refl _) u).setCell (p := ⟨w.heap.size, 3, none⟩) (Nat.le_refl _) v)
      clear hall hkeys hrg
      go_wp2
      refine bodyPost_ret (v := .agg #[.int .i64 V, .int .i64 L1, .int .i64 L2, .int .i64 L3]) (by simp [results, Tryz.results34, go_sem, b0, b1, b2, b3]) rfl ⟨by rw [HR1'.out, HR2'.out, HR3'.out], HBF.out _ _ _ _⟩
    · intro y w7 cnt1 hdy y0 y1 y2 y3 hrg7 hlt7 hf7 hs7 hen
      have hob7 : w7.heap[w.heap.size + 1]? = some (.cells #[.int .i64 V, .int .i64 L1, .int .i64 L2, .int .i64 L3] 24 (0, 0)) := (hf7.block _ (heap_lt HOX.out) (by have := HR2S.out; omega)).trans HOX.out
      have HX7 := Lib.hid ((hf7.block _ (heap_lt HXX.out) (by have := HR2S.out; omega)).trans HXX.out)
      have k1 : w7.cell? ⟨w.heap.size + 1, 1, none⟩ = some (.int .i64 L1) := by rw [cellsAt hob7]; rfl
      have k2 : w7.cell? ⟨w.heap.size + 1, 2, none⟩ = some (.int .i64 L2) := by rw [cellsAt hob7]; rfl
      have k3 : w7.cell? ⟨w.heap.size + 1, 3, none⟩ = some (.int .i64 L3) := by rw [cellsAt hob7]; rfl
      have z1 := frozenAt hob7 1
      have z2 := frozenAt hob7 2
      have z3 := frozenAt hob7 3
      have hlo := heap_lt hob7
      have hFb : 0 ≤ cN T y ∧ cN T y ≤ 1152921504606846976 := by
        have h1 : T.count y ≤ T.length := List.count_le_length
        have h2 := HTL.out
        unfold cN; omega
      have hnd2 : ((E ++ [(y, cN T y)]).map (·.1)).Nodup := by
        rw [List.map_append]
        refine List.nodup_append.2 ⟨HND.out, by simp, fun a ha b hb => ?_⟩
        simp at hb
        rintro rfl
        subst hb
        have := (HDN.out a).2 ha
        rw [hdy] at this; cases this
      have hval2 : ∀ e ∈ E ++ [(y, cN T y)], e.2 = cN T e.1 := fun e he => by
        rw [List.mem_append, List.mem_singleton] at he
        rcases he with he | rfl
        · exact HVAL.out e he
        · rfl
      have hdn2 : ∀ x, (done x || x == y) = true ↔ x ∈ (E ++ [(y, cN T y)]).map (·.1) := fun x => by
        rw [List.map_append, List.mem_append, Bool.or_eq_true, HDN.out x]
        simp
      have HS := Lib.hid (fun P => sumE_snoc P E (y, cN T y))
      obtain ⟨F, hF⟩ : ∃ F, F = cN T y := ⟨_, rfl⟩
      rw [← hF] at hen hFb
      have HFF := Lib.hid hF
      have HN2 := Lib.hid (And.intro hnd2 (And.intro hval2 hdn2))
      have HRG7 := Lib.hid hrg7
      have HLE := Lib.hid (And.intro hrg.left hrg7.left)
      have HB7 := Lib.hid (show Below w.heap.size w w7 from HBX.out.trans (hf7.below HBX.out.size fun i hi h => by have := HR2S.out; omega))
      have hFb0 := hFb.1
      have hFb1 := hFb.2
      clear hnd2 hval2 hdn2 hF hFb hdy hf7 hrg hrg7
      by_cases h1 : y ≤ V
      · have t1 : decide (y ≤ V) = true := decide_eq_true h1
        by_cases h2 : V ≤ y
        · have t2 : decide (V ≤ y) = true := decide_eq_true h2
          obtain ⟨W8, hW8⟩ : ∃ W, W = ((w7.setCell ⟨w.heap.size + 1, 3, none⟩ (.int .i64 (L3 + F))).setCell ⟨w.heap.size + 1, 1, none⟩ (.int .i64 (L1 + F))).setCell ⟨w.heap.size + 1, 2, none⟩ (.int .i64 (L2 + F)) := ⟨_, rfl⟩
          have e1 : sumE (fun s => decide (s ≤ V)) (E ++ [(y, cN T y)]) = L1 + F := by
            rw [HS.out, ← HLL.out.1, ← HFF.out]
            simp only [t1, if_true, Bool.false_eq_true, if_false, Int.add_zero]
          have e2 : sumE (fun s => decide (V ≤ s)) (E ++ [(y, cN T y)]) = L2 + F := by
            rw [HS.out, ← HLL.out.2.1, ← HFF.out]
            simp only [t2, if_true, Bool.false_eq_true, if_false, Int.add_zero]
          have e3 : sumE (fun _ => true) (E ++ [(y, cN T y)]) = L3 + F := by
            rw [HS.out, ← HLL.out.2.2, ← HFF.out]
            simp only [if_true]
          have HO8 := Lib.hid (show W8.heap[w.heap.size + 1]? = some (.cells #[.int .i64 V, .int .i64 (sumE (fun s => decide (s ≤ V)) (E ++ [(y, cN T y)])), .int .i64 (sumE (fun s => decide (V ≤ s)) (E ++ [(y, cN T y)])), .int .i64 (sumE (fun _ => true) (E ++ [(y, cN T y)]))] 24 (0, 0)) from by
            rw [e1, e2, e3, hW8]
            exact rk3 hob7 _ _ _)
          clear e1 e2 e3
          have hf8 : Fr (fun i => i = w.heap.size + 1) w7 W8 := hW8 ▸ (((Fr.refl (fun i => i = w.heap.size + 1) w7).setCell (p := ⟨w.heap.size + 1, 3, none⟩) (fun _ => rfl) _).setCell (p := ⟨w.heap.size + 1, 1, none⟩) (fun _ => rfl) _).setCell (p := ⟨w.heap.size + 1, 2, none⟩) (fun _ => rfl) _
          have HRG8 := Lib.hid (HRG7.out.fr hf8 (by have := HMO.out; omega) (by have := HR2S.out; omega))
          have HX8 := Lib.hid ((hf8.block _ (by omega) (by omega)).trans HX7.out)
          have HB8 := Lib.hid (show Below w.heap.size w W8 from HB7.out.trans (hf8.below (by have := HB7.out.size; omega) fun i hi h => by omega))
          have HL8 := Lib.hid HRG8.out.left
          clear hf8 hob7
          go_wp2
          rw [← hW8]
          go_roundw
          case rel => exact ⟨_, _, cnt1, HRG8.out, HN2.out.1, HN2.out.2.1, HN2.out.2.2, HO8.out, HX8.out, HB8.out⟩
          case measure => rw [HLE.out.1, HL8.out]; exact hlt7
        · have t2 : decide (V ≤ y) = false := decide_eq_false h2
          obtain ⟨W8, hW8⟩ : ∃ W, W = (w7.setCell ⟨w.heap.size + 1, 3, none⟩ (.int .i64 (L3 + F))).setCell ⟨w.heap.size + 1, 1, none⟩ (.int .i64 (L1 + F)) := ⟨_, rfl⟩
          have e1 : sumE (fun s => decide (s ≤ V)) (E ++ [(y, cN T y)]) = L1 + F := by
            rw [HS.out, ← HLL.out.1, ← HFF.out]
            simp only [t1, if_true, Bool.false_eq_true, if_false, Int.add_zero]
          have e2 : sumE (fun s => decide (V ≤ s)) (E ++ [(y, cN T y)]) = L2 := by
            rw [HS.out, ← HLL.out.2.1, ← HFF.out]
            simp only [t2, if_true, Bool.false_eq_true, if_false, Int.add_zero]
          have e3 : sumE (fun _ => true) (E ++ [(y, cN T y)]) = L3 + F := by
            rw [HS.out, ← HLL.out.2.2, ← HFF.out]
            simp only [if_true]
          have HO8 := Lib.hid (show W8.heap[w.heap.size + 1]? = some (.cells #[.int .i64 V, .int .i64 (sumE (fun s => decide (s ≤ V)) (E ++ [(y, cN T y)])), .int .i64 (sumE (fun s => decide (V ≤ s)) (E ++ [(y, cN T y)])), .int .i64 (sumE (fun _ => true) (E ++ [(y, cN T y)]))] 24 (0, 0)) from by
            rw [e1, e2, e3, hW8]
            exact rk31 hob7 _ _)
          clear e1 e2 e3
          have hf8 : Fr (fun i => i = w.heap.size + 1) w7 W8 := hW8 ▸ ((Fr.refl (fun i => i = w.heap.size + 1) w7).setCell (p := ⟨w.heap.size + 1, 3, none⟩) (fun _ => rfl) _).setCell (p := ⟨w.heap.size + 1, 1, none⟩) (fun _ => rfl) _
          have HRG8 := Lib.hid (HRG7.out.fr hf8 (by have := HMO.out; omega) (by have := HR2S.out; omega))
          have HX8 := Lib.hid ((hf8.block _ (by omega) (by omega)).trans HX7.out)
          have HB8 := Lib.hid (show Below w.heap.size w W8 from HB7.out.trans (hf8.below (by have := HB7.out.size; omega) fun i hi h => by omega))
          have HL8 := Lib.hid HRG8.out.left
          clear hf8 hob7
          go_wp2
          rw [← hW8]
          go_roundw
          case rel => exact ⟨_, _, cnt1, HRG8.out, HN2.out.1, HN2.out.2.1, HN2.out.2.2, HO8.out, HX8.out, HB8.out⟩
          case measure => rw [HLE.out.1, HL8.out]; exact hlt7
      · have t1 : decide (y ≤ V) = false := decide_eq_false h1
        have h2 : V ≤ y := by omega
        have t2 : decide (V ≤ y) = true := decide_eq_true h2
        obtain ⟨W8, hW8⟩ : ∃ W, W = (w7.setCell ⟨w.heap.size + 1, 3, none⟩ (.int .i64 (L3 + F))).setCell ⟨w.heap.size + 1, 2, none⟩ (.int .i64 (L2 + F)) := ⟨_, rfl⟩
        have e1 : sumE (fun s => decide (s ≤ V)) (E ++ [(y, cN T y)]) = L1 := by
          rw [HS.out, ← HLL.out.1, ← HFF.out]
          simp only [t1, if_true, Bool.false_eq_true, if_false, Int.add_zero]
        have e2 : sumE (fun s => decide (V ≤ s)) (E ++ [(y, cN T y)]) = L2 + F := by
          rw [HS.out, ← HLL.out.2.1, ← HFF.out]
          simp only [t2, if_true, Bool.false_eq_true, if_false, Int.add_zero]
        have e3 : sumE (fun _ => true) (E ++ [(y, cN T y)]) = L3 + F := by
          rw [HS.out, ← HLL.out.2.2, ← HFF.out]
          simp only [if_true]
        have HO8 := Lib.hid (show W8.heap[w.heap.size + 1]? = some (.cells #[.int .i64 V, .int .i64 (sumE (fun s => decide (s ≤ V)) (E ++ [(y, cN T y)])), .int .i64 (sumE (fun s => decide (V ≤ s)) (E ++ [(y, cN T y)])), .int .i64 (sumE (fun _ => true) (E ++ [(y, cN T y)]))] 24 (0, 0)) from by
          rw [e1, e2, e3, hW8]
          exact rk32 hob7 _ _)
        clear e1 e2 e3
        have hf8 : Fr (fun i => i = w.heap.size + 1) w7 W8 := hW8 ▸ ((Fr.refl (fun i => i = w.heap.size + 1) w7).setCell (p := ⟨w.heap.size + 1, 3, none⟩) (fun _ => rfl) _).setCell (p := ⟨w.heap.size + 1, 2, none⟩) (fun _ => rfl) _
        have HRG8 := Lib.hid (HRG7.out.fr hf8 (by have := HMO.out; omega) (by have := HR2S.out; omega))
        have HX8 := Lib.hid ((hf8.block _ (by omega) (by omega)).trans HX7.out)
        have HB8 := Lib.hid (show Below w.heap.size w W8 from HB7.out.trans (hf8.below (by have := HB7.out.size; omega) fun i hi h => by omega))
        have HL8 := Lib.hid HRG8.out.left
        clear hf8 hob7
        go_wp2
        rw [← hW8]
        go_roundw
        case rel => exact ⟨_, _, cnt1, HRG8.out, HN2.out.1, HN2.out.2.1, HN2.out.2.2, HO8.out, HX8.out, HB8.out⟩
        case measure => rw [HLE.out.1, HL8.out]; exact hlt7
end Go.Proofs.YtnapdhfkgfjjfaaGreatDoor

/- Lines through points: what Line tells. Plain. -/
namespace Go.Proofs.YtnapdhfkgfjjfaaGreatDoor
open Go Go.RowKit Go.Proofs

def lnC (xs ys : List Int) : Int := if ptC xs ys ≠ 0 then ptC xs ys else if vXX (xs.zip ys) = 0 then 13 else if rtC (linA (xs.zip ys)) ≠ 0 then rtC (linA (xs.zip ys)) else rtC (linB (xs.zip ys))
def lnA (xs ys : List Int) : List UInt8 × List UInt8 := if lnC xs ys = 0 then rtT (linA (xs.zip ys)) else ([], [])
def lnB (xs ys : List Int) : List UInt8 × List UInt8 := if lnC xs ys = 0 then rtT (linB (xs.zip ys)) else ([], [])
theorem ln_bad {xs ys : List Int} (h : lnC xs ys ≠ 0) : lnA xs ys = ([], []) ∧ lnB xs ys = ([], []) := by unfold lnA lnB; rw [if_neg h, if_neg h]; exact ⟨rfl, rfl⟩
theorem ln_good {xs ys : List Int} (h : lnC xs ys = 0) : lnA xs ys = rtT (linA (xs.zip ys)) ∧ lnB xs ys = rtT (linB (xs.zip ys)) := by unfold lnA lnB; rw [if_pos h, if_pos h]; exact ⟨rfl, rfl⟩
theorem lnC_pt {xs ys : List Int} (h : ptC xs ys ≠ 0) : lnC xs ys = ptC xs ys := by unfold lnC; rw [if_pos h]
theorem lnC_xx {xs ys : List Int} (h : ptC xs ys = 0) (h2 : vXX (xs.zip ys) = 0) : lnC xs ys = 13 := by unfold lnC; rw [if_neg (by omega), if_pos h2]
theorem lnC_a {xs ys : List Int} (h : ptC xs ys = 0) (h2 : vXX (xs.zip ys) ≠ 0) (h3 : rtC (linA (xs.zip ys)) ≠ 0) : lnC xs ys = rtC (linA (xs.zip ys)) := by unfold lnC; rw [if_neg (by omega), if_neg h2, if_pos h3]
theorem lnC_b {xs ys : List Int} (h : ptC xs ys = 0) (h2 : vXX (xs.zip ys) ≠ 0) (h3 : rtC (linA (xs.zip ys)) = 0) : lnC xs ys = rtC (linB (xs.zip ys)) := by unfold lnC; rw [if_neg (by omega), if_neg h2, if_neg (by omega)]
theorem vXX_len {l : List (Int × Int)} (h : vXX l ≠ 0) : 0 < l.length := by
  rcases Nat.eq_zero_or_pos l.length with h0 | h0
  · rw [List.eq_nil_of_length_eq_zero h0] at h
    exact absurd rfl h
  · exact h0
theorem zip_get {xs ys : List Int} {k : Nat} {x y : Int} (h1 : xs[k]? = some x) (h2 : ys[k]? = some y) : (xs.zip ys)[k]? = some (x, y) := by
  rw [List.getElem?_zip_eq_some]; exact ⟨h1, h2⟩
end Go.Proofs.YtnapdhfkgfjjfaaGreatDoor

/- Package dynamometerref10: points checked. -/
namespace Go.Proofs.YtnapdhfkgfjjfaaGreatDoor
open Go Go.RowKit Go.Proofs

set_option maxHeartbeats 8000000 in
set_option maxRecDepth 100000 in
theorem rNumF_any (A : Option Addr) (c : Nat) (xs : List Int) (w : World) (hr : Rd w 0 w.heap.size 1 A xs.length (ints xs)) (hl : xs.length ≤ 100000) :
    Calls Tryz.prog 41 #[.slice A xs.length c] w fun e w' => e = .returned (.int .i64 (if okZ xs = true then 0 else 9)) ∧ Below w.heap.size w w' := by
  have HR := Lib.hid hr
  have hall : (∀ j x, xs[j]? = some x → -1000000 ≤ x ∧ x ≤ 1000000) → okZ xs = true := fun h => by
    unfold okZ
    rw [List.all_eq_true]
    intro x hx
    obtain ⟨j, hj⟩ := List.getElem?_of_mem hx
    have := h j x hj
    simpa using this
  have hbad : ∀ j x, xs[j]? = some x → ¬ (-1000000 ≤ x ∧ x ≤ 1000000) → ¬ okZ xs = true := fun j x hj h hk => h (okZ_mem hk (List.mem_of_getElem? hj))
  obtain ⟨V, hV⟩ : ∃ V : Int, V = if okZ xs = true then 0 else 9 := ⟨_, rfl⟩
  have HALL := Lib.hid (fun h => show V = 0 by rw [hV, if_pos (hall h)])
  have HBAD := Lib.hid (fun j x hj h => show V = 9 by rw [hV, if_neg (hbad j x hj h)])
  rw [← hV]
  clear hr hV hall hbad
  go_enter Tryz.func41, Tryz.ntmps41
  go_wp2
  go_loopw [3] (fun kv wr => ∃ k : Nat, kv = .int .i64 (k : Nat) ∧ k ≤ xs.length ∧ (∀ j x, j < k → xs[j]? = some x → -1000000 ≤ x ∧ x ≤ 1000000) ∧ Below w.heap.size w wr) (fun kv _ => xs.length - (intOf kv).toNat)
  case atStart => exact ⟨0, rfl, Nat.zero_le _, fun j x h => by omega, Below.refl _ _⟩
  case round =>
    obtain ⟨k, rfl, hk, hok, hbw⟩ := hrel
    have HBW := Lib.hid hbw
    have HOK := Lib.hid hok
    by_cases hlt : k < xs.length
    · obtain ⟨b, o, u, rfl, hb, hu, qk⟩ := (HR.out.old hbw).at1 hlt
      obtain ⟨x, ht, rfl⟩ := ints_get hu
      have HT := Lib.hid ht
      clear hok hbw hu ht
      by_cases h1 : x < -1000000
      · have t1 : decide (x < -1000000) = true := decide_eq_true h1
        have HV := Lib.hid (HBAD.out k x HT.out (by omega))
        go_wp2
        go_ret
        exact ⟨by rw [HV.out]; rfl, HBW.out⟩
      · have t1 : decide (x < -1000000) = false := decide_eq_false h1
        by_cases h2 : 1000000 < x
        · have t2 : decide (1000000 < x) = true := decide_eq_true h2
          have HV := Lib.hid (HBAD.out k x HT.out (by omega))
          go_wp2
          go_ret
          exact ⟨by rw [HV.out]; rfl, HBW.out⟩
        · have t2 : decide (1000000 < x) = false := decide_eq_false h2
          go_wp2
          go_roundw
          case rel => exact ⟨k + 1, by go_num, by omega, fun j z hj hz => by
            rcases Nat.lt_or_ge j k with g | g
            · exact HOK.out j z g hz
            · obtain rfl : j = k := by omega
              rw [HT.out] at hz
              obtain rfl := Option.some.inj hz
              omega, HBW.out⟩
          case measure => simp [intOf]; omega
    · have HV := Lib.hid (HALL.out (fun j x hj => HOK.out j x (by have := (List.getElem?_eq_some_iff.1 hj).1; omega) hj))
      clear hok hbw
      go_wp2
      go_ret
      exact ⟨by rw [HV.out]; rfl, HBW.out⟩
end Go.Proofs.YtnapdhfkgfjjfaaGreatDoor

/- Package dynamometerref10: sign, samplesFault. -/
namespace Go.Proofs.YtnapdhfkgfjjfaaGreatDoor
open Go Go.RowKit Go.Proofs

set_option maxHeartbeats 8000000 in
set_option maxRecDepth 100000 in
theorem rSgn10_any (x : Int) (w : World) :
    Calls Tryz.prog 42 #[.int .i64 x] w fun e w' => e = .returned (.int .i64 (if x < 0 then -1 else if 0 < x then 1 else 0)) ∧ Below w.heap.size w w' := by
  by_cases h1 : x < 0
  · have t1 : decide (x < 0) = true := decide_eq_true h1
    rw [if_pos h1]
    go_enter Tryz.func42, Tryz.ntmps42
    go_wp2
    go_ret
    exact ⟨rfl, Below.refl _ _⟩
  · have t1 : decide (x < 0) = false := decide_eq_false h1
    rw [if_neg h1]
    by_cases h2 : 0 < x
    · have t2 : decide (0 < x) = true := decide_eq_true h2
      rw [if_pos h2]
      clear h1
      go_enter Tryz.func42, Tryz.ntmps42
      go_wp2
      go_ret
      exact ⟨rfl, Below.refl _ _⟩
    · have t2 : decide (0 < x) = false := decide_eq_false h2
      rw [if_neg h2]
      clear h1 h2
      go_enter Tryz.func42, Tryz.ntmps42
      go_wp2
      go_ret
      exact ⟨rfl, Below.refl _ _⟩
set_option maxHeartbeats 8000000 in
set_option maxRecDepth 100000 in
theorem rSgn10s_any (x : Int) (w : World) :
    Calls Tryz.prog 42 #[.int .i64 x] w fun e w' => e = .returned (.int .i64 (if x < 0 then -1 else if 0 < x then 1 else 0)) ∧ w' = w := by
  by_cases h1 : x < 0
  · have t1 : decide (x < 0) = true := decide_eq_true h1
    rw [if_pos h1]
    go_enter Tryz.func42, Tryz.ntmps42
    go_wp2
    go_ret
    exact ⟨rfl, rfl⟩
  · have t1 : decide (x < 0) = false := decide_eq_false h1
    rw [if_neg h1]
    by_cases h2 : 0 < x
    · have t2 : decide (0 < x) = true := decide_eq_true h2
      rw [if_pos h2]
      clear h1
      go_enter Tryz.func42, Tryz.ntmps42
      go_wp2
      go_ret
      exact ⟨rfl, rfl⟩
    · have t2 : decide (0 < x) = false := decide_eq_false h2
      rw [if_neg h2]
      clear h1 h2
      go_enter Tryz.func42, Tryz.ntmps42
      go_wp2
      go_ret
      exact ⟨rfl, rfl⟩
theorem okZ_two (a b : List Int) : okZ (a ++ b) = (okZ a && okZ b) := by unfold okZ; rw [List.all_append]
set_option maxHeartbeats 8000000 in
set_option maxRecDepth 100000 in
theorem rSmpF_any (A B : Option Addr) (c d : Nat) (a b : List Int) (m : Int) (w : World) (hr1 : Rd w 0 w.heap.size 1 A a.length (ints a)) (hr2 : Rd w 0 w.heap.size 1 B b.length (ints b)) (hm : m ≤ 1000) (hs : a.length + b.length ≤ 9000000000000000000) :
    Calls Tryz.prog 33 #[.slice A a.length c, .slice B b.length d, .int .i64 m] w fun e w' => e = .returned (.int .i64 (smC a b m)) ∧ Below w.heap.size w w' := by
  have HR1 := Lib.hid hr1
  have HR2 := Lib.hid hr2
  clear hr1 hr2
  by_cases ha : a.length = 0
  · rw [smC_empty (.inl ha)]
    have t1 : ((a.length : Int) == 0) = true := by rw [ha]; rfl
    go_enter Tryz.func33, Tryz.ntmps33
    go_wp2
    go_ret
    exact ⟨rfl, Below.refl _ _⟩
  · have t1 : ((a.length : Int) == 0) = false := by rw [beq_eq_false_iff_ne]; omega
    by_cases hb : b.length = 0
    · rw [smC_empty (.inr hb)]
      have t2 : ((b.length : Int) == 0) = true := by rw [hb]; rfl
      clear ha
      go_enter Tryz.func33, Tryz.ntmps33
      go_wp2
      go_ret
      exact ⟨rfl, Below.refl _ _⟩
    · have t2 : ((b.length : Int) == 0) = false := by rw [beq_eq_false_iff_ne]; omega
      have hab : ¬ (a.length = 0 ∨ b.length = 0) := by omega
      by_cases hl : m < (a.length : Int) + (b.length : Int)
      · rw [smC_size hab hl]
        have t3 : decide (m < (a.length : Int) + (b.length : Int)) = true := decide_eq_true hl
        clear ha hb hab
        go_enter Tryz.func33, Tryz.ntmps33
        go_wp2
        go_ret
        exact ⟨rfl, Below.refl _ _⟩
      · rw [smC_num hab hl, okZ_two]
        have t3 : decide (m < (a.length : Int) + (b.length : Int)) = false := decide_eq_false hl
        have HC1 := Lib.hid (rNumF_any A c a w HR1.out (by omega))
        have HC2 := Lib.hid (fun W (hW : Below w.heap.size w W) => rNumF_any B d b W (HR2.out.old hW) (by omega))
        clear ha hb hab
        by_cases ho : okZ a = true
        · rw [if_pos ho] at HC1
          rw [ho, Bool.true_and]
          obtain ⟨V, hV⟩ : ∃ V : Int, V = if okZ b = true then 0 else 9 := ⟨_, rfl⟩
          rw [← hV] at HC2 ⊢
          clear hV ho
          go_enter Tryz.func33, Tryz.ntmps33
          go_wp2_with fail
          (with_reducible refine (HC1.out).mono ?_)
          rintro e w1 ⟨rfl, hb1⟩
          have HB1 := Lib.hid hb1
          clear hb1
          go_wp2_with fail
          (with_reducible refine (HC2.out w1 HB1.out).mono ?_)
          rintro e w2 ⟨rfl, hb2⟩
          have HB2 := Lib.hid (below_next HB1.out hb2)
          clear hb2
          go_wp2
          go_ret
          exact ⟨rfl, HB2.out⟩
        · rw [if_neg ho] at HC1
          have e : (okZ a && okZ b) = false := by rw [Bool.eq_false_iff.2 ho]; rfl
          rw [e, if_neg (by decide)]
          clear e ho
          go_enter Tryz.func33, Tryz.ntmps33
          go_wp2_with fail
          (with_reducible refine (HC1.out).mono ?_)
          rintro e w1 ⟨rfl, hb1⟩
          have HB1 := Lib.hid hb1
          clear hb1
          go_wp2
          go_ret
          exact ⟨rfl, HB1.out⟩
end Go.Proofs.YtnapdhfkgfjjfaaGreatDoor
