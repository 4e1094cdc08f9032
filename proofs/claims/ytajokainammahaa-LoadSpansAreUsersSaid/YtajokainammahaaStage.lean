/- Package load: users: the crowd in a stage. -/
import Derived.Test.YtajokainammahaaCrowd
namespace Go.Proofs.Ytajokainammahaa
open Go Go.RowKit Go.Proofs

theorem step_le {s : Int × Int × Int} {b : Int} (h : OkU s) (hb : 0 ≤ b) : ∀ (f : Nat) (n : Int) (c : Crd) (p : Int), InSt s b n c p → (c.1.length : Int) ≤ c.2 → (stepC s b f n c).2 ≤ max c.2 1010000 ∧ ((stepC s b f n c).1.length : Int) ≤ (stepC s b f n c).2
  | 0, n, c, p, hi, hl => ⟨by simp only [stepC]; omega, hl⟩
  | f + 1, n, c, p, hi, hl => by
    unfold stepC
    split
    · rename_i hc
      split
      · exact ⟨by omega, hl⟩
      · rename_i hlt
        have h1 := in_next h hb hi hc.2.1 hc.2.2 hlt
        have hr := num_range h h1.1.p0 (Int.le_of_lt h1.1.p1)
        have h2 := setC_le (t := b + nextS s n) (n := numS s (nextS s n)) hi.asc hr.1 hr.2
        have h3 := setC_len c (b + nextS s n) (numS s (nextS s n))
        have ih := step_le h hb f _ _ _ h1.1 (by omega)
        omega
    · exact ⟨by omega, hl⟩
theorem stage_le {s : Int × Int × Int} {b : Int} {c : Crd} (h : OkU s) (hb : 0 ≤ b) (ha : Asc c.1 b) (hl : (c.1.length : Int) ≤ c.2) (h0 : 0 ≤ c.2) : (stageC c s b).2 ≤ c.2 + 2010000 ∧ ((stageC c s b).1.length : Int) ≤ (stageC c s b).2 := by
  have o := h
  obtain ⟨o1, o2, o3, o4, o5, o6⟩ := o
  have h2 := setC_le (t := b) (n := s.2.1 / 1000) ha (by omega) (by omega)
  have h3 := setC_len c b (s.2.1 / 1000)
  have := step_le h hb 10002 _ _ _ (stage_in h hb ha) (by omega)
  unfold stageC
  omega

theorem step_stop {s : Int × Int × Int} {b n : Int} {c : Crd} (f : Nat) (h : ¬ (c.2 ≤ 10000 ∧ s.2.1 ≠ s.2.2 ∧ n ≠ s.2.2 / 1000)) : stepC s b f n c = c := by
  cases f with
  | zero => rfl
  | succ f => unfold stepC; rw [if_neg h]
theorem step_out {s : Int × Int × Int} {b n : Int} {c : Crd} (f : Nat) (h : s.1 ≤ nextS s n) : stepC s b f n c = c := by
  cases f with
  | zero => rfl
  | succ f => unfold stepC; rw [if_pos h]; split <;> rfl
theorem step_on {s : Int × Int × Int} {b n : Int} {c : Crd} (f : Nat) (h : c.2 ≤ 10000 ∧ s.2.1 ≠ s.2.2 ∧ n ≠ s.2.2 / 1000) (h2 : ¬ s.1 ≤ nextS s n) : stepC s b (f + 1) n c = stepC s b f (numS s (nextS s n)) (setC c (b + nextS s n) (numS s (nextS s n))) := by
  conv => lhs; unfold stepC
  rw [if_pos h, if_neg h2]
theorem stageC_eq (c : Crd) (F x y b : Int) : stageC c (F, x, y) b = stepC (F, x, y) b 10002 (x / 1000) (setC c b (x / 1000)) := by unfold stageC; simp only

set_option maxHeartbeats 4000000 in
set_option maxRecDepth 100000 in
theorem crowdStage_any (P : Nat) (v : Value) (c : Crd) (F x y b : Int) (w : World) (h : CrdIn w P v c) (hS : OkU (F, x, y)) (hb0 : 0 ≤ b) (hb1 : b ≤ 10000000000000) (ha : Asc c.1 b) (hs0 : 0 ≤ c.2) (hlen : (c.1.length : Int) ≤ c.2) (hs : c.2 ≤ 500000000) :
    Calls Try.prog 23 #[.pointer (some ⟨P, 0, none⟩), .agg #[.int .i64 F, .int .i64 x, .int .i64 y], .int .i64 b] w fun e w' => e = .returned (.tuple #[]) ∧ CrdPost w P v (stageC c (F, x, y) b) w' := by
  have hP : P < w.heap.size := heap_lt h.box
  have HC := Lib.hid h
  have HSS := Lib.hid hS
  obtain ⟨o1, o2, o3, o4, o5, o6⟩ := hS
  simp only at o1 o2 o3 o4 o5 o6
  have HIN := Lib.hid (show InSt (F, x, y) b (x / 1000) (setC c b (x / 1000)) 0 from stage_in HSS.out hb0 ha)
  have hle1 := setC_le (t := b) (n := x / 1000) ha (by omega) (by omega)
  have hle2 := setC_len c b (x / 1000)
  have hnow := ha.now
  have HST := Lib.hid (stageC_eq c F x y b)
  obtain ⟨c0, hc0⟩ : ∃ c0, c0 = setC c b (x / 1000) := ⟨_, rfl⟩
  obtain ⟨W0, hW0⟩ : ∃ W0, W0 = w.alloc (.cells #[.int .i64 F, .int .i64 x, .int .i64 y] 53) := ⟨_, rfl⟩
  have hb0w : Below w.heap.size w W0 := by rw [hW0]; exact (Below.refl _ w).alloc (Nat.le_refl _) _
  have hs0w : W0.heap.size = w.heap.size + 1 := by rw [hW0]; simp
  have hbx : W0.heap[w.heap.size]? = some (.cells #[.int .i64 F, .int .i64 x, .int .i64 y] 53 (0, 0)) := by rw [hW0]; exact alloc_at _ _ _ rfl
  have hown := fun i (hi : some i = v.ownBlock) => (ownsRow_block h.own hi).2
  have HBX := Lib.hid (fun (W : World) (hf : Fr (fun i => i = P ∨ some i = v.ownBlock) W0 W) => show W.heap[w.heap.size]? = some (.cells #[.int .i64 F, .int .i64 x, .int .i64 y] 53 (0, 0)) from (hf.block _ (by omega) (fun hm => by
    rcases hm with h1 | h1
    · omega
    · have := hown _ h1; omega)).trans hbx)
  have HB0 := Lib.hid hb0w
  have HSET0 := Lib.hid (crowdSet_any P v c b (x / 1000) W0 (h.on hb0w) (by omega) hs0 (by omega) hnow (by omega) (by omega))
  rw [← hc0] at HIN hle1 hle2 HST HSET0
  have hx0 : x.tdiv 1000 = x / 1000 := Int.tdiv_eq_ediv_of_nonneg (by omega)
  have hy0 : y.tdiv 1000 = y / 1000 := Int.tdiv_eq_ediv_of_nonneg (by omega)
  obtain ⟨n0, hn0⟩ : ∃ n0, n0 = x / 1000 := ⟨_, rfl⟩
  obtain ⟨Y, hY⟩ : ∃ Y, Y = y / 1000 := ⟨_, rfl⟩
  rw [← hn0] at HIN HST HSET0 hx0
  rw [← hY] at hy0
  have k0 : W0.cell? ⟨w.heap.size, 0, none⟩ = some (.int .i64 F) := by rw [cellsAt hbx]; rfl
  have k1 : W0.cell? ⟨w.heap.size, 1, none⟩ = some (.int .i64 x) := by rw [cellsAt hbx]; rfl
  have k2 : W0.cell? ⟨w.heap.size, 2, none⟩ = some (.int .i64 y) := by rw [cellsAt hbx]; rfl
  have HYY := Lib.hid hY
  have hn0a : 0 ≤ n0 := by omega
  have hn0b : n0 ≤ 1000000 := by omega
  have hYa : 0 ≤ Y := by omega
  have hYb : Y ≤ 1000000 := by omega
  clear ha hn0 hY hc0 h hb0w hown hbx hnow
  go_enter Try.func23, Try.ntmps23
  go_wp2_with fail
  rw [← hW0]
  clear hW0
  refine HSET0.out.mono ?_
  rintro e w1 ⟨rfl, hp1⟩
  have HP1 := Lib.hid hp1
  clear hp1
  go_wp2_with fail
  go_loopw [6, 7] (fun nv _ wr => ∃ (f : Nat) (n : Int) (cc : Crd) (p : Int), nv = .int .i64 n ∧ InSt (F, x, y) b n cc p ∧ 10002 ≤ (f : Int) + cc.2 ∧ (cc.1.length : Int) ≤ cc.2 ∧ cc.2 ≤ 600000000 ∧ stepC (F, x, y) b f n cc = stageC c (F, x, y) b ∧ CrdPost W0 P v cc wr) (fun _ _ wr => (1000000000 - intOf ((wr.cell? ⟨P, 1, none⟩).getD undef)).toNat)
  case atStart => exact ⟨10002, n0, c0, 0, rfl, HIN.out, by omega, by omega, by omega, HST.out.symm, HP1.out⟩
  case round =>
    obtain ⟨f, n, cc, p, rfl, hin, hf, hl, hcs, hst, hpost⟩ := hrel
    obtain ⟨v1, hc1, ho1, hf1⟩ := hpost
    have HCR := Lib.hid hc1
    have HO := Lib.hid ho1
    have HF := Lib.hid hf1
    have HI := Lib.hid hin
    have HSTP := Lib.hid hst
    have hbr := HBX.out wr hf1
    have d0 : wr.cell? ⟨w.heap.size, 0, none⟩ = some (.int .i64 F) := by rw [cellsAt hbr]; rfl
    have d1 : wr.cell? ⟨w.heap.size, 1, none⟩ = some (.int .i64 x) := by rw [cellsAt hbr]; rfl
    have d2 : wr.cell? ⟨w.heap.size, 2, none⟩ = some (.int .i64 y) := by rw [cellsAt hbr]; rfl
    have hnr := num_range HSS.out hin.p0 (Int.le_of_lt hin.p1)
    rw [← hin.num] at hnr
    have hnow := hin.asc.now
    have hsb := heap_lt hbr
    obtain ⟨c0_, c1_, z0, z1, hPr⟩ := hc1.cells
    have hEND : ∀ W, Below wr.heap.size wr W → stepC (F, x, y) b f n cc = cc → CrdPost w P v (stageC c (F, x, y) b) W := fun W hb he => by
      rw [← HSTP.out, he]
      exact CrdPost.ahead HC.out HB0.out (CrdPost.behind ⟨v1, HCR.out, HO.out, HF.out⟩ hb)
    have HEND := Lib.hid hEND
    clear hin hst hc1 ho1 hf1 hbr hEND
    by_cases g1 : cc.2 ≤ 10000
    · have t1 : decide (cc.2 ≤ 10000) = true := by simpa using g1
      by_cases g2 : x = y
      · have t2 : (x != y) = false := by simpa using g2
        have HE := Lib.hid (HEND.out wr (Below.refl _ _) (step_stop f (fun h => h.2.1 g2)))
        clear g2
        go_wp2
        go_end0
        exact ⟨rfl, HE.out⟩
      · have t2 : (x != y) = true := by simpa using g2
        by_cases g3 : n = Y
        · have HE := Lib.hid (HEND.out wr (Below.refl _ _) (step_stop f (fun h => h.2.2 (by rw [g3, HYY.out]))))
          have t3 : (n != Y) = false := by simpa using g3
          clear g3
          go_wp2
          go_end0
          exact ⟨rfl, HE.out⟩
        · have t3 : (n != Y) = true := by simpa using g3
          obtain ⟨f, rfl⟩ : ∃ f', f = f' + 1 := ⟨f - 1, by omega⟩
          have hcond : cc.2 ≤ 10000 ∧ (F, x, y).2.1 ≠ (F, x, y).2.2 ∧ n ≠ (F, x, y).2.2 / 1000 := ⟨g1, g2, by show n ≠ y / 1000; rw [← HYY.out]; exact g3⟩
          have hnb := next_bd HSS.out HI.out.p0 HI.out.p1 HI.out.num g2 hcond.2.2
          have hnbd := num_bd HSS.out HI.out.p0 (Int.le_of_lt HI.out.p1)
          rw [← HI.out.num] at hnbd
          have HNX := Lib.hid (fun W => next_any F x y n W HSS.out hnr.1 hnr.2 g2 (fun h => ⟨by have := (hnbd.1 h).1; omega, hnb.2.2.2.1 h⟩) hnb.2.2.2.2)
          have HON := Lib.hid (fun h2 => step_on (b := b) f hcond h2)
          have HOUT := Lib.hid (fun (h2 : F ≤ nextS (F, x, y) n) W hb => HEND.out W hb (step_out (f + 1) h2))
          have HIN2 := Lib.hid (fun h2 => in_next HSS.out hb0 HI.out g2 hcond.2.2 h2)
          have HNUM := Lib.hid (fun W h0 h1 => number_any F x y (nextS (F, x, y) n) W HSS.out h0 h1)
          have hnx0 : 0 ≤ nextS (F, x, y) n := by have := hnb.1; have := HI.out.p0; omega
          have hnx1 := hnb.2.1
          simp only at HON HOUT HIN2
          obtain ⟨nx, hnx⟩ : ∃ nx, nx = nextS (F, x, y) n := ⟨_, rfl⟩
          rw [← hnx] at HNX HON HOUT HIN2 HNUM hnx0 hnx1
          clear hnb hnbd hcond hnx g3
          by_cases g4 : F ≤ nx
          · have t4 : decide (F ≤ nx) = true := by simpa using g4
            have HE := Lib.hid (HOUT.out g4)
            go_wp2_with fail
            refine (HNX.out _).mono ?_
            rintro e w2 ⟨rfl, hb2⟩
            have e0 := (hb2.cell (p := ⟨w.heap.size, 0, none⟩) hsb).trans d0
            go_wp2
            refine bodyPost_ret (v := .tuple #[]) (by simp [results, Try.results23, go_sem]) rfl ⟨rfl, ?_⟩
            exact HE.out _ hb2
          · have t4 : decide (F ≤ nx) = false := by simpa using g4
            obtain ⟨hin2, hlt2⟩ := HIN2.out g4
            have hon := HON.out g4
            have HNU := Lib.hid (fun W => HNUM.out W hnx0 hnx1)
            have hnr2 := num_range HSS.out hnx0 hnx1
            have hsl := setC_le (t := b + nx) (n := numS (F, x, y) nx) HI.out.asc hnr2.1 hnr2.2
            have hsn := setC_len cc (b + nx) (numS (F, x, y) nx)
            have HSE := Lib.hid (fun W (hc : CrdIn W P v1 cc) => crowdSet_any P v1 cc (b + nx) (numS (F, x, y) nx) W hc (by omega) (by omega) (by omega) hnow hnr2.1 hnr2.2)
            obtain ⟨nn, hnn⟩ : ∃ nn, nn = numS (F, x, y) nx := ⟨_, rfl⟩
            obtain ⟨c3, hc3⟩ : ∃ c3, c3 = setC cc (b + nx) nn := ⟨_, rfl⟩
            rw [← hnn] at HSE hsl hsn hin2 hon hnr2 hlt2 HNU
            rw [← hc3] at HSE hsl hsn hin2 hon hlt2
            have HIN3 := Lib.hid hin2
            have HON3 := Lib.hid (hon.symm.trans HSTP.out)
            clear hin2 hon hnn hc3
            go_wp2_with fail
            refine (HNX.out _).mono ?_
            rintro e w2 ⟨rfl, hb2⟩
            have HB2 := Lib.hid hb2
            have e0 := (hb2.cell (p := ⟨w.heap.size, 0, none⟩) hsb).trans d0
            have e1 := (hb2.cell (p := ⟨w.heap.size, 1, none⟩) hsb).trans d1
            have e2 := (hb2.cell (p := ⟨w.heap.size, 2, none⟩) hsb).trans d2
            clear hb2 d0 d1 d2
            go_wp2_with fail
            refine (HNU.out _).mono ?_
            rintro e w3 ⟨rfl, hb3⟩
            have HB3 := Lib.hid (below_next HB2.out hb3)
            clear hb3 e0 e1 e2
            go_wp2_with fail
            refine (HSE.out _ (HCR.out.on HB3.out)).mono ?_
            rintro e w4 ⟨rfl, hp4⟩
            have HP4 := Lib.hid (CrdPost.step HO.out HF.out (CrdPost.ahead HCR.out HB3.out hp4))
            have e1 : (wr.cell? ⟨P, 1, none⟩).getD undef = .int .i64 cc.2 := by rw [c1_]; rfl
            have e2 : (w4.cell? ⟨P, 1, none⟩).getD undef = .int .i64 c3.2 := by
              obtain ⟨v4, hc4, _⟩ := hp4
              rw [hc4.cells.2.1]; rfl
            clear hp4 c0_ c1_ z0 z1
            go_wp2
            go_roundw
            case rel => exact ⟨f, nn, c3, nx, rfl, HIN3.out, by omega, by omega, by omega, HON3.out, HP4.out⟩
            case measure => rw [e1, e2]; simp [intOf]; omega
    · have t1 : decide (cc.2 ≤ 10000) = false := by simpa using g1
      have HE := Lib.hid (HEND.out wr (Below.refl _ _) (step_stop f (fun h => g1 h.1)))
      go_wp2
      go_end0
      exact ⟨rfl, HE.out⟩
end Go.Proofs.Ytajokainammahaa
