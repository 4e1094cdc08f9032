/- Package dynamometerref10: the line that is nearest to points. Printed by gen_r10line.py. -/
import Derived.Test.YtpmnhdgajkickaaGreatDoorR10Fit
import Derived.Test.YtpmnhdgajkickaaGreatDoorB25
import Derived.Test.YtpmnhdgajkickaaGreatDoorTx
import Derived.BigQuiet
import Derived.Deep.QuietTactic
namespace Go.Proofs.YtpmnhdgajkickaaGreatDoor
open Go Go.RowKit Go.Proofs

def difB (xs : List Int) (k : Nat) : Bool := (xs.take k).any (· != xs.headD 0)
theorem difB_one (xs : List Int) : difB xs 1 = false := by
  cases xs with
  | nil => rfl
  | cons a t => simp [difB]
theorem difB_next {xs : List Int} {k : Nat} {x x0 : Int} (h : xs[k]? = some x) (h0 : xs[0]? = some x0) : difB xs (k + 1) = (difB xs k || x != x0) := by
  have e : xs.headD 0 = x0 := by
    cases xs with
    | nil => cases h0
    | cons a t => simpa using h0
  unfold difB
  rw [List.take_add_one, h, e, List.any_append]
  simp
theorem dif_zip {xs ys : List Int} (hl : xs.length = ys.length) : (xs.zip ys).map (·.1) = xs := by
  have := List.map_fst_zip (l₁ := xs) (l₂ := ys) (by omega)
  exact this
theorem difB_all {xs ys : List Int} (hl : xs.length = ys.length) : difB xs xs.length = false ↔ vXX (xs.zip ys) = 0 := by
  rw [vXX_eq, dif_zip hl]
  unfold difB
  rw [List.take_length]
  cases xs with
  | nil => simp [vZ, sqs]
  | cons a t =>
    constructor
    · intro h
      refine vZ_same (x := a) (fun z hz => ?_)
      have := List.any_eq_false.1 h z hz
      simpa using this
    · intro h
      rw [List.any_eq_false]
      intro z hz
      rcases List.mem_cons.1 hz with rfl | hz
      · simp
      · have := vZ_zero h z hz
        simp [this]
theorem linAB_sz {l : List (Int × Int)} (hb : BndP l) (hx : 0 < vXX l) : Sz 100000 (linA l) ∧ Sz 100000 (linB l) := by
  have hn := vXX_len (l := l) (by omega)
  obtain ⟨⟨q1, q2⟩, ⟨q3, q4⟩, q5, q6⟩ := hb.spr
  have T5 : ∀ z : Nat, z < 1000000000000000000 → z < T4 ^ 5 := fun z hz => Nat.lt_of_lt_of_le hz (by unfold T4; decide)
  have z1 : Sz 5 (linA l) := by rw [← linA_mk hx]; exact sz_part2 (T5 _ (by omega)) (by omega) (T5 _ (by omega))
  have z2 : Sz 5 (pX l : Rat) := sz_int2 (T5 _ (by have := hb.x1; have := hb.x2; omega)) (by omega)
  have z3 : Sz 5 (pY l : Rat) := sz_int2 (T5 _ (by have := hb.y1; have := hb.y2; omega)) (by omega)
  have z6 : Sz 2 (mkRat 1 l.length) := sz_part2 (T4_small (by decide) (by omega)) hn (T4_small (by have := hb.n; omega) (by omega))
  refine ⟨z1.mono (by omega), ?_⟩
  rw [← linB_mk l]
  exact (sz_mul (sz_sub z3 (sz_mul z1 z2)) z6).mono (by omega)
set_option maxHeartbeats 8000000 in
set_option maxRecDepth 100000 in
theorem r10Line_any (A B : Option Addr) (ca cb : Nat) (xs ys : List Int) (w : World) (hr1 : Rd w 0 w.heap.size 1 A xs.length (ints xs)) (hr2 : Rd w 0 w.heap.size 1 B ys.length (ints ys)) (htab : Tab w.heap.size w) :
    Calls Tryz.prog 26 #[.slice A xs.length ca, .slice B ys.length cb] w fun e w' => e = .returned (.tuple #[ratOf (lnA xs ys), ratOf (lnB xs ys), .int .i64 (lnC xs ys)]) ∧ Below w.heap.size w w' := by
  obtain ⟨W0, hW0⟩ : ∃ W0, W0 = (w.alloc (.cells #[.string ⟨#[]⟩, .string ⟨#[]⟩] 23)).alloc (.cells #[.string ⟨#[]⟩, .string ⟨#[]⟩] 23) := ⟨_, rfl⟩
  have HST0 := Lib.hid (show St w W0 [(w.heap.size, .cells #[.string ⟨#[]⟩, .string ⟨#[]⟩] 23 (0, 0)), (w.heap.size + 1, .cells #[.string ⟨#[]⟩, .string ⟨#[]⟩] 23 (0, 0))] by rw [hW0]; exact ((St.start w).alloc _ _ rfl).alloc _ _ (by simp))
  have HSL := Lib.hid (show Txt2 W0 w.heap.size ⟨#[]⟩ ⟨#[]⟩ from HST0.out.at 0 rfl)
  have HOF := Lib.hid (show Txt2 W0 (w.heap.size + 1) ⟨#[]⟩ ⟨#[]⟩ from HST0.out.at 1 rfl)
  have HR1 := Lib.hid (fun W (hW : Below w.heap.size w W) => hr1.old hW)
  have HCK := Lib.hid (rPtsF_any A B ca cb xs ys W0 (hr1.old HST0.out.below) (hr2.old HST0.out.below))
  have hs0 : W0.heap.size = w.heap.size + 1 + 1 := by rw [hW0]; simp
  by_cases hp : ptC xs ys = 0
  · obtain ⟨hl, hn, hok⟩ := ptC_ok hp
    have hA := lnC_a hp
    have hB := lnC_b hp
    have hX := lnC_xx hp
    have hbad := ln_bad (xs := xs) (ys := ys)
    have hgood := ln_good (xs := xs) (ys := ys)
    have hdif := difB_all hl
    have HFIT := Lib.hid (fun W (hW : Below w.heap.size w W) (hpos : 0 < vXX (xs.zip ys)) => r10Fitted_any A B ca cb xs ys W (hr1.old hW) (hr2.old hW) hl hn hok hpos)
    have hsz := fun hx => linAB_sz (bndP hok (by rw [List.length_zip]; omega)) hx
    obtain ⟨l, hlz⟩ : ∃ l, l = xs.zip ys := ⟨_, rfl⟩
    rw [← hlz] at hok hA hB hX hgood hdif HFIT hsz
    obtain ⟨LC, hLC⟩ : ∃ z, z = lnC xs ys := ⟨_, rfl⟩
    obtain ⟨LA, hLA⟩ : ∃ z, z = lnA xs ys := ⟨_, rfl⟩
    obtain ⟨LB, hLB⟩ : ∃ z, z = lnB xs ys := ⟨_, rfl⟩
    rw [← hLC] at hA hB hX hbad hgood
    rw [← hLA, ← hLB] at hbad hgood
    rw [← hLC, ← hLA, ← hLB]
    rw [hp] at HCK
    rw [← hl]
    rw [← hl] at HCK HFIT
    obtain ⟨n, hnn⟩ : ∃ n, n = xs.length := ⟨_, rfl⟩
    have HN := Lib.hid hnn
    rw [← hnn] at HCK hn hdif HFIT ⊢
    have HTB := Lib.hid (fun W (hW : Below w.heap.size w W) => (htab.on hW).mono hW.size)
    have HA := Lib.hid hA
    have HB' := Lib.hid hB
    have HX := Lib.hid hX
    have HBAD := Lib.hid hbad
    have HGOOD := Lib.hid hgood
    have HDIF := Lib.hid hdif
    have HSZ := Lib.hid hsz
    have HPOS := Lib.hid (vXX_nonneg l)
    clear hr1 hr2 htab hp hl hok hlz hLC hLA hLB hnn hA hB hX hbad hgood hdif hsz
    go_enter Tryz.func26, Tryz.ntmps26
    go_wp2_with fail
    rw [← hW0]
    clear hW0
    (with_reducible refine (HCK.out).mono ?_)
    rintro e w1 ⟨rfl, hb1⟩
    have HB1 := Lib.hid hb1
    clear hb1
    go_wp2
    go_loopw [8, 9] (fun dv kv wr => ∃ k : Nat, kv = .int .i64 (k : Nat) ∧ 1 ≤ k ∧ (k ≤ n ∨ k = 1) ∧ dv = .bool (difB xs k) ∧ Below W0.heap.size W0 wr) (fun _ kv _ => n + 1 - (intOf kv).toNat)
    case atStart => exact ⟨1, rfl, by omega, .inr rfl, by rw [difB_one], HB1.out⟩
    case round =>
      obtain ⟨k, rfl, hk1, hk2, rfl, hbw⟩ := hrel
      have HBW := Lib.hid hbw
      obtain ⟨df, hdf⟩ : ∃ d, d = difB xs k := ⟨_, rfl⟩
      rw [← hdf]
      have HDF := Lib.hid hdf
      clear hdf
      by_cases hlt : k < n
      · obtain ⟨b, o, u, hAx, hb, hu, qk⟩ := (HR1.out wr (below_next HST0.out.below hbw)).at1 (show k < xs.length by rw [← HN.out]; exact hlt)
        obtain ⟨x, hx, rfl⟩ := ints_get hu
        obtain ⟨b', o', u', hAx', hb', hu', q0⟩ := (HR1.out wr (below_next HST0.out.below hbw)).at1 (show 0 < xs.length by rw [← HN.out]; omega)
        obtain ⟨x0, hx0, rfl⟩ := ints_get hu'
        subst hAx
        simp only [Option.some.injEq, Addr.mk.injEq, and_true] at hAx'
        obtain ⟨rfl, rfl⟩ := hAx'
        have HNXT := Lib.hid (difB_next hx hx0)
        have hn0 : 0 < n := by omega
        rw [Nat.add_zero] at q0
        clear hbw hu hx hu' hx0
        cases df with
        | true =>
          go_wp2_with fail
          go_quiet (fail)
          go_wp2
          go_roundw
          case rel => exact ⟨k + 1, by go_num, by omega, .inl (by omega), by rw [HNXT.out, ← HDF.out]; rfl, by first | exact HBW.out | exact below_drewN HBW.out _⟩
          case measure => simp [intOf]; omega
        | false =>
          obtain ⟨zb, hzb⟩ : ∃ z, z = (x != x0) := ⟨_, rfl⟩
          have HZ := Lib.hid hzb
          by_cases hxx : x = x0
          · have t1 : (x != x0) = false := by rw [hxx]; simp
            clear hzb
            go_wp2_with fail
            go_quiet (fail)
            go_wp2
            go_roundw
            case rel => exact ⟨k + 1, by go_num, by omega, .inl (by omega), by rw [HNXT.out, ← HDF.out]; simp [hxx], by first | exact HBW.out | exact below_drewN HBW.out _⟩
            case measure => simp [intOf]; omega
          · have t1 : (x != x0) = true := by rw [bne_iff_ne]; exact hxx
            clear hzb
            go_wp2_with fail
            go_quiet (fail)
            go_wp2
            go_roundw
            case rel => exact ⟨k + 1, by go_num, by omega, .inl (by omega), by rw [HNXT.out, ← HDF.out]; simp [hxx], by first | exact HBW.out | exact below_drewN HBW.out _⟩
            case measure => simp [intOf]; omega
      · have hkn : difB xs k = difB xs n := by
          rcases hk2 with h | h
          · rw [show k = n by omega]
          · subst h
            rcases Nat.eq_zero_or_pos n with h0 | h0
            · subst h0
              rw [difB_one]
              have : xs = [] := List.eq_nil_of_length_eq_zero HN.out.symm
              rw [this]; rfl
            · rw [show n = 1 by omega]
        have HDN := Lib.hid (HDF.out.trans hkn)
        have HBWW := Lib.hid (below_next HST0.out.below hbw)
        obtain ⟨x0, x1, x2, x3, x4⟩ := (HSL.out.on hbw).facts
        obtain ⟨y0, y1, y2, y3, y4⟩ := (HOF.out.on hbw).facts
        clear hbw hkn
        cases df with
        | false =>
          have HC := Lib.hid (HX.out (HDIF.out.1 HDN.out.symm))
          have HF := Lib.hid (HBAD.out (by rw [HC.out]; decide))
          have HFN := Lib.hid (fun a b c d => txt2_below (B := w.heap.size + 1) (txt2_below (B := w.heap.size) HBWW.out (Nat.le_refl _) a b) (by omega) c d)
          go_wp2
          refine bodyPost_ret (v := .tuple #[.agg #[.string ⟨#[]⟩, .string ⟨#[]⟩], .agg #[.string ⟨#[]⟩, .string ⟨#[]⟩], .int .i64 13]) (by simp [results, Tryz.results26, go_sem, x0, x1, y0, y1, x4, y4]) rfl ⟨by rw [HF.out.1, HF.out.2, HC.out]; rfl, by first | exact HFN.out _ _ _ _ | exact HBWW.out⟩
        | true =>
          have hxx : vXX l ≠ 0 := fun h => by have := HDIF.out.2 h; rw [← HDN.out] at this; cases this
          have hpos : 0 < vXX l := by have := HPOS.out; omega
          have HF := Lib.hid (HFIT.out wr HBWW.out hpos)
          have hz := HSZ.out hpos
          have HZA := Lib.hid hz.1
          have HZB := Lib.hid hz.2
          have HAA := Lib.hid (HA.out hxx)
          have HBB := Lib.hid (HB'.out hxx)
          have hrtA : ratOf (rtT (linA l)) = .agg #[.string ⟨(rtT (linA l)).1.toArray⟩, .string ⟨(rtT (linA l)).2.toArray⟩] := rfl
          obtain ⟨R1, hR1⟩ : ∃ R : ByteArray, R = ⟨(rtT (linA l)).1.toArray⟩ := ⟨_, rfl⟩
          obtain ⟨R2, hR2⟩ : ∃ R : ByteArray, R = ⟨(rtT (linA l)).2.toArray⟩ := ⟨_, rfl⟩
          rw [← hR1, ← hR2] at hrtA
          have hrtB : ratOf (rtT (linB l)) = .agg #[.string ⟨(rtT (linB l)).1.toArray⟩, .string ⟨(rtT (linB l)).2.toArray⟩] := rfl
          obtain ⟨R3, hR3⟩ : ∃ R : ByteArray, R = ⟨(rtT (linB l)).1.toArray⟩ := ⟨_, rfl⟩
          obtain ⟨R4, hR4⟩ : ∃ R : ByteArray, R = ⟨(rtT (linB l)).2.toArray⟩ := ⟨_, rfl⟩
          rw [← hR3, ← hR4] at hrtB
          have HRTA := Lib.hid hrtA
          have HRTB := Lib.hid hrtB
          have HRA := Lib.hid (fun v W (hW : Below w.heap.size w W) (hv : FracR W v (linA l)) => rResult_any v (linA l) W hv HZA.out (HTB.out W hW))
          have HRB := Lib.hid (fun v W (hW : Below w.heap.size w W) (hv : FracR W v (linB l)) => rResult_any v (linB l) W hv HZB.out (HTB.out W hW))
          obtain ⟨ra, hra⟩ : ∃ z, z = rtC (linA l) := ⟨_, rfl⟩
          obtain ⟨rb, hrb⟩ : ∃ z, z = rtC (linB l) := ⟨_, rfl⟩
          rw [← hra] at HRA HAA HBB
          rw [← hrb] at HRB HBB
          rw [hrtA] at HRA
          rw [hrtB] at HRB
          clear hxx hpos hz hrtA hrtB hR1 hR2 hR3 hR4 hra hrb x0 x1 x2 x3 x4 y0 y1 y2 y3 y4
          go_wp2_with fail
          (with_reducible refine (HF.out).mono ?_)
          rintro e w2 ⟨v1, v2, v3, rfl, ha, hb, hc, hb2⟩
          obtain ⟨bA, A1, c1, l1, A2, c2, l2, rfl⟩ := ha.shape
          obtain ⟨bB, A3, c3, l3, A4, c4, l4, rfl⟩ := hb.shape
          obtain ⟨bC, A5, c5, l5, A6, c6, l6, rfl⟩ := hc.shape
          obtain ⟨W3, hW3⟩ : ∃ W, W = ((w2.alloc (.cells #[.bool bA, .slice A1 l1.length c1, .slice A2 l2.length c2] 35)).alloc (.cells #[.bool bB, .slice A3 l3.length c3, .slice A4 l4.length c4] 35)).alloc (.cells #[.bool bC, .slice A5 l5.length c5, .slice A6 l6.length c6] 35) := ⟨_, rfl⟩
          have hst : St w2 W3 [(w2.heap.size, .cells #[.bool bA, .slice A1 l1.length c1, .slice A2 l2.length c2] 35 (0, 0)), (w2.heap.size + 1, .cells #[.bool bB, .slice A3 l3.length c3, .slice A4 l4.length c4] 35 (0, 0)), (w2.heap.size + 1 + 1, .cells #[.bool bC, .slice A5 l5.length c5, .slice A6 l6.length c6] 35 (0, 0))] := by rw [hW3]; exact (((St.start w2).alloc _ _ rfl).alloc _ _ (by simp)).alloc _ _ (by simp)
          have HS3 := Lib.hid hst
          have hb03 := below_next HBW.out (below_next hb2 hst.below)
          have HB3 := Lib.hid hb03
          have HRA3 := Lib.hid (HRA.out _ W3 (below_next HST0.out.below hb03) (ha.on hst.below))
          have HVB := Lib.hid (hb.on hst.below)
          have HLW := Lib.hid (show W0.heap.size ≤ W3.heap.size from hb03.size)
          clear ha hb hc hb2 hst hb03
          go_wp2_with fail
          rw [← hW3]
          clear hW3
          (with_reducible refine (HRA3.out).mono ?_)
          rintro e w4 ⟨rfl, hb4⟩
          obtain ⟨W5, hW5⟩ : ∃ W, W = w4.alloc (.cells #[.string R1, .string R2] 23) := ⟨_, rfl⟩
          have hb45 : Below w4.heap.size w4 W5 := by rw [hW5]; exact (Below.refl _ w4).alloc (Nat.le_refl _) _
          obtain ⟨Bx, hBx⟩ : ∃ B, B = w4.heap.size := ⟨_, rfl⟩
          have HTx5 := Lib.hid (show Txt2 W5 Bx R1 R2 by rw [hBx, hW5]; exact alloc_at _ _ _ rfl)
          have hb35 := below_next hb4 hb45
          have HB5 := Lib.hid (below_next HB3.out hb35)
          have HLX := Lib.hid (show W0.heap.size ≤ Bx by rw [hBx]; exact Nat.le_trans HLW.out hb4.size)
          have HVB5 := Lib.hid (HVB.out.on hb35)
          have hst5 := HS3.out.call hb35
          have g0 := hst5.cell 1 0 rfl rfl
          have g1 := hst5.cell 1 1 rfl rfl
          have g2 := hst5.cell 1 2 rfl rfl
          have HQX := Lib.hid hBx
          obtain ⟨x0, x1, x2, x3, x4⟩ := (HSL.out.on HB5.out).facts
          obtain ⟨y0, y1, y2, y3, y4⟩ := (HOF.out.on HB5.out).facts
          rw [hW5] at x0 x1 x2 x3 x4 y0 y1 y2 y3 y4 g0 g1 g2
          clear hb4 hb45 hb35 hBx hst5
          by_cases hra0 : ra = 0
          · have HRB5 := Lib.hid (HRB.out _ W5 (below_next HST0.out.below HB5.out) HVB5.out)
            have HCB := Lib.hid (HBB.out hra0)
            have t3 : (ra != 0) = false := by rw [hra0]; rfl
            subst hra0
            go_wp2_with fail
            rw [← hW5, ← HQX.out]
            clear hW5 x0 x1 x2 x3 x4 y0 y1 y2 y3 y4 g0 g1 g2
            (with_reducible refine (HRB5.out).mono ?_)
            rintro e w6 ⟨rfl, hb6⟩
            obtain ⟨W7, hW7⟩ : ∃ W, W = w6.alloc (.cells #[.string R3, .string R4] 23) := ⟨_, rfl⟩
            have hb67 : Below w6.heap.size w6 W7 := by rw [hW7]; exact (Below.refl _ w6).alloc (Nat.le_refl _) _
            obtain ⟨By, hBy⟩ : ∃ B, B = w6.heap.size := ⟨_, rfl⟩
            have HTy := Lib.hid (show Txt2 W7 By R3 R4 by rw [hBy, hW7]; exact alloc_at _ _ _ rfl)
            have hb57 := below_next hb6 hb67
            have HTx := Lib.hid (HTx5.out.on hb57)
            have HB7 := Lib.hid (below_next HB5.out hb57)
            have HLY2 := Lib.hid (show W0.heap.size ≤ By by rw [hBy]; exact Nat.le_trans HB5.out.size hb6.size)
            have HT4 := Lib.hid (HSL.out.on HB7.out)
            have HT5 := Lib.hid (HOF.out.on HB7.out)
            have HBL := Lib.hid (below_next HST0.out.below HB7.out)
            have HQY := Lib.hid hBy
            obtain ⟨x0, x1, x2, x3, x4⟩ := HT4.out.facts
            obtain ⟨y0, y1, y2, y3, y4⟩ := HT5.out.facts
            clear hb6 hb67 hb57 hBy
            by_cases hrb0 : rb = 0
            · have HC := Lib.hid (HCB.out.trans hrb0)
              have HG := Lib.hid (HGOOD.out HC.out)
              have t4 : (rb != 0) = false := by rw [hrb0]; rfl
              have HKS := Lib.hid (show ∀ X, Txt2 X Bx R1 R2 → Txt2 X By R3 R4 → (fun X => X.cell? ⟨Bx, 0, none⟩ = some (.string R1) ∧ X.cell? ⟨Bx, 1, none⟩ = some (.string R2) ∧ X.cell? ⟨By, 0, none⟩ = some (.string R3) ∧ X.cell? ⟨By, 1, none⟩ = some (.string R4)) X from fun X h1 h2 => ⟨h1.facts.1, h1.facts.2.1, h2.facts.1, h2.facts.2.1⟩)
              subst hrb0
              clear x0 x1 x2 x3 x4 y0 y1 y2 y3 y4
              go_wp2_with fail
              rw [← hW7, ← HQY.out]
              clear hW7
              refine wp_region_noPanic ?_
              refine wp_region_held_drew (S := (fun X => X.cell? ⟨Bx, 0, none⟩ = some (.string R1) ∧ X.cell? ⟨Bx, 1, none⟩ = some (.string R2) ∧ X.cell? ⟨By, 0, none⟩ = some (.string R3) ∧ X.cell? ⟨By, 1, none⟩ = some (.string R4))) (by kernel_rfl) (HKS.out _ HTx.out HTy.out) (fun HS0 => ?_)
              obtain ⟨X0, hX0⟩ : ∃ X, X = W7.drew := ⟨_, rfl⟩
              have HTx_X0 := Lib.hid (show Txt2 X0 Bx R1 R2 by rw [hX0]; exact HTx.out)
              have HTy_X0 := Lib.hid (show Txt2 X0 By R3 R4 by rw [hX0]; exact HTy.out)
              have HT4_X0 := Lib.hid (show Txt2 X0 w.heap.size ⟨#[]⟩ ⟨#[]⟩ by rw [hX0]; exact HT4.out)
              have HT5_X0 := Lib.hid (show Txt2 X0 (w.heap.size + 1) ⟨#[]⟩ ⟨#[]⟩ by rw [hX0]; exact HT5.out)
              have HBL_X0 := Lib.hid (show Below w.heap.size w X0 by rw [hX0]; exact HBL.out.drew)
              rw [← hX0] at HS0 ⊢
              clear hX0
              refine wpAnyH_take (i := 0) (v := ?_) rfl (by kernel_rfl) (by kernel_rfl) (by kernel_rfl) (fun _ _ _ h => h) (Or.inl ⟨by rfl, ?_⟩) HS0 ?_
              rotate_left
              · intro W hW; (try dsimp only at hW); go_simp; try (with_reducible rfl)

              refine wpAnyH_take (i := 1) (v := ?_) rfl (by kernel_rfl) (by kernel_rfl) (by kernel_rfl) (fun _ _ _ h => h) (Or.inl ⟨by rfl, ?_⟩) HS0 ?_
              rotate_left
              · intro W hW; (try dsimp only at hW); go_simp; try (with_reducible rfl)

              clear HS0
              obtain ⟨s0, s1, s2, s3, s4⟩ := HT4_X0.out.facts
              obtain ⟨X1, hY⟩ : ∃ Y, Y = (X0.setCell ⟨w.heap.size, 0, none⟩ (.string R1)).setCell ⟨w.heap.size, 1, none⟩ (.string R2) := ⟨_, rfl⟩
              have HTx_X1 := Lib.hid (show Txt2 X1 Bx R1 R2 by rw [hY]; exact (txt2_far (by have := HLX.out; omega)).trans HTx_X0.out)
              have HTy_X1 := Lib.hid (show Txt2 X1 By R3 R4 by rw [hY]; exact (txt2_far (by have := HLY2.out; omega)).trans HTy_X0.out)
              have HT5_X1 := Lib.hid (show Txt2 X1 (w.heap.size + 1) ⟨#[]⟩ ⟨#[]⟩ by rw [hY]; exact (txt2_far (by omega)).trans HT5_X0.out)
              have HR4_X1 := Lib.hid (show Txt2 X1 w.heap.size R1 R2 by rw [hY]; exact txt2_set HT4_X0.out)
              have HBL_X1 := Lib.hid (show Below w.heap.size w X1 by rw [hY]; exact txt2_below HBL_X0.out (by omega) _ _)
              refine run_one (i := 2) (by kernel_rfl) rfl rfl ?_
              intro K hK
              go_simp
              rw [← hY]
              refine hK.out _ _ (HKS.out _ HTx_X1.out HTy_X1.out) ?_
              clear hK K hY s0 s1 s2 s3 s4
              intro HS0

              clear HS0
              obtain ⟨s0, s1, s2, s3, s4⟩ := HT5_X1.out.facts
              obtain ⟨X2, hY⟩ : ∃ Y, Y = (X1.setCell ⟨(w.heap.size + 1), 0, none⟩ (.string R3)).setCell ⟨(w.heap.size + 1), 1, none⟩ (.string R4) := ⟨_, rfl⟩
              have HTx_X2 := Lib.hid (show Txt2 X2 Bx R1 R2 by rw [hY]; exact (txt2_far (by have := HLX.out; omega)).trans HTx_X1.out)
              have HTy_X2 := Lib.hid (show Txt2 X2 By R3 R4 by rw [hY]; exact (txt2_far (by have := HLY2.out; omega)).trans HTy_X1.out)
              have HR4_X2 := Lib.hid (show Txt2 X2 w.heap.size R1 R2 by rw [hY]; exact (txt2_far (by omega)).trans HR4_X1.out)
              have HR5_X2 := Lib.hid (show Txt2 X2 (w.heap.size + 1) R3 R4 by rw [hY]; exact txt2_set HT5_X1.out)
              have HBL_X2 := Lib.hid (show Below w.heap.size w X2 by rw [hY]; exact txt2_below HBL_X1.out (by omega) _ _)
              refine run_one (i := 3) (by kernel_rfl) rfl rfl ?_
              intro K hK
              go_simp
              rw [← hY]
              refine hK.out _ _ (HKS.out _ HTx_X2.out HTy_X2.out) ?_
              clear hK K hY s0 s1 s2 s3 s4
              intro HS0

              refine wpAnyH_take (i := 4) (v := ?_) rfl (by kernel_rfl) (by kernel_rfl) (by kernel_rfl) (fun _ _ _ h => h) (Or.inl ⟨by rfl, ?_⟩) HS0 ?_
              rotate_left
              · intro W hW; (try dsimp only at hW); go_simp; try (with_reducible rfl)

              refine wpAnyH_done (by kernel_rfl) ?_ _
              refine NoPanic.normal ?_
              clear HS0
              obtain ⟨s0, s1, s2, s3, s4⟩ := HR4_X2.out.facts
              obtain ⟨o0, o1, o2, o3, o4⟩ := HR5_X2.out.facts
              go_wp2
              refine bodyPost_ret (v := .tuple #[.agg #[.string R1, .string R2], .agg #[.string R3, .string R4], .int .i64 0]) (by simp [results, Tryz.results26, go_sem, s0, s1, o0, o1, s4, o4]) rfl ⟨by rw [HG.out.1, HG.out.2, HC.out, HRTA.out, HRTB.out], HBL_X2.out⟩
            · have t4 : (rb != 0) = true := by rw [bne_iff_ne]; exact hrb0
              have HC := Lib.hid HCB.out
              have HF2 := Lib.hid (HBAD.out (by rw [HC.out]; exact hrb0))
              have HFN := Lib.hid (fun a b c d => txt2_below (B := w.heap.size + 1) (txt2_below (B := w.heap.size) HBL.out (Nat.le_refl _) a b) (by omega) c d)
              rw [hW7] at x0 x1 x2 x3 x4 y0 y1 y2 y3 y4
              clear hrb0
              go_wp2
              rw [← hW7]
              rw [← hW7] at x0 x1 x2 x3 x4 y0 y1 y2 y3 y4
              refine bodyPost_ret (v := .tuple #[.agg #[.string ⟨#[]⟩, .string ⟨#[]⟩], .agg #[.string ⟨#[]⟩, .string ⟨#[]⟩], .int .i64 rb]) (by simp [results, Tryz.results26, go_sem, x0, x1, y0, y1, x4, y4]) rfl ⟨by rw [HF2.out.1, HF2.out.2, HC.out]; rfl, by first | exact HFN.out _ _ _ _ | exact HBL.out⟩
          · have t3 : (ra != 0) = true := by rw [bne_iff_ne]; exact hra0
            have HC := Lib.hid (HAA.out hra0)
            have HF2 := Lib.hid (HBAD.out (by rw [HC.out]; exact hra0))
            have HBL := Lib.hid (below_next HST0.out.below HB5.out)
            have HFN := Lib.hid (fun a b c d => txt2_below (B := w.heap.size + 1) (txt2_below (B := w.heap.size) HBL.out (Nat.le_refl _) a b) (by omega) c d)
            clear hra0
            go_wp2
            rw [← hW5]
            rw [← hW5] at x0 x1 x2 x3 x4 y0 y1 y2 y3 y4
            refine bodyPost_ret (v := .tuple #[.agg #[.string ⟨#[]⟩, .string ⟨#[]⟩], .agg #[.string ⟨#[]⟩, .string ⟨#[]⟩], .int .i64 ra]) (by simp [results, Tryz.results26, go_sem, x0, x1, y0, y1, x4, y4]) rfl ⟨by rw [HF2.out.1, HF2.out.2, HC.out]; rfl, by first | exact HFN.out _ _ _ _ | exact HBL.out⟩
  · have HC := Lib.hid (lnC_pt hp)
    have HF := Lib.hid (ln_bad (xs := xs) (ys := ys) (by rw [lnC_pt hp]; exact hp))
    obtain ⟨cc, hcc⟩ : ∃ z, z = ptC xs ys := ⟨_, rfl⟩
    rw [← hcc] at HCK HC hp
    have t1 : (cc != 0) = true := by rw [bne_iff_ne]; exact hp
    clear hr1 hr2 htab hp hcc
    go_enter Tryz.func26, Tryz.ntmps26
    go_wp2_with fail
    rw [← hW0]
    clear hW0
    (with_reducible refine (HCK.out).mono ?_)
    rintro e w1 ⟨rfl, hb1⟩
    have HB1 := Lib.hid hb1
    clear hb1
    obtain ⟨x0, x1, x2, x3, x4⟩ := (HSL.out.on HB1.out).facts
    obtain ⟨y0, y1, y2, y3, y4⟩ := (HOF.out.on HB1.out).facts
    have HFN := Lib.hid (fun a b c d => txt2_below (B := w.heap.size + 1) (txt2_below (B := w.heap.size) (below_next HST0.out.below HB1.out) (Nat.le_refl _) a b) (by omega) c d)
    go_wp2
    refine bodyPost_ret (v := .tuple #[.agg #[.string ⟨#[]⟩, .string ⟨#[]⟩], .agg #[.string ⟨#[]⟩, .string ⟨#[]⟩], .int .i64 cc]) (by simp [results, Tryz.results26, go_sem, x0, x1, y0, y1, x4, y4]) rfl ⟨by rw [HF.out.1, HF.out.2, HC.out]; rfl, by first | exact HFN.out _ _ _ _ | exact below_next HST0.out.below HB1.out⟩
end Go.Proofs.YtpmnhdgajkickaaGreatDoor
