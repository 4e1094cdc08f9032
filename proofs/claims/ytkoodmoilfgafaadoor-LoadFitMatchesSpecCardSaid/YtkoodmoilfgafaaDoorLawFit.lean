/- LoadFitMatchesSpec: the law's walk. -/
import Derived.Test.YtkoodmoilfgafaaDoorGFit
import Derived.Test.YtkoodmoilfgafaaDoorInkStg
import Derived.Test.YtkoodmoilfgafaaDoorGArr
namespace Go.Proofs.YtkoodmoilfgafaaDoor
open Go Go.RowKit Go.Proofs

theorem codeT_range (l : List Int) : 0 ≤ codeT l ∧ codeT l ≤ 100 := by
  unfold codeT
  split
  · omega
  · cases hf : ((List.range l.length).map (elT l)).find? (· != 0) with
    | none => simp
    | some x =>
      have hm := List.mem_of_find?_eq_some hf
      obtain ⟨j, _, rfl⟩ := List.mem_map.1 hm
      show 0 ≤ elT l j ∧ elT l j ≤ 100
      unfold elT
      split
      · omega
      · split <;> omega
theorem codeS_rng (l : List (Int × Int × Int)) : 0 ≤ codeS l ∧ codeS l ≤ 100 := by
  unfold codeS
  split
  · omega
  · split
    · omega
    · split
      · split <;> omega
      · omega
theorem fitC_range (ts : List Int) (wd : Int) : 0 ≤ fitC ts wd ∧ fitC ts wd ≤ 100 := by
  have h1 := codeT_range ts
  have h2 := codeS_rng (fitS ts wd (stepsT ts wd))
  unfold fitC
  split
  · exact h1
  · split
    · omega
    · split
      · omega
      · exact h2
theorem fit_zero {ts : List Int} {wd : Int} (h : fitC ts wd = 0) : codeT ts = 0 ∧ 1 ≤ wd ∧ 1000000000 % wd = 0 ∧ fitL ts wd = fitS ts wd (stepsT ts wd) ∧ OkL (fitS ts wd (stepsT ts wd)) ∧ stepsT ts wd ≤ 50 := by
  have hL : fitL ts wd = fitS ts wd (stepsT ts wd) := by unfold fitL; rw [if_pos h]
  unfold fitC at h
  split at h
  · rename_i h1; exact absurd h h1
  · rename_i h1
    split at h
    · omega
    · rename_i h2
      split at h
      · omega
      · rename_i h3
        exact ⟨by omega, by omega, by omega, hL, codeS_ok h, by omega⟩
theorem fitL_range (ts : List Int) (wd : Int) : (∀ s ∈ fitL ts wd, I64s s) ∧ (fitL ts wd).length ≤ 50 := by
  by_cases h : fitC ts wd = 0
  · obtain ⟨_, _, _, hL, hok, hn⟩ := fit_zero h
    rw [hL, fitS_length]
    refine ⟨fun s hs => ?_, hn⟩
    have := hok.ok s hs
    unfold OkS at this
    unfold I64s I64
    omega
  · have hL : fitL ts wd = [] := by unfold fitL; rw [if_neg h]
    rw [hL]; exact ⟨fun s hs => (by cases hs), by simp⟩
theorem lenS_fit (ts : List Int) (wd : Int) (n : Nat) : lenS (fitS ts wd n) = n * wd := by
  induction n with
  | zero => simp [fitS, lenS]
  | succ n ih =>
    rw [fitS_snoc]
    unfold lenS at *
    rw [List.map_append, List.sum_append, ih, Int.natCast_add, Int.add_mul]
    simp
theorem count_fit {ts : List Int} {wd : Int} (h : fitC ts wd = 0) {i : Nat} (hi : i < stepsT ts wd) : countV (fitL ts wd) ((i : Int) * wd + 1) (((i : Int) + 1) * wd + 1) = ((cntT ts wd i : Int), 0) ∧ 0 ≤ (i : Int) * wd ∧ ((i : Int) + 1) * wd ≤ 1000000000000 := by
  obtain ⟨_, hw, hd, hL, hok, hn⟩ := fit_zero h
  obtain ⟨W, rfl⟩ : ∃ W : Nat, wd = W := ⟨wd.toNat, by omega⟩
  have hsum := hok.sum
  rw [lenS_fit] at hsum
  have h0 : (0 : Int) ≤ (i : Int) * W := Int.mul_nonneg (by omega) (by omega)
  have h1 : ((i : Int) + 1) * W ≤ (stepsT ts W : Int) * W := Int.mul_le_mul_of_nonneg_right (by omega) (by omega)
  have h2 : ((i : Int) + 1) * W = (i : Int) * W + W := by rw [Int.add_mul, Int.one_mul]
  have hdv : 1000000000 % W = 0 := by
    have : ((1000000000 % W : Nat) : Int) = 0 := by rw [Int.natCast_emod]; exact hd
    omega
  have e1 : ((i : Int) * W + 1).toNat = i * W + 1 := by rw [← Int.natCast_mul]; omega
  have e2 : (((i : Int) + 1) * W + 1).toNat = (i + 1) * W + 1 := by
    rw [show ((i : Int) + 1) = ((i + 1 : Nat) : Int) from by omega, ← Int.natCast_mul]; omega
  have f1 := fit_bef (ts := ts) (w := W) (n := stepsT ts W) (i := i) (by omega) hdv (by omega) (by omega)
  have f2 := fit_bef (ts := ts) (w := W) (n := stepsT ts W) (i := i + 1) (by omega) hdv (by omega) (by omega)
  rw [List.range_succ, List.map_append, List.sum_append] at f2
  refine ⟨?_, h0, by omega⟩
  unfold countV
  rw [hL, if_neg (fun g => g hok.code), if_neg (by omega), e1, e2, f1, f2]
  simp
  omega

set_option maxHeartbeats 4000000 in
set_option maxRecDepth 100000 in
theorem lawFit_any (A : Option Addr) (c : Nat) (ts : List Int) (wd : Int) (w : World) (ht : Tab w.heap.size w) (hr : Rd w 0 w.heap.size 1 A ts.length (ints ts)) (hl : ts.length ≤ 9223372036854775807) (hwd : -9223372036854775808 ≤ wd ∧ wd ≤ 9223372036854775807) :
    Calls Tryd.prog 4 #[.slice A ts.length c, .int .i64 wd] w fun e w' => e = .returned (.bool true) ∧ Below w.heap.size w w' := by
  have HEV := Lib.hid (fun W => lawEven_any W)
  have HF1 := Lib.hid (fit_any A c ts wd w hr hl hwd)
  have HF2 := Lib.hid (fun W (hb : Below w.heap.size w W) => r7Fit_any A c ts wd W (hr.old hb) hl hwd)
  have HER := Lib.hid (fitC_range ts wd)
  have HLR := Lib.hid (fitL_range ts wd)
  have HZE := Lib.hid (fun h => fit_zero (ts := ts) (wd := wd) h)
  have HCF := Lib.hid (fun h i hi => count_fit (ts := ts) (wd := wd) h (i := i) hi)
  have HNL := Lib.hid (show fitC ts wd ≠ 0 → fitL ts wd = [] from fun h => by unfold fitL; rw [if_neg h])
  obtain ⟨E, hE⟩ : ∃ x, x = fitC ts wd := ⟨_, rfl⟩
  obtain ⟨L, hL⟩ : ∃ x, x = fitL ts wd := ⟨_, rfl⟩
  rw [← hE] at HER HNL HZE HCF
  rw [← hL] at HLR HNL HZE HCF
  rw [← hE, ← hL] at HF1 HF2
  have HT := Lib.hid (fun W A' c' (hb : Below w.heap.size w W) hr' => toldStg_any A' c' L E W ((ht.on hb).mono hb.size) hr' HLR.out.1 ⟨by have := HER.out; omega, by have := HER.out; omega⟩ (by have := HLR.out.2; omega))
  obtain ⟨s, hs⟩ : ∃ s : ByteArray, s = ⟨(inkStgs L ++ inkInt E).toArray⟩ := ⟨_, rfl⟩
  rw [← hs] at HT
  have HR := Lib.hid hr
  have hL50 := HLR.out.2
  clear hr ht hE hL hs
  go_enter Tryd.func4, Tryd.ntmps4
  go_wp2_with fail
  refine HF1.out.mono ?_
  rintro e w1 ⟨A1, c1, rfl, hr1, hb1⟩
  have HB1 := Lib.hid hb1
  have HR1 := Lib.hid hr1
  clear hb1 hr1
  go_wp2_with fail
  refine (HF2.out _ HB1.out).mono ?_
  rintro e w2 ⟨A2, c2, rfl, hr2, hb2⟩
  have HB2 := Lib.hid (below_next HB1.out hb2)
  have HT2 := Lib.hid (HT.out w2 A1 c1 HB2.out (HR1.out.old hb2))
  have HR2 := Lib.hid hr2
  have HR12 := Lib.hid (HR1.out.old hb2)
  clear hb2 hr2
  go_wp2_with fail
  refine HT2.out.mono ?_
  rintro e w3 ⟨rfl, hb3⟩
  have HB3 := Lib.hid (below_next HB2.out hb3)
  have HT3 := Lib.hid (HT.out w3 A2 c2 HB3.out (HR2.out.old hb3))
  have HR13 := Lib.hid (HR12.out.old hb3)
  clear hb3
  go_wp2_with fail
  refine HT3.out.mono ?_
  rintro e w4 ⟨rfl, hb4⟩
  have HB4 := Lib.hid (below_next HB3.out hb4)
  have HR14 := Lib.hid (HR13.out.old hb4)
  clear hb4
  by_cases hE : E = 0
  · subst hE
    obtain ⟨hc, hw1, hw2, hLf, hok, hn⟩ := HZE.out rfl
    have HOKT := Lib.hid (codeT_ok hc)
    have hok2 := codeT_ok hc
    have hn2 := hok2.le
    have hLn : L.length = stepsT ts wd := by rw [hLf, fitS_length]
    have HCN := Lib.hid (fun (W : World) (hb : Below w4.heap.size w4 W) a b => count_any A1 c1 L a b W (HR14.out.old hb) (by omega))
    have HCF2 := Lib.hid (fun i (hi : i < L.length) => HCF.out rfl i (by rw [← hLn]; exact hi))
    clear hc hw2 hLf hok hn hok2 hLn
    go_wp2_with fail
    go_loopw [9, 10, 11, 12, 13] (fun iv _ _ _ _ wr => ∃ i : Nat, iv = .int .i64 i ∧ i ≤ L.length ∧ Below w4.heap.size w4 wr) (fun iv _ _ _ _ _ => L.length - (intOf iv).toNat)
    case atStart => exact ⟨0, rfl, Nat.zero_le _, Below.refl _ _⟩
    case round =>
      obtain ⟨i, rfl, hi, hbw⟩ := hrel
      have HBW := Lib.hid hbw
      by_cases hlt : i < L.length
      · obtain ⟨wo, hwo⟩ : ∃ z : World, z = wr := ⟨_, rfl⟩
        subst hwo
        obtain ⟨hcv, g0, g1⟩ := HCF2.out i hlt
        have HCV := Lib.hid hcv
        have HRT := Lib.hid (HR.out.old (below_next HB4.out hbw))
        obtain ⟨fr, hfr⟩ : ∃ fr, fr = (i : Int) * wd := ⟨_, rfl⟩
        obtain ⟨fr2, hfr2⟩ : ∃ fr2, fr2 = ((i : Int) + 1) * wd := ⟨_, rfl⟩
        have h12 : fr2 = fr + wd := by rw [hfr2, hfr, Int.add_mul, Int.one_mul]
        rw [← hfr] at g0
        rw [← hfr2] at g1
        rw [← hfr, ← hfr2] at HCV
        have hm1 : (i : Int) * wd = fr := hfr.symm
        have hm2 : ((i : Int) + 1) * wd = fr2 := hfr2.symm
        have hq1 : IntKind.i64.wrap ((i : Int) * wd) = fr := by rw [hm1]; exact IntWalk.i64_in _ (by omega)
        have hq2 : IntKind.i64.wrap (((i : Int) + 1) * wd) = fr2 := by rw [hm2]; exact IntWalk.i64_in _ (by omega)
        have hb3 : fr ≤ 1000000000000 := by omega
        have hb4 : 0 ≤ fr2 := by omega
        have hv1 : wrap64 fr = fr := IntWalk.wrap64_in _ (by omega)
        have hv2 : wrap64 fr2 = fr2 := IntWalk.wrap64_in _ (by omega)
        have hv3 : wrap64 (fr + 1) = fr + 1 := IntWalk.wrap64_in _ (by omega)
        have hv4 : wrap64 (fr2 + 1) = fr2 + 1 := IntWalk.wrap64_in _ (by omega)
        have H12 := Lib.hid h12
        have HFR := Lib.hid hfr
        have HCC := Lib.hid (show Calls Tryd.prog 11 #[.slice A1 L.length c1, .int .i64 (fr + 1), .int .i64 (fr2 + 1)] wo fun e w' => e = .returned (.tuple #[.int .i64 (cntT ts wd i : Nat), .int .i64 0]) ∧ Below wo.heap.size wo w' by
          have := HCN.out wo HBW.out (fr + 1) (fr2 + 1)
          rw [HCV.out] at this
          exact this)
        clear hbw hcv hfr hfr2 h12
        go_wp2_with fail
        go_loopw [10, 11] (fun nv kv wz => ∃ j : Nat, kv = .int .i64 j ∧ j ≤ ts.length ∧ nv = .int .i64 (cntT (ts.take j) wd i : Nat) ∧ wz = wo) (fun _ kv _ => ts.length - (intOf kv).toNat)
        case atStart => exact ⟨0, rfl, Nat.zero_le _, rfl, by trivial⟩
        case round =>
          obtain ⟨j, rfl, hj, rfl, rfl⟩ := hrel
          by_cases hlt2 : j < ts.length
          · obtain ⟨b, o, u, hA, hb, hu, qk⟩ := HRT.out.at1 hlt2
            obtain ⟨t, ht, rfl⟩ := ints_get hu
            subst hA
            have hrt := HOKT.out.range ht
            have HCN2 := Lib.hid (show cntT (ts.take (j + 1)) wd i = cntT (ts.take j) wd i + if cellT wd t = i then 1 else 0 by rw [List.take_add_one, ht, Option.toList_some, cntT_snoc])
            have hce : cellT wd t = i ↔ (fr < t ∧ t ≤ fr2) ∨ (i = 0 ∧ t = 0) := by rw [cellT_eq (by omega) hrt.1, H12.out, HFR.out]
            obtain ⟨m, hm⟩ : ∃ m, m = cntT (ts.take j) wd i := ⟨_, rfl⟩
            have hmj : m ≤ 20000 := by rw [hm]; have := cntT_le (ts.take j) wd i; rw [List.length_take] at this; omega
            rw [← hm] at HCN2 ⊢
            clear hu ht hm
            by_cases d1 : fr < t
            · have f1 : decide (fr < t) = true := by simpa using d1
              have f4 : (t == 0) = false := by simp; omega
              by_cases d2 : t ≤ fr2
              · have f2 : decide (t ≤ fr2) = true := by simpa using d2
                have HCT : cellT wd t = i := hce.2 (.inl ⟨d1, d2⟩)
                clear hce
                go_wp2
                go_roundw
                case rel => refine ⟨j + 1, by go_num, by omega, ?_⟩; first | exact ⟨by rw [HCN2.out, if_pos HCT]; rfl, by trivial⟩ | (rw [HCN2.out, if_pos HCT]; rfl) | (rw [HCN2.out, if_pos HCT]; done)
                case measure => simp [intOf]; omega
              · have f2 : decide (t ≤ fr2) = false := by simpa using d2
                have HCT : ¬ cellT wd t = i := fun h => by rcases hce.1 h with ⟨_, h2⟩ | ⟨_, h2⟩ <;> omega
                clear hce
                by_cases d3 : i = 0
                · have f3 : (i == 0) = true := by simpa using d3
                  have f3' : ((i : Int) == 0) = true := by simp; omega
                  clear d3
                  go_wp2
                  go_roundw
                  case rel => refine ⟨j + 1, by go_num, by omega, ?_⟩; first | exact ⟨by rw [HCN2.out, if_neg HCT]; rfl, by trivial⟩ | (rw [HCN2.out, if_neg HCT]; rfl) | (rw [HCN2.out, if_neg HCT]; done)
                  case measure => simp [intOf]; omega
                · have f3 : (i == 0) = false := by simpa using d3
                  have f3' : ((i : Int) == 0) = false := by simp; omega
                  go_wp2
                  go_roundw
                  case rel => refine ⟨j + 1, by go_num, by omega, ?_⟩; first | exact ⟨by rw [HCN2.out, if_neg HCT]; rfl, by trivial⟩ | (rw [HCN2.out, if_neg HCT]; rfl) | (rw [HCN2.out, if_neg HCT]; done)
                  case measure => simp [intOf]; omega
            · have f1 : decide (fr < t) = false := by simpa using d1
              by_cases d3 : i = 0
              · have hz : fr = 0 := by rw [HFR.out, d3]; simp
                have f3 : (i == 0) = true := by simpa using d3
                have f3' : ((i : Int) == 0) = true := by simp; omega
                have f4 : (t == 0) = true := by simp; omega
                have HCT : cellT wd t = i := hce.2 (.inr ⟨d3, by omega⟩)
                clear hce hz d3
                go_wp2
                go_roundw
                case rel => refine ⟨j + 1, by go_num, by omega, ?_⟩; first | exact ⟨by rw [HCN2.out, if_pos HCT]; rfl, by trivial⟩ | (rw [HCN2.out, if_pos HCT]; rfl) | (rw [HCN2.out, if_pos HCT]; done)
                case measure => simp [intOf]; omega
              · have f3 : (i == 0) = false := by simpa using d3
                have f3' : ((i : Int) == 0) = false := by simp; omega
                have HCT : ¬ cellT wd t = i := fun h => by rcases hce.1 h with ⟨h1, _⟩ | ⟨h1, _⟩ <;> omega
                clear hce
                go_wp2
                go_roundw
                case rel => refine ⟨j + 1, by go_num, by omega, ?_⟩; first | exact ⟨by rw [HCN2.out, if_neg HCT]; rfl, by trivial⟩ | (rw [HCN2.out, if_neg HCT]; rfl) | (rw [HCN2.out, if_neg HCT]; done)
                case measure => simp [intOf]; omega
          · obtain rfl : ts.length = j := by omega
            rw [List.take_of_length_le (Nat.le_refl _)]
            clear hlt2
            obtain ⟨n, hn⟩ : ∃ n, n = cntT ts wd i := ⟨_, rfl⟩
            rw [← hn] at HCC ⊢
            clear hn
            go_wp2_with fail
            (with_reducible refine HCC.out.mono ?_)
            rintro e w5 ⟨rfl, hb5⟩
            have HB5 := Lib.hid (below_next HBW.out hb5)
            clear hb5
            go_wp2
            go_roundw
            case rel => exact ⟨i + 1, by go_num, by omega, HB5.out⟩
            case measure => simp [intOf]; omega
      · have HBE := Lib.hid (below_next HB4.out hbw)
        clear hbw
        go_wp2_with fail
        refine (HEV.out _).mono ?_
        rintro e w6 ⟨rfl, hb6⟩
        have HB6 := Lib.hid (below_next HBE.out hb6)
        clear hb6
        go_wp2
        go_ret
        exact ⟨rfl, HB6.out⟩
  · have hLe := HNL.out hE
    subst hLe
    have HBE := Lib.hid HB4.out
    go_wp2_with fail
    go_loopw [9, 10, 11, 12, 13] (fun iv _ _ _ _ wr => iv = .int .i64 0 ∧ wr = w4) (fun _ _ _ _ _ _ => 0)
    case atStart => exact ⟨rfl, by trivial⟩
    case round =>
      obtain ⟨rfl, rfl⟩ := hrel
      go_wp2_with fail
      refine (HEV.out _).mono ?_
      rintro e w6 ⟨rfl, hb6⟩
      have HB6 := Lib.hid (below_next HBE.out hb6)
      clear hb6
      go_wp2
      go_ret
      exact ⟨rfl, HB6.out⟩
end Go.Proofs.YtkoodmoilfgafaaDoor
