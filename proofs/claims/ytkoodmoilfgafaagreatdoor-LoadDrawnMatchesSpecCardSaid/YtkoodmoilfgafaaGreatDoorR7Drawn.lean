/- Package dynamometerref7: drawn, Drawn. -/
import Derived.Test.YtkoodmoilfgafaaGreatDoorGDraw
import Derived.Test.YtkoodmoilfgafaaGreatDoorR7First
import Derived.Test.YtkoodmoilfgafaaGreatDoorR7Area
import Derived.Test.YtkoodmoilfgafaaGreatDoorGList
import Derived.Deep.AppendLies
import Derived.IntWalk
namespace Go.Proofs.YtkoodmoilfgafaaGreatDoor
open Go Go.RowKit Go.Proofs

theorem intV_lt {x : Nat} {m : Int} (h : x ≤ m.toNat) : intV x m = .tuple #[.int .i64 (x : Int), .bool true] := by unfold intV; rw [if_neg (by omega)]
theorem intV_gt {x : Nat} {m : Int} (h : m.toNat < x) : intV x m = .tuple #[.int .i64 0, .bool false] := by unfold intV; rw [if_pos h]
theorem T4_5d : T4 ^ 5 = 100000000000000000000 := by unfold T4; rfl
theorem fr_call {may : Nat → Prop} {w Y Y' : World} (h : Fr may w Y) (hb : Below Y.heap.size Y Y') : Fr may w Y' :=
  Fr.trans h (may' := fun _ => False) ⟨hb.os, hb.tape, hb.output, hb.size, fun i hi _ => hb.block i hi⟩ (fun _ _ h => absurd h (fun h => h))

set_option maxHeartbeats 8000000 in
set_option maxRecDepth 100000 in
theorem r7drawn_any (A : Option Addr) (c : Nat) (l : List (Int × Int × Int)) (seed : Int) (w : World) (hr : Rd w 0 w.heap.size 3 A l.length (cells3 l)) (hok : OkL l) :
    Calls Tryz.prog 74 #[.slice A l.length c, .int .i64 seed] w fun e w' => ∃ A' c', e = .returned (.tuple #[.slice A' (drawR l seed).length c', .bool (decide (dwn l ≤ 20000))]) ∧ Rd w' 0 w'.heap.size 1 A' (drawR l seed).length (ints (drawR l seed)) ∧ Below w.heap.size w w' := by
  obtain ⟨ii, hii, hiz0, hiz1, hiz2⟩ := info_parts Tryz.infoI4
  have hbd := lenS_bd hok.ok
  have hle := hok.le
  have HR := Lib.hid hr
  have HTO := Lib.hid (r7total_any A c l w hr (by omega) hok.ok)
  have HAR := Lib.hid (r7Area_any A c l (lenS l) w hr hok.le hok.ok (by have := hok.sum; omega))
  have hC : codeS l = 0 := hok.code
  have hC1 : drawC l = if 20000 < dwn l then 3 else 0 := by unfold drawC; rw [if_neg (by rw [hC]; simp)]
  have HC1 := Lib.hid hC1
  have HFLR := Lib.hid (dwn_floor hok)
  have hdl := dwn_le hok
  have HFQ := Lib.hid (fun k => dwT_first hok seed k)
  have HPO := Lib.hid (fun (h : 0 < dwn l) k => area_pos hok h seed k)
  have HF1 := Lib.hid (fun v q W hb hv hq hq0 => r7First_any A c l v q W (HR.out.old hb) hle hok.ok hv hq hq0)
  obtain ⟨q, hq⟩ : ∃ q, q = arQ l (lenS l) := ⟨_, rfl⟩
  rw [← hq] at HAR HFLR HFQ HPO
  obtain ⟨n, hn⟩ : ∃ n, n = dwn l := ⟨_, rfl⟩
  rw [← hn] at HC1 hdl HFLR HPO ⊢
  have HN := Lib.hid hn
  clear hr hok hC hC1 hbd hq hn
  go_enter Tryz.func74, Tryz.ntmps74
  go_wp2_with fail
  (with_reducible refine HTO.out.mono ?_)
  rintro e w1 ⟨rfl, rfl⟩
  go_wp2_with fail
  (with_reducible refine HAR.out.mono ?_)
  rintro e w2 ⟨⟨_, rfl, ⟨A5, c5, l5, A6, c6, l6, rfl, n5, n6⟩, hb2⟩, hsz⟩
  have HSQ := Lib.hid hsz
  have HB2 := Lib.hid hb2
  obtain ⟨W3, hW3⟩ : ∃ W3, W3 = w2.alloc (.cells #[.bool (frS q), .slice A5 l5.length c5, .slice A6 l6.length c6] 39) := ⟨_, rfl⟩
  have hb3 : Below w2.heap.size w2 W3 := by rw [hW3]; exact (Below.refl _ w2).alloc (Nat.le_refl _) _
  have HX3 := Lib.hid (show W3.heap[w2.heap.size]? = some (.cells #[.bool (frS q), .slice A5 l5.length c5, .slice A6 l6.length c6] 39 (0, 0)) by rw [hW3]; exact alloc_at _ _ _ rfl)
  have HFR := Lib.hid (show ∀ Y, Below W3.heap.size W3 Y → FracR Y (.agg #[.bool (frS q), .slice A5 l5.length c5, .slice A6 l6.length c6]) q from fun Y hY => ⟨A5, c5, l5, A6, c6, l6, rfl, (n5.on hb3).on hY, (n6.on hb3).on hY⟩)
  have HB3 := Lib.hid (below_next HB2.out hb3)
  have HFL := Lib.hid (fun W u hu => rFloor_any 1501 u q W (by omega) hu HSQ.out)
  rw [HFLR.out] at HFL
  have HIN := Lib.hid (fun W A1 c1 l1 (h1 : RNatR W A1 c1 l1 n) => rInt_any A1 c1 l1 n 20000 W h1 (by have := h1.len (n := 5) (by rw [T4_5d]; omega); omega) (by omega) (by omega))
  have hlt3 := heap_lt HX3.out
  clear hb2 hb3 n5 n6 hsz
  go_upto_region 2 with fail
  rw [← hW3]
  clear hW3
  have p0 : W3.cell? ⟨w2.heap.size, 0, none⟩ = some (.bool (frS q)) := by rw [cellsAt HX3.out]; rfl
  have p1 : W3.cell? ⟨w2.heap.size, 1, none⟩ = some (.slice A5 l5.length c5) := by rw [cellsAt HX3.out]; rfl
  have p2 : W3.cell? ⟨w2.heap.size, 2, none⟩ = some (.slice A6 l6.length c6) := by rw [cellsAt HX3.out]; rfl
  go_wp2_with fail
  (with_reducible refine (HFL.out _ _ (HFR.out _ (Below.refl _ _))).mono ?_)
  rintro e w4 ⟨A4, c4, l4, rfl, hn4, hb4⟩
  have HI4 := Lib.hid (HIN.out w4 A4 c4 l4 hn4)
  have HB4 := Lib.hid hb4
  clear hn4 hb4 p0 p1 p2
  by_cases hbig : 20000 < n
  · have HE := Lib.hid (show drawC l = 3 by rw [HC1.out, if_pos hbig])
    have HEL := Lib.hid (show drawR l seed = [] by unfold drawR; rw [if_neg (by rw [HE.out]; omega)])
    have HD := Lib.hid (show decide (n ≤ 20000) = false by simpa using hbig)
    rw [intV_gt (show (20000 : Int).toNat < n by omega)] at HI4
    go_wp2_with fail
    (with_reducible refine HI4.out.mono ?_)
    rintro e w5 ⟨rfl, hb5⟩
    have HB5 := Lib.hid (below_next HB3.out (below_next HB4.out hb5))
    clear hb5
    go_wp2
    go_ret2
    first
      | exact ⟨none, 0, by rw [HEL.out, HD.out]; rfl, by rw [HEL.out]; exact Rd.nil, HB5.out⟩
      | exact ⟨none, ⟨0, by rw [HEL.out, HD.out]; rfl⟩, by rw [HEL.out]; exact Rd.nil, HB5.out⟩
  · have HE := Lib.hid (show drawC l = 0 by rw [HC1.out, if_neg hbig])
    have HEL := Lib.hid (show drawR l seed = srtZ (dwL l seed n) by unfold drawR; rw [if_pos HE.out, HN.out])
    have HLN := Lib.hid (srtZ_length (dwL l seed n))
    have HLD := Lib.hid (dwL_length l seed n)
    have HD := Lib.hid (show decide (n ≤ 20000) = true by simp; omega)
    rw [intV_lt (show n ≤ (20000 : Int).toNat by omega)] at HI4
    have HDR := Lib.hid (show ∀ (k : Nat) W, k ≤ 20000 → Calls Tryz.prog 70 #[.int .i64 seed, .int .i64 3, .int .i64 0, .int .i64 k] W fun e w' => e = .returned (.int .i64 (dwD seed k)) ∧ W = w' from fun k W hk => draw_any seed 3 0 k W (by omega) (by omega) (by omega) (by omega) (by omega) (by omega))
    have HDG := Lib.hid (fun k => dwD_rng seed k)
    go_wp2_with fail
    (with_reducible refine HI4.out.mono ?_)
    rintro e w5 ⟨rfl, hb5⟩
    have HB5 := Lib.hid (below_next HB4.out hb5)
    have hs5 := HB5.out.size
    clear hb5
    go_wp2_with fail
    go_loopw [9, 10, 11] (fun ov iv _ wr => ∃ k : Nat, iv = .int .i64 k ∧ k ≤ n ∧ wr.ownsRow W3.heap.size 3 1 ov k (ints (dwL l seed k)) ∧ Below W3.heap.size W3 wr) (fun _ iv _ _ => n - (intOf iv).toNat)
    case atStart => exact ⟨0, rfl, Nat.zero_le _, ⟨by simp [ints, dwL], .inl ⟨rfl, rfl⟩⟩, HB5.out⟩
    case round =>
      obtain ⟨k, rfl, hk, hown, hbw⟩ := hrel
      have HOW := Lib.hid hown
      have HBW := Lib.hid hbw
      have hsz := hbw.size
      by_cases hlt : k < n
      · obtain ⟨d0, d1⟩ := HDG.out k
        have HDK := Lib.hid (HDR.out k wr (by omega))
        have HPA := Lib.hid (fun W => rPart_any (2 * dwD seed k + 1) 8589934592 W (by omega) (by omega) (by omega) (by omega))
        have zp : Sz 5 (mkRat (2 * dwD seed k + 1) (8589934592 : Int).toNat) := sz_part (by decide) (by rw [T4_5d]; omega) (by rw [T4_5d]; decide)
        have zt : Sz 1506 (q * mkRat (2 * dwD seed k + 1) (8589934592 : Int).toNat) := sz_mul HSQ.out zp
        have HTI := Lib.hid (fun W u v hu hv => rTimes_any 1501 u v q (mkRat (2 * dwD seed k + 1) (8589934592 : Int).toNat) W (by omega) hu hv HSQ.out (sz_mono zp (by omega)))
        have HFK := Lib.hid (fun v W hb hv => HF1.out v (q * mkRat (2 * dwD seed k + 1) (8589934592 : Int).toNat) W hb hv (sz_mono zt (by omega)) (HPO.out (by omega) k))
        rw [HFQ.out k] at HFK
        obtain ⟨d, hd⟩ : ∃ d, d = dwD seed k := ⟨_, rfl⟩
        obtain ⟨T, hT⟩ : ∃ T, T = (dwT l seed k).getD 0 := ⟨_, rfl⟩
        rw [← hd] at HDK HPA HTI d0 d1
        rw [← hT] at HFK
        rw [← hd] at HFK
        have HES := Lib.hid (show ints (dwL l seed (k + 1)) = ints (dwL l seed k) ++ [.int .i64 (T : Int)] by rw [dwL_snoc, ← hT]; simp [ints])
        have HBK := Lib.hid (below_next HB3.out hbw)
        have HFW := Lib.hid (fun Y (hY : Below wr.heap.size wr Y) => HFR.out Y (below_next hbw hY))
        clear hown hd hT zp zt
        have HK := Lib.hid (show ∀ Y, Fr (fun i => some i = u9.ownBlock) wr Y → Fr (fun i => some i = u9.ownBlock) wr Y ∧ Y.cell? ⟨w2.heap.size, 0, none⟩ = some (.bool (frS q)) ∧ Y.cell? ⟨w2.heap.size, 1, none⟩ = some (.slice A5 l5.length c5) ∧ Y.cell? ⟨w2.heap.size, 2, none⟩ = some (.slice A6 l6.length c6) from fun Y hY => by
          have e := (hY.block w2.heap.size (by omega) (fun hm => by have := (ownsRow_block HOW.out hm).1; omega)).trans ((HBW.out.block _ hlt3).trans HX3.out)
          exact ⟨hY, by rw [cellsAt e]; rfl, by rw [cellsAt e]; rfl, by rw [cellsAt e]; rfl⟩)
        obtain ⟨_, f0, f1, f2⟩ := HK.out wr (Fr.refl _ _)
        clear hbw
        go_wp2_with fail
        (with_reducible refine HDK.out.mono ?_)
        rintro e wA ⟨rfl, rfl⟩
        have r1 : IntKind.i64.wrap (2 * d) = 2 * d := IntWalk.i64_in _ (by omega)
        have r2 : IntKind.i64.wrap (2 * d + 1) = 2 * d + 1 := IntWalk.i64_in _ (by omega)
        go_upto_region 10 with fail
        go_region_held3 (fun Y => Fr (fun i => some i = u9.ownBlock) wr Y ∧ Y.cell? ⟨w2.heap.size, 0, none⟩ = some (.bool (frS q)) ∧ Y.cell? ⟨w2.heap.size, 1, none⟩ = some (.slice A5 l5.length c5) ∧ Y.cell? ⟨w2.heap.size, 2, none⟩ = some (.slice A6 l6.length c6))
          (first
            | exact HK.out _ (Fr.refl _ wr).drew
            | (go_split_ands; exact HK.out _ (fr_call (by assumption) hbP))
            | (go_split_ands; exact HK.out _ (fr_call (by assumption) hbT))
            | (go_split_ands; exact HK.out _ (fr_call (by assumption) hbF))
            | (go_split_ands; exact HK.out _ (Fr.alloc (by assumption) _))
            | exact HK.out _ hfrG)
          (first
            | (go_at_call 60; (with_reducible refine (HPA.out _).mono ?_); rintro e wP ⟨vP, rfl, hvP, hbP⟩)
            | (go_at_call 23; (with_reducible refine (HTI.out _ _ vP (HFW.out _ (below_next (Below.refl _ wr).drew hbP)) hvP).mono ?_); rintro e wT ⟨vT, rfl, hvT, hbT⟩)
            | (go_at_call 108; (with_reducible refine (HFK.out vT _ (below_next HBK.out (below_next (below_next (Below.refl _ wr).drew hbP) hbT)) hvT).mono ?_); rintro e wF ⟨rfl, hbF⟩; have hbX : Below wr.heap.size wr wF := below_next (below_next (below_next (Below.refl _ wr).drew hbP) hbT) hbF; have hoF := ownsRow_fr HOW.out (Fr.of_below hbX) (fun i hi hm => by have := (ownsRow_block HOW.out hi).2; omega); have hsF := hbX.size)
            | (refine step_append_lies _ (by rfl) _ _ _ (by rfl) W3.heap.size 3 ii _ 1 8 Tryz.underlying36 hii hiz0 hiz1 hiz2 rfl (by omega) u9 k (ints (dwL l seed k)) (by rfl) (hoF.alloc _) ⟨wF.heap.size, 0, none⟩ 1 1 [.int .i64 (T : Int)] (by rfl) (by rfl) (cell_one_new wF _ 3) (by simp [Value.oneCell']) (by omega) (by unfold maxLen; omega) (by omega) (by simp; omega) (wF.heap.size + 1) (by simp) ?_; intro gg cap w6 hown6 hgr6 hat6 hlt6; have hfrG : Fr (fun i => some i = u9.ownBlock) wr w6 := Fr.trans ((fr_call (Fr.refl _ wr) hbX).alloc _) (Fr.of_grown hgr6) (fun i _ h => h)))
        all_goals
          have HB6 := Lib.hid (show Below W3.heap.size W3 w6 from HBW.out.trans (hfrG.below (B := W3.heap.size) hsz (fun i hi hm => by have := (ownsRow_block HOW.out hm).1; omega)))
          have HO6 := Lib.hid (show w6.ownsRow W3.heap.size 3 1 (.slice (some ⟨gg, 0, none⟩) (k + 1) cap) (k + 1) (ints (dwL l seed (k + 1))) by rw [HES.out]; exact hown6)
          clear hown6 hgr6 hat6 hfrG hbX hoF hbP hbT hbF hvP hvT r1 r2 f0 f1 f2
          go_wp2
          go_roundw
          case rel => exact ⟨k + 1, by go_num, by omega, HO6.out, HB6.out⟩
          case measure => simp [intOf]; omega
      · obtain rfl : k = n := by omega
        obtain ⟨A', cap, rfl, _, _, _⟩ := ownsRow_shape hown
        have hrd : Rd wr 0 wr.heap.size 1 A' (dwL l seed k).length (ints (dwL l seed k)) := by rw [HLD.out]; exact (Rd.of_own hown).more (Nat.zero_le _) (Nat.le_refl _)
        have hS := r7Sorted_any A' cap (dwL l seed k) wr hrd (by rw [HLD.out]; omega)
        rw [HLD.out] at hS
        have HSO := Lib.hid hS
        have HBE := Lib.hid (below_next HB3.out hbw)
        clear hown hbw hrd hS
        go_wp2_with fail
        (with_reducible refine HSO.out.mono ?_)
        rintro e w9 ⟨A2, c2, rfl, hrd2, hb9⟩
        have HRD := Lib.hid hrd2
        have HB9 := Lib.hid (below_next HBE.out hb9)
        clear hrd2 hb9
        go_wp2
        go_ret2
        refine ⟨A2, c2, ?_, ?_, HB9.out⟩
        · rw [HEL.out, HD.out]; rfl
        · rw [HEL.out]; exact HRD.out

set_option maxHeartbeats 2000000 in
set_option maxRecDepth 100000 in
theorem r7Drawn_any (A : Option Addr) (c : Nat) (l : List (Int × Int × Int)) (seed : Int) (w : World) (hr : Rd w 0 w.heap.size 3 A l.length (cells3 l)) (hl : l.length ≤ 9223372036854775807) :
    Calls Tryz.prog 30 #[.slice A l.length c, .int .i64 seed] w fun e w' => ∃ A' c', e = .returned (.tuple #[.slice A' (drawR l seed).length c', .int .i64 (drawC l)]) ∧ Rd w' 0 w'.heap.size 1 A' (drawR l seed).length (ints (drawR l seed)) ∧ Below w.heap.size w w' := by
  have HCK := Lib.hid (r7Check_any A c l w hr hl)
  by_cases hc : codeS l = 0
  · have hok := codeS_ok hc
    have HDW := Lib.hid (fun W (hb : Below w.heap.size w W) => r7drawn_any A c l seed W (hr.old hb) hok)
    have hC1 : drawC l = if 20000 < dwn l then 3 else 0 := by unfold drawC; rw [if_neg (by rw [hc]; simp)]
    rw [hc] at HCK
    by_cases hbig : dwn l ≤ 20000
    · have HE := Lib.hid (show drawC l = 0 by rw [hC1, if_neg (by omega)])
      rw [decide_eq_true hbig] at HDW
      clear hr hok hC1 hc
      go_enter Tryz.func30, Tryz.ntmps30
      go_wp2_with fail
      (with_reducible refine HCK.out.mono ?_)
      rintro e w1 ⟨rfl, hb1⟩
      have HB1 := Lib.hid hb1
      clear hb1
      go_wp2_with fail
      (with_reducible refine (HDW.out _ HB1.out).mono ?_)
      rintro e w2 ⟨A', c', rfl, hrd, hb2⟩
      have HRD := Lib.hid hrd
      have HB2 := Lib.hid (below_next HB1.out hb2)
      clear hrd hb2
      go_wp2
      go_ret2
      exact ⟨A', c', by rw [HE.out]; rfl, HRD.out, HB2.out⟩
    · have HE := Lib.hid (show drawC l = 3 by rw [hC1, if_pos (by omega)])
      have HEL := Lib.hid (show drawR l seed = [] by unfold drawR; rw [if_neg (by rw [HE.out]; omega)])
      rw [decide_eq_false hbig] at HDW
      clear hr hok hC1 hc
      go_enter Tryz.func30, Tryz.ntmps30
      go_wp2_with fail
      (with_reducible refine HCK.out.mono ?_)
      rintro e w1 ⟨rfl, hb1⟩
      have HB1 := Lib.hid hb1
      clear hb1
      go_wp2_with fail
      (with_reducible refine (HDW.out _ HB1.out).mono ?_)
      rintro e w2 ⟨A', c', rfl, hrd, hb2⟩
      have HB2 := Lib.hid (below_next HB1.out hb2)
      clear hrd hb2
      go_wp2
      go_ret2
      exact ⟨none, 0, by rw [HE.out, HEL.out]; rfl, by rw [HEL.out]; exact Rd.nil, HB2.out⟩
  · obtain ⟨cc, hcc⟩ : ∃ cc, cc = codeS l := ⟨_, rfl⟩
    have HE := Lib.hid (show drawC l = cc by unfold drawC; rw [if_pos hc, hcc])
    rw [← hcc] at HCK hc
    have t1 : (cc != 0) = true := by simpa using hc
    have HEL := Lib.hid (show drawR l seed = [] by unfold drawR; rw [HE.out, if_neg hc])
    clear hcc
    go_enter Tryz.func30, Tryz.ntmps30
    go_wp2_with fail
    (with_reducible refine HCK.out.mono ?_)
    rintro e w1 ⟨rfl, hb1⟩
    go_wp2
    go_ret2
    exact ⟨none, 0, by rw [HE.out, HEL.out]; rfl, by rw [HEL.out]; exact Rd.nil, hb1⟩
end Go.Proofs.YtkoodmoilfgafaaGreatDoor
