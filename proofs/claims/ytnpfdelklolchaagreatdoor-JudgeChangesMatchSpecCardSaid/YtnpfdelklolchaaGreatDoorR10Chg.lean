/- The reference's Changes. Printed by gen_r10chg2.py out of r10chg.txt. -/
import Derived.Test.YtnpfdelklolchaaGreatDoorR10ChgA
import Derived.Test.YtnpfdelklolchaaGreatDoorR10ChgB
import Derived.Test.YtnpfdelklolchaaGreatDoorR10ChgE
import Derived.Deep.DeepCutAuto
import Derived.Deep.CutBlock
namespace Go.Proofs.YtnpfdelklolchaaGreatDoor
open Go Go.RowKit Go.Proofs

set_option maxHeartbeats 60000000 in
set_option maxRecDepth 100000 in
theorem rChanges_any (A : Option Addr) (c : Nat) (l : List Int) (pen : Int) (w : World) (hr : Rd w 0 w.heap.size 1 A l.length (ints l)) (hcap : l.length ≤ c) (hl : l.length ≤ 4611686018427387904) (htab : Tab w.heap.size w) :
    Calls Tryz.prog 11 #[.slice A l.length c, .int .i64 pen] w (ChgPost l pen w) := by
  show Calls Tryz.prog 11 #[.slice A l.length c, .int .i64 pen] w (ChP l pen (chC l pen) w)
  have HR := Lib.hid hr
  have HTAB := Lib.hid htab
  have hc0 := chC_empty (l := l) (pen := pen)
  have hc1 := chC_long (l := l) (pen := pen)
  have hc2 := chC_bad (l := l) (pen := pen)
  have hc3 := chC_rng (l := l) (pen := pen)
  have hc4 := chC_ok (l := l) (pen := pen)
  obtain ⟨C, hC⟩ : ∃ C, C = chC l pen := ⟨_, rfl⟩
  rw [← hC] at hc0 hc1 hc2 hc3 hc4 ⊢
  obtain ⟨W0, hW0⟩ : ∃ W0, W0 = w.alloc (.cells #[.string ⟨#[]⟩, .string ⟨#[]⟩] 24) := ⟨_, rfl⟩
  have HT := Lib.hid (show Txt2 W0 w.heap.size ⟨#[]⟩ ⟨#[]⟩ by rw [hW0]; exact alloc_at _ _ _ rfl)
  have HB := Lib.hid (show Below w.heap.size w W0 by rw [hW0]; exact (Below.refl _ w).alloc (Nat.le_refl _) _)
  clear hC hr htab
  by_cases h0 : l.length = 0
  · have HC := Lib.hid (hc0 h0)
    have h0z : ((l.length : Int) == 0) = true := by rw [beq_iff_eq]; omega
    clear hc0 hc1 hc2 hc3 hc4 h0
    go_enter Tryz.func11, Tryz.ntmps11
    obtain ⟨s0, s1, s2, s3, s4⟩ := HT.out.facts
    rw [hW0] at s0 s1 s2 s3 s4
    go_wp2_with fail
    rw [← hW0]
    rw [← hW0] at s0 s1 s4
    refine bodyPost_ret (v := .tuple #[.slice none 0 0, .agg #[.string ⟨#[]⟩, .string ⟨#[]⟩], .int .i64 13]) (by simp [results, Tryz.results11, go_sem, s0, s1]) rfl (.inl ⟨by rw [HC.out]; decide, by rw [HC.out], HB.out⟩)
  · have h0z : ((l.length : Int) == 0) = false := by rw [beq_eq_false_iff_ne]; omega
    by_cases h1 : 300 < l.length
    · have HC := Lib.hid (hc1 h1)
      have h1z : (300 : Int) < (l.length : Int) := by omega
      clear hc0 hc1 hc2 hc3 hc4 h0
      go_enter Tryz.func11, Tryz.ntmps11
      obtain ⟨s0, s1, s2, s3, s4⟩ := HT.out.facts
      rw [hW0] at s0 s1 s2 s3 s4
      go_wp2_with fail
      rw [← hW0]
      rw [← hW0] at s0 s1 s4
      refine bodyPost_ret (v := .tuple #[.slice none 0 0, .agg #[.string ⟨#[]⟩, .string ⟨#[]⟩], .int .i64 3]) (by simp [results, Tryz.results11, go_sem, s0, s1]) rfl (.inl ⟨by rw [HC.out]; decide, by rw [HC.out], HB.out⟩)
    · have h1z : ¬ (300 : Int) < (l.length : Int) := by omega
      have HCK := Lib.hid (fun W (hW : Below w.heap.size w W) => rNumF_any A c l W (HR.out.old hW) (by omega))
      by_cases h2 : okZ l = true
      · rw [if_pos h2] at HCK
        by_cases hp : 0 ≤ pen ∧ pen ≤ 1000000000000000
        · have HC := Lib.hid (hc4 (by omega) (by omega) h2 hp)
          have hp0 : ¬ pen < 0 := by omega
          have hp1 : ¬ (1000000000000000 : Int) < pen := by omega
          have h00 : 1 ≤ l.length := by omega
          clear hc0 hc1 hc2 hc3 hc4 h0
          go_enter Tryz.func11, Tryz.ntmps11
          go_upto_region 1 with fail
          rw [← hW0]
          clear hW0
          go_wp2_with fail
          (with_reducible refine (HCK.out W0 HB.out).mono ?_)
          rintro e w1 ⟨rfl, hb1⟩
          have HT := Lib.hid (HT.out.on hb1)
          have HB := Lib.hid (below_next HB.out hb1)
          clear hb1
          obtain ⟨D, hD⟩ : ∃ D, D = cmn l.length := ⟨_, rfl⟩
          have HDD := Lib.hid hD
          have HD0 := Lib.hid (show 0 < D by rw [hD]; exact cmn_pos _)
          have HDS := Lib.hid (show D < T4 ^ 34 by rw [hD]; exact (cmn_small (by omega)).2)
          have HCO := Lib.hid (r10Common_any l.length w1 (by omega))
          rw [← hD] at HCO
          clear hD
          go_wp2_with fail
          (with_reducible refine (HCO.out).mono ?_)
          rintro e w2 ⟨AD, cD, lD, rfl, hd, hb2⟩
          have HND := Lib.hid hd
          have HLD := Lib.hid (show lD.length ≤ 1000000 by have := hd.len HDS.out; omega)
          have HB2 := Lib.hid (below_next HB.out hb2)
          have HT2 := Lib.hid (HT.out.on hb2)
          have HO := Lib.hid (rnatOf_any pen w2 (by omega))
          clear hd hb2 HCO
          go_wp2_with fail
          (with_reducible refine (HO.out).mono ?_)
          rintro e w3 ⟨A3, c3, l3, rfl, h3, hb3⟩
          have hl3 : l3.length ≤ 1000000 := by have := h3.len (n := 5) (by unfold T4; omega); omega
          have HMU := Lib.hid (rnatMul_any A3 AD c3 cD l3 lD _ D w3 h3 (HND.out.on hb3) hl3 HLD.out)
          have HB3 := Lib.hid hb3
          clear h3 hl3 hb3 HO
          go_wp2_with fail
          (with_reducible refine (HMU.out).mono ?_)
          rintro e w4 ⟨AE, cE, lE, rfl, hE, hb4⟩
          rw [show pen.toNat * D = chE l pen by rw [Nat.mul_comm, HDD.out]] at hE
          have HB24 := Lib.hid (below_next HB3.out hb4)
          have HNE := Lib.hid hE
          have HDN := Lib.hid (HND.out.on HB24.out)
          have HLE := Lib.hid (show lE.length ≤ 1000000 by have := hE.len (n := 38) (ch_small4 (by omega) (up_bd (chE_le (l := l) hp.2) (by omega))); omega)
          clear hE hb4 HMU
          obtain ⟨bk, o, u0, rfl, hbk, -, -⟩ := HR.out.at1 (i := 0) (by omega)
          have HRL := Lib.hid (fun W (hW : Below w.heap.size w W) => HR.out.old hW)
          clear hbk
          obtain ⟨i0, hi0, hz0, hz1, hz2⟩ := info_parts infoTv
          have hmax : l.length + 1 ≤ 301 := by omega
          go_wp2_with (at_make; refine wpList_make_full _ rfl (.tmp 47) (.tmp 47) 84 rfl w4.heap.size 87 i0 _ 3 Tryz.underlying84 hi0 hz0 hz1 .i64 .i64 _ _ (l.length + 1) rfl rfl ?m1 ?m2 ?m3 ?m4 ?m5 ?_)
          case m1 => omega
          case m2 => omega
          case m3 => rw [hz2]; omega
          case m4 => unfold maxLen; omega
          case m5 => exact Nat.le_refl _
          intro w5 hown hgr
          have hblk := VBlk.of_own3 (show w5.ownsRow w4.heap.size 87 3 _ (l.length + 1) (tvCells (List.replicate (l.length + 1) zTv)) by rw [← made_t]; exact hown)
          have HRT0 := Lib.hid (RT.zero hblk)
          have HB5 := Lib.hid (show Below w4.heap.size w4 w5 from (Below.refl _ w4).grown hgr (Nat.le_refl _) (fun k hk => by cases hk))
          clear hown hgr hblk
          obtain ⟨g, hg⟩ : ∃ g, g = w4.heap.size := ⟨_, rfl⟩
          have HG := Lib.hid (show w4.heap.size ≤ g by omega)
          rw [← hg] at HRT0 ⊢
          clear hg
          go_upto_block 0 with fail
          go_cut [] (fun wc => ∃ F0 : Nat → Nat × Nat × List Nat, F0 0 = f3 (chB l pen) ∧ RT wc g (l.length + 1) F0 ∧ Below w4.heap.size w4 wc)
          case first =>
            go_wp2_with fail
            go_loopw [11] (fun iv wr => ∃ (m : Nat) (T : Nat → Nat × List Nat), iv = .int .i64 ((m : Int) - 1) ∧ m ≤ l.length ∧ (∀ k, m ≤ k → k < l.length → IsMin (chc l) (chE l pen) k l.length (T k)) ∧ RT wr g (l.length + 1) (fun k => if m ≤ k ∧ k < l.length then f3 (T k) else (0, 0, [])) ∧ Below w4.heap.size w4 wr) (fun iv _ => (intOf iv + 1).toNat)
            case atStart => exact ⟨l.length, fun _ => (0, []), rfl, Nat.le_refl _, fun k h1 h2 => by omega, HRT0.out.congr (fun k _ => by rw [if_neg (by omega)]), HB5.out⟩
            case round =>
              obtain ⟨m, T, rfl, hm, hT, hrt, hbw⟩ := hrel
              have HTM := Lib.hid hT
              have HRT := Lib.hid hrt
              have HBW := Lib.hid hbw
              clear HRT0 HB5 hT hrt hbw
              by_cases hm1 : 1 ≤ m
              · obtain ⟨i, rfl⟩ : ∃ i, m = i + 1 := ⟨m - 1, by omega⟩
                rw [show ((i + 1 : Nat) : Int) - 1 = (i : Int) by omega]
                obtain ⟨wi, rfl⟩ : ∃ W : World, W = wr := ⟨_, rfl⟩
                have hi0' : (0 : Int) ≤ (i : Int) := by omega
                have hin : i < l.length := by omega
                have hic : i ≤ c := by omega
                have hine : ¬ c = i := by omega
                have hinz : (i : Int) < (l.length : Int) + 1 := by omega
                have hil : i ≤ l.length := by omega
                have hsp := spread_seg (cc := c - i) (HRL.out wi (below_next HB2.out (below_next HB24.out HBW.out))) h2 (by omega) hin (Nat.le_refl _) (HDN.out.on HBW.out) HDD.out
                go_wp2_with fail
                (with_reducible refine (hsp).mono ?_)
                clear hsp
                rintro e w6 ⟨As, cs, ls, rfl, hs, hb6, hns⟩
                obtain ⟨y0, -, -, hce0⟩ := (HRT.out.on hb6).get (k := i) (by omega)
                obtain ⟨k0, k1, k2⟩ := hce0 w6 (Below.refl _ _)
                have z0 := (HRT.out.on hb6).frozen (i * 3)
                have z1 := (HRT.out.on hb6).frozen (i * 3 + 1)
                have z2 := (HRT.out.on hb6).frozen (i * 3 + 2)
                have hne6 : ∀ b q, As = some ⟨b, q, none⟩ → b ≠ g := fun b q e => by have h3 := hns b q e; have h4 := HRT.out.lt; omega
                obtain ⟨W7, hW7⟩ : ∃ W, W = ((w6.setCell ⟨g, i * 3, none⟩ (.slice As ls.length cs)).setCell ⟨g, i * 3 + 1, none⟩ (.int .i64 1)).setCell ⟨g, i * 3 + 2, none⟩ (.slice none 0 0) := ⟨_, rfl⟩
                have HRT7 := Lib.hid (show RT W7 g (l.length + 1) (fun q => if q = i then f3 (runF (chc l) (chE l pen) T l.length i 0) else if i + 1 ≤ q ∧ q < l.length then f3 (T q) else (0, 0, [])) by
                  have h7 := (HRT.out.on hb6).set1 (k := i) (by omega) hs hne6
                  rw [← hW7, runF_zero (chc l) (chE l pen) T l.length i] at h7
                  exact h7)
                have HB7 := Lib.hid (show Below w4.heap.size w4 W7 by rw [hW7]; exact (((below_next HBW.out hb6).setCell (p := ⟨g, i * 3, none⟩) HG.out _).setCell (p := ⟨g, i * 3 + 1, none⟩) HG.out _).setCell (p := ⟨g, i * 3 + 2, none⟩) HG.out _)
                have hi1 : IntKind.i64.wrap ((i : Int) + 1) = (i : Int) + 1 := IntWalk.i64_in _ (by omega)
                clear hne6 hs hns hb6 hce0
                go_wp2
                rw [← hW7]
                clear hW7 k0 k1 k2 z0 z1 z2
                go_loopw [12] (fun kv wr => ∃ k : Nat, kv = .int .i64 (k : Int) ∧ i + 1 ≤ k ∧ k ≤ l.length ∧ RT wr g (l.length + 1) (fun q => if q = i then f3 (runF (chc l) (chE l pen) T l.length i (k - i - 1)) else if i + 1 ≤ q ∧ q < l.length then f3 (T q) else (0, 0, [])) ∧ Below w4.heap.size w4 wr) (fun kv _ => l.length - (intOf kv).toNat)
                case atStart => exact ⟨i + 1, by go_num, Nat.le_refl _, by omega, by rw [show i + 1 - i - 1 = 0 by omega]; exact HRT7.out, HB7.out⟩
                case round =>
                  obtain ⟨k, rfl, hk1, hk2, hrt, hbw⟩ := hrel
                  have HRK := Lib.hid hrt
                  have HBK := Lib.hid hbw
                  clear HRT7 HB7 hrt hbw
                  by_cases hlt : k < l.length
                  · obtain ⟨wk, rfl⟩ : ∃ W : World, W = wr := ⟨_, rfl⟩
                    have hltz : (k : Int) < (l.length : Int) := by omega
                    have HBKW := Lib.hid (fun X (hX : Below wk.heap.size wk X) => below_next HB2.out (below_next HB24.out (below_next HBK.out hX)))
                    go_wp2_with fail
                    go_cut [13] (fun x wx => ∃ (bd : Nat) (y' : Tv), x = .pointer (some ⟨bd, 0, none⟩) ∧ TvB wx bd g y' ∧ y'.k = f3 (chc l i k + chE l pen + (T k).1, k :: (T k).2) ∧ Below wk.heap.size wk wx)
                    case first =>
                      refine chgA_any bk o c g i k l pen AD AE cD cE lD lE T D wk _ (fun X hX => HRL.out X (HBKW.out X hX)) h2 hp (by omega) hcap (by omega) hlt HDD.out (HDN.out.on HBK.out) (HNE.out.on HBK.out) HLE.out HRK.out HTM.out _ _ _ _ _ _ _ _ _ _ _ _ _ _ _ _ _ _ _ _ _ _ _ _ _ _ _ _ _ _ _ _ _ _ _ _ _ _ _ _ _ _ _ _ _ _ _ _ _ _ _ _ _ _ _ _ _ _ _ _ _ _ _ _ _ _ _ _ _ _ _ _ _ _ _ _ _ _ _ _ _ _ _ _ _ _ _ _ _ _ _ _ _ _ _ _ _ _ _ _ _ _ _ _ _ _ _ _ _ _ _ _ _ _ _ _ _ _ _ _ _ _ _ _ _ _ _ _ _ _ _ _ _ _ _ _ _ _ _ _ _ _ _ _ _ _ _ _ _ _ _ _ _ _ _ _ _ _ _ _ _ _ ?_
                      intro v73 v74 v75 v76 v77 v78 v79 v80 v81 v82 v83 v84 v85 v86 v87 v88 v89 v90 v91 v92 v93 v94 v95 v96 v97 v98 v99 v100 v101 bd y' W' hx1 hx2 hx3
                      go_wp2_with fail
                      go_meet
                      exact ⟨_, _, rfl, hx1, hx2, hx3⟩
                    case rest =>
                      obtain ⟨bd, y', rfl, hty, hyk, hbd⟩ := hcut
                      refine at_KC (P := Tryz.prog) (code := ?tailC) (Q := ?tailQ) ?tailK ?tailW
                      case tailK => assumption
                      refine chgB_any bk o c g i k l pen AD AE cD cE lD lE T D wk _ (fun X hX => HRL.out X (HBKW.out X hX)) h2 hp (by omega) hcap (by omega) hlt HDD.out (HDN.out.on HBK.out) (HNE.out.on HBK.out) HLE.out HRK.out HTM.out wc w4 bd y' hty hyk hbd HBK.out HG.out _ _ _ _ _ _ _ _ _ _ _ _ _ _ _ _ _ _ _ _ _ _ _ _ _ _ _ _ _ _ _ _ _ _ _ _ _ _ _ _ _ _ _ _ _ _ _ _ _ _ _ _ _ _ _ _ _ _ _ _ _ _ _ _ _ _ _ _ _ _ _ _ _ _ _ _ _ _ _ _ _ _ _ _ _ _ _ _ _ _ _ _ _ _ _ _ _ _ _ _ _ _ _ _ _ _ _ _ _ _ _ _ _ _ _ _ _ _ _ _ _ _ _ _ _ _ _ _ _ _ _ _ _ _ _ _ _ _ _ _ _ _ _ _ _ _ _ _ _ _ _ _ _ _ _ _ _ _ _ _ _ _ _ _ _ ?_
                      intro v102 v103 v104 v105 v106 v107 v108 v109 v110 v111 v112 v113 v114 v115 v116 v117 v118 v119 v120 v121 v122 v123 v124 v125 v126 v127 v128 v129 v130 v131 v132 v133 v134 v135 v136 v137 v138 v139 v140 v141 v142 v143 v144 v145 v146 v147 v148 v149 v14 W' hx1 hx2
                      go_wp2
                      go_roundw
                      case rel => exact ⟨k + 1, by go_num, by omega, by omega, hx1, hx2⟩
                      case measure => simp [intOf]; omega
                  · obtain rfl : k = l.length := by omega
                    have hltz : ¬ ((l.length : Nat) : Int) < (l.length : Int) := by omega
                    have HTN := Lib.hid (show ∀ q, i ≤ q → q < l.length → IsMin (chc l) (chE l pen) q l.length (if q = i then runF (chc l) (chE l pen) T l.length i (l.length - i - 1) else T q) from fun q h3 h4 => by
                      by_cases e : q = i
                      · subst e
                        rw [if_pos rfl]
                        have h5 := runF_min (chc l) (chE l pen) (T := T) (n := l.length) (i := q) (fun k h6 h7 => HTM.out k (by omega) h7) (l.length - q - 1) (by omega)
                        rw [show q + (l.length - q - 1) + 1 = l.length by omega] at h5
                        exact h5.done
                      · rw [if_neg e]
                        exact HTM.out q (by omega) h4)
                    have HRN := Lib.hid (HRK.out.congr (F' := fun q => if i ≤ q ∧ q < l.length then f3 (if q = i then runF (chc l) (chE l pen) T l.length i (l.length - i - 1) else T q) else (0, 0, [])) (fun q hq => by
                      by_cases e : q = i
                      · subst e
                        rw [if_pos rfl, if_pos ⟨Nat.le_refl _, hin⟩, if_pos rfl]
                      · rw [if_neg e, if_neg e]
                        by_cases e2 : i + 1 ≤ q ∧ q < l.length
                        · rw [if_pos e2, if_pos ⟨by omega, e2.2⟩]
                        · rw [if_neg e2, if_neg (by omega)]))
                    go_wp2
                    go_roundw
                    case rel => exact ⟨i, _, by go_num, by omega, HTN.out, HRN.out, HBK.out⟩
                    case measure => simp [intOf]
              · obtain rfl : m = 0 := by omega
                have hneg : ¬ (0 : Int) ≤ ((0 : Nat) : Int) - 1 := by omega
                have HF0 := Lib.hid (show (fun k => if 0 ≤ k ∧ k < l.length then f3 (T k) else (0, 0, [])) 0 = f3 (chB l pen) by
                  show (if 0 ≤ 0 ∧ 0 < l.length then f3 (T 0) else _) = _
                  rw [if_pos ⟨Nat.le_refl _, by omega⟩, chB_only (by omega) (HTM.out 0 (Nat.le_refl _) (by omega))])
                go_wp2
                go_meet
                exact ⟨_, HF0.out, HRT.out, HBW.out⟩
          case rest =>
            obtain ⟨F0, hF0, hrt, hbw⟩ := hcut
            refine at_KC (P := Tryz.prog) (code := ?endC) (Q := ?endQ) ?endK ?endW
            case endK => assumption
            exact chgE_any g l pen C AD cD lD D w w2 w4 wc F0 h2 hp (by omega) h00 HDD.out HD0.out HDS.out HDN.out HLD.out hF0 hrt hbw HB2.out HB24.out HT2.out HG.out HTAB.out HC.out _ _ _ _ _ _ _ _ _ _ _ _ _ _ _ _ _ _ _ _ _ _ _ _ _ _ _ _ _ _ _ _ _ _ _ _ _ _ _ _ _ _ _ _ _ _ _ _ _ _ _ _ _ _ _ _ _ _ _ _ _ _ _ _ _ _ _ _ _ _ _ _ _ _ _ _ _ _ _ _ _ _ _ _ _ _ _ _ _ _ _ _ _ _ _ _ _ _ _ _ _ _ _ _ _ _ _ _ _ _ _ _ _ _ _ _ _ _ _ _ _ _ _ _ _ _ _ _ _ _ _ _ _ _ _ _ _ _ _ _ _ _ _ _ _ _ _ _ _ _ _ _ _ _ _ _ _ _ _ _ _ _ _ _ _ _
        · have HC := Lib.hid (hc3 (by omega) (by omega) h2 hp)
          clear hc0 hc1 hc2 hc3 hc4 h0
          by_cases hp0 : pen < 0
          · go_enter Tryz.func11, Tryz.ntmps11
            go_upto_region 1 with fail
            rw [← hW0]
            clear hW0
            go_wp2_with fail
            (with_reducible refine (HCK.out W0 HB.out).mono ?_)
            rintro e w1 ⟨rfl, hb1⟩
            have HT := Lib.hid (HT.out.on hb1)
            have HB := Lib.hid (below_next HB.out hb1)
            clear hb1
            obtain ⟨s0, s1, s2, s3, s4⟩ := HT.out.facts
            have HFN := Lib.hid (fun a b => txt2_below (B := w.heap.size) HB.out (Nat.le_refl _) a b)
            go_wp2_with fail
            refine bodyPost_ret (v := .tuple #[.slice none 0 0, .agg #[.string ⟨#[]⟩, .string ⟨#[]⟩], .int .i64 9]) (by simp [results, Tryz.results11, go_sem, s0, s1]) rfl (.inl ⟨by rw [HC.out]; decide, by rw [HC.out], HFN.out _ _⟩)
          · have hp1 : (1000000000000000 : Int) < pen := by omega
            go_enter Tryz.func11, Tryz.ntmps11
            go_upto_region 1 with fail
            rw [← hW0]
            clear hW0
            go_wp2_with fail
            (with_reducible refine (HCK.out W0 HB.out).mono ?_)
            rintro e w1 ⟨rfl, hb1⟩
            have HT := Lib.hid (HT.out.on hb1)
            have HB := Lib.hid (below_next HB.out hb1)
            clear hb1
            obtain ⟨s0, s1, s2, s3, s4⟩ := HT.out.facts
            have HFN := Lib.hid (fun a b => txt2_below (B := w.heap.size) HB.out (Nat.le_refl _) a b)
            go_wp2_with fail
            refine bodyPost_ret (v := .tuple #[.slice none 0 0, .agg #[.string ⟨#[]⟩, .string ⟨#[]⟩], .int .i64 9]) (by simp [results, Tryz.results11, go_sem, s0, s1]) rfl (.inl ⟨by rw [HC.out]; decide, by rw [HC.out], HFN.out _ _⟩)
      · rw [if_neg h2] at HCK
        have HC := Lib.hid (hc2 (by omega) (by omega) h2)
        clear hc0 hc1 hc2 hc3 hc4 h0
        go_enter Tryz.func11, Tryz.ntmps11
        go_upto_region 1 with fail
        rw [← hW0]
        clear hW0
        go_wp2_with fail
        (with_reducible refine (HCK.out W0 HB.out).mono ?_)
        rintro e w1 ⟨rfl, hb1⟩
        have HT := Lib.hid (HT.out.on hb1)
        have HB := Lib.hid (below_next HB.out hb1)
        clear hb1
        obtain ⟨s0, s1, s2, s3, s4⟩ := HT.out.facts
        have HFN := Lib.hid (fun a b => txt2_below (B := w.heap.size) HB.out (Nat.le_refl _) a b)
        go_wp2_with fail
        refine bodyPost_ret (v := .tuple #[.slice none 0 0, .agg #[.string ⟨#[]⟩, .string ⟨#[]⟩], .int .i64 9]) (by simp [results, Tryz.results11, go_sem, s0, s1]) rfl (.inl ⟨by rw [HC.out]; decide, by rw [HC.out], HFN.out _ _⟩)
end Go.Proofs.YtnpfdelklolchaaGreatDoor
