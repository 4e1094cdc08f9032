/- Package judge: Changes (draft). -/
import Derived.Test.YtnpfdelklolchaaGreatDoorG35
import Derived.Test.YtnpfdelklolchaaGreatDoorG38
import Derived.Test.YtnpfdelklolchaaGreatDoorG32
import Derived.Test.YtnpfdelklolchaaGreatDoorG33
import Derived.Test.YtnpfdelklolchaaGreatDoorG34
import Derived.Deep.AppendLies
import Derived.Test.YtnpfdelklolchaaGreatDoorG27
import Derived.Test.YtnpfdelklolchaaGreatDoorJRatio
namespace Go.Proofs.YtnpfdelklolchaaGreatDoor
open Go Go.RowKit Go.Proofs

set_option maxHeartbeats 8000000 in
set_option maxRecDepth 100000 in
theorem jChanges_any (A : Option Addr) (c : Nat) (l : List Int) (pen : Int) (w : World) (hr : Rd w 0 w.heap.size 1 A l.length (ints l)) (hl : l.length ≤ 4611686018427387904) (htab : Tab w.heap.size w) :
    Calls Tryz.prog 6 #[.slice A l.length c, .int .i64 pen] w (ChgPost l pen w) := by
  unfold ChgPost
  have HR := Lib.hid hr
  have HTAB := Lib.hid htab
  have hc0 := chC_empty (l := l) (pen := pen)
  have hc1 := chC_long (l := l) (pen := pen)
  have hc2 := chC_bad (l := l) (pen := pen)
  have hc3 := chC_rng (l := l) (pen := pen)
  have hc4 := chC_ok (l := l) (pen := pen)
  obtain ⟨C, hC⟩ : ∃ C, C = chC l pen := ⟨_, rfl⟩
  rw [← hC] at hc0 hc1 hc2 hc3 hc4 ⊢
  obtain ⟨W0, hW0⟩ : ∃ W0, W0 = w.alloc (.cells #[.string ⟨#[]⟩, .string ⟨#[]⟩] 24) := ⟨_, rfl⟩
  have HT := Lib.hid (show Txt2 W0 w.heap.size ⟨#[]⟩ ⟨#[]⟩ by rw [hW0]; exact alloc_at _ _ _ rfl)
  have HB := Lib.hid (show Below w.heap.size w W0 by rw [hW0]; exact (Below.refl _ w).alloc (Nat.le_refl _) _)
  clear hC hr htab
  by_cases h0 : l.length = 0
  · have HC := Lib.hid (hc0 h0)
    have h0z : ((l.length : Int) == 0) = true := by rw [beq_iff_eq]; omega
    clear hc0 hc1 hc2 hc3 hc4 h0
    go_enter Tryz.func6, Tryz.ntmps6
    obtain ⟨s0, s1, s2, s3, s4⟩ := HT.out.facts
    rw [hW0] at s0 s1 s2 s3 s4
    go_wp2_with fail
    rw [← hW0]
    rw [← hW0] at s0 s1 s4
    refine bodyPost_ret (v := .tuple #[.slice none 0 0, .agg #[.string ⟨#[]⟩, .string ⟨#[]⟩], .int .i64 13]) (by simp [results, Tryz.results6, go_sem, s0, s1, s4]) rfl (.inl ⟨by rw [HC.out]; decide, by rw [HC.out], HB.out⟩)
  · have h0z : ((l.length : Int) == 0) = false := by rw [beq_eq_false_iff_ne]; omega
    by_cases h1 : 300 < l.length
    · have HC := Lib.hid (hc1 h1)
      have h1z : (300 : Int) < (l.length : Int) := by omega
      clear hc0 hc1 hc2 hc3 hc4 h0
      go_enter Tryz.func6, Tryz.ntmps6
      obtain ⟨s0, s1, s2, s3, s4⟩ := HT.out.facts
      rw [hW0] at s0 s1 s2 s3 s4
      go_wp2_with fail
      rw [← hW0]
      rw [← hW0] at s0 s1 s4
      refine bodyPost_ret (v := .tuple #[.slice none 0 0, .agg #[.string ⟨#[]⟩, .string ⟨#[]⟩], .int .i64 3]) (by simp [results, Tryz.results6, go_sem, s0, s1, s4]) rfl (.inl ⟨by rw [HC.out]; decide, by rw [HC.out], HB.out⟩)
    · have h1z : ¬ (300 : Int) < (l.length : Int) := by omega
      have HCK := Lib.hid (fun W (hW : Below w.heap.size w W) => jChkNum_any A c l W (HR.out.old hW) (by omega))
      by_cases h2 : okZ l = true
      · rw [if_pos h2] at HCK
        have HI := Lib.hid (fun W => jInside_any pen 0 1000000000000000 W)
        obtain ⟨bp, hbp⟩ : ∃ b, b = (decide (0 ≤ pen) && decide (pen ≤ 1000000000000000)) := ⟨_, rfl⟩
        rw [← hbp] at HI
        go_enter Tryz.func6, Tryz.ntmps6
        go_upto_region 1 with fail
        rw [← hW0]
        clear hW0
        go_wp2_with fail
        (with_reducible refine (HCK.out W0 HB.out).mono ?_)
        rintro e w1 ⟨rfl, hb1⟩
        have HT := Lib.hid (HT.out.on hb1)
        have HB := Lib.hid (below_next HB.out hb1)
        clear hb1
        go_wp2_with fail
        (with_reducible refine (HI.out w1).mono ?_)
        rintro e w1' ⟨rfl, rfl⟩
        cases bp with
        | false =>
          have HC := Lib.hid (hc3 (by omega) (by omega) h2 (by rintro ⟨a1, a2⟩; rw [decide_eq_true a1, decide_eq_true a2] at hbp; cases hbp))
          clear hc0 hc1 hc2 hc3 hc4 h0 hbp
          obtain ⟨s0, s1, s2, s3, s4⟩ := HT.out.facts
          have HFN := Lib.hid (fun a b => txt2_below (B := w.heap.size) HB.out (Nat.le_refl _) a b)
          go_wp2_with fail
          refine bodyPost_ret (v := .tuple #[.slice none 0 0, .agg #[.string ⟨#[]⟩, .string ⟨#[]⟩], .int .i64 9]) (by simp [results, Tryz.results6, go_sem, s0, s1, s4]) rfl (.inl ⟨by rw [HC.out]; decide, by rw [HC.out], HFN.out _ _⟩)
        | true =>
          have hp : 0 ≤ pen ∧ pen ≤ 1000000000000000 := by simp at hbp; omega
          have HC := Lib.hid (hc4 (by omega) (by omega) h2 hp)
          have h00 : 1 ≤ l.length := by omega
          clear hc0 hc1 hc2 hc3 hc4 h0 hbp
          have HD0 := Lib.hid (cmn_pos l.length)
          have HDS := Lib.hid (cmn_small (n := l.length) (by omega)).1
          obtain ⟨n, hn⟩ : ∃ n, n = l.length := ⟨_, rfl⟩
          have hn1 : 1 ≤ n := by omega
          have hn2 : n ≤ 300 := by omega
          have HNN := Lib.hid hn
          obtain ⟨D, hD⟩ : ∃ D, D = cmn l.length := ⟨_, rfl⟩
          have HDD := Lib.hid hD
          have HCO := Lib.hid (jCommon_any l.length w1 (by omega))
          rw [← hD] at HCO HD0 HDS
          clear hD
          go_wp2_with fail
          (with_reducible refine (HCO.out).mono ?_)
          rintro e w2 ⟨AD, cD, lD, rfl, hd, hb2⟩
          have HLD := Lib.hid (show lD.length ≤ 7 from hd.len HDS.out)
          have HT2 := Lib.hid (HT.out.on hb2)
          have HB2 := Lib.hid (below_next HB.out hb2)
          have HND := Lib.hid hd
          have hmax : l.length + 1 ≤ 301 := by omega
          clear hd hb2 HCO
          obtain ⟨i0, hi0, hz0, hz1, hz2⟩ := info_parts infoNN
          go_wp2_with (at_make; refine wpList_make_full _ rfl (.tmp 48) (.tmp 48) 63 rfl w2.heap.size 61 i0 _ 1 Tryz.underlying63 hi0 hz0 hz1 .i64 .i64 _ _ (l.length + 1) rfl rfl ?m1 ?m2 ?m3 ?m4 ?m5 ?_)
          case m1 => omega
          case m2 => omega
          case m3 => rw [hz2]; omega
          case m4 => unfold maxLen; omega
          case m5 => exact Nat.le_refl _
          intro w3 hown hgr
          rw [made_s] at hown
          obtain ⟨hblk, _⟩ := VBlk.of_own hown
          have hb3 : Below w2.heap.size w2 w3 := (Below.refl _ w2).grown hgr (Nat.le_refl _) (fun k hk => by cases hk)
          have HNF := Lib.hid (NFn.zero hblk (natr_nil w3))
          have HB3 := Lib.hid hb3
          clear hown hgr hblk hb3
          obtain ⟨g, hg⟩ : ∃ g, g = w2.heap.size := ⟨_, rfl⟩
          have HG := Lib.hid (show w2.heap.size ≤ g by omega)
          rw [← hg] at HNF ⊢
          clear hg
          go_wp2
          go_loopw [10] (fun kv wr => ∃ k : Nat, kv = .int .i64 (k : Int) ∧ 1 ≤ k ∧ k ≤ l.length + 1 ∧ NFn wr g (l.length + 1) (fun i => if 1 ≤ i ∧ i < k then D / i else 0) ∧ Below w2.heap.size w2 wr) (fun kv _ => l.length + 1 - (intOf kv).toNat)
          case atStart => exact ⟨1, rfl, Nat.le_refl _, by omega, HNF.out.congr (fun k _ => by rw [if_neg (by omega)]), HB3.out⟩
          case round =>
            obtain ⟨k, rfl, hk1, hk2, hnf, hbw⟩ := hrel
            have HNW := Lib.hid hnf
            have HBW := Lib.hid hbw
            clear HNF HB3 hnf hbw
            by_cases hlt : k ≤ l.length
            · have hltz : (k : Int) ≤ (l.length : Int) := by omega
              go_wp2_with fail
              (with_reducible refine (natOf_any (k : Int) wr (by omega)).mono ?_)
              rintro e w4 ⟨A4, c4, l4, rfl, h4, hb4⟩
              rw [Int.toNat_natCast] at h4
              have HL4 := Lib.hid (show l4.length ≤ 1 from h4.len (by unfold W64; omega))
              have HB4 := Lib.hid (below_next HBW.out hb4)
              have HDM := Lib.hid (natDivMod_any AD A4 cD c4 lD l4 D k w4 (HND.out.on HB4.out) h4 (by have := HLD.out; omega) (by have := HL4.out; omega) (by omega))
              have HN4 := Lib.hid (HNW.out.on hb4)
              clear h4 hb4
              go_wp2_with fail
              (with_reducible refine (HDM.out).mono ?_)
              rintro e w5 ⟨A5, c5, l5, A6, c6, l6, rfl, h5, -, hb5⟩
              have hn5 := HN4.out.on hb5
              obtain ⟨Ao, co, lo, ho, -⟩ := hn5.get (k := k) (by omega)
              have z0 := ho w5 (Below.refl _ _)
              have z1 := hn5.frozen k
              have z2 := hn5.lt
              have HB5 := Lib.hid (below_next HB4.out hb5)
              obtain ⟨W6, hW6⟩ : ∃ W6, W6 = w5.setCell ⟨g, k, none⟩ (.slice A5 l5.length c5) := ⟨_, rfl⟩
              have HN6 := Lib.hid (show NFn W6 g (l.length + 1) (fun i => if 1 ≤ i ∧ i < k + 1 then D / i else 0) by
                rw [hW6]
                refine (hn5.set (k := k) (by omega) h5).congr fun i hi => ?_
                by_cases e : i = k
                · subst e
                  show (if i = i then D / i else _) = _
                  rw [if_pos rfl, if_pos (by omega)]
                · show (if i = k then _ else _) = _
                  rw [if_neg e]
                  by_cases e2 : 1 ≤ i ∧ i < k
                  · rw [if_pos e2, if_pos (by omega)]
                  · rw [if_neg e2, if_neg (by omega)])
              have HB6 := Lib.hid (show Below w2.heap.size w2 W6 by rw [hW6]; exact HB5.out.setCell (p := ⟨g, k, none⟩) HG.out _)
              clear h5 hb5 hn5 ho HDM
              go_wp2_with fail
              rw [← hW6]
              clear hW6 z0 z1 z2
              go_wp2
              go_roundw
              case rel => exact ⟨k + 1, by go_num, by omega, by omega, HN6.out, HB6.out⟩
              case measure => simp [intOf]; omega
            · have hltz : ¬ (k : Int) ≤ (l.length : Int) := by omega
              obtain rfl : k = l.length + 1 := by omega
              have HNP := Lib.hid (HNW.out.congr (f' := fun i => D / i) (fun i hi => by
                by_cases e : 1 ≤ i ∧ i < l.length + 1
                · rw [if_pos e]
                · rw [if_neg e]
                  have : i = 0 := by omega
                  subst this
                  simp))
              obtain ⟨P, hP⟩ : ∃ P : Nat, pen = (P : Int) := ⟨pen.toNat, by omega⟩
              have HPP := Lib.hid (show P = pen.toNat ∧ P ≤ 1000000000000000 by omega)
              have HO := Lib.hid (natOf_any pen wr (by omega))
              rw [← HPP.out.1] at HO
              clear hP HNW
              go_wp2_with fail
              (with_reducible refine (HO.out).mono ?_)
              rintro e w4 ⟨A4, c4, l4, rfl, h4, hb4⟩
              have HL4 := Lib.hid (show l4.length ≤ 1 from h4.len (by have := HPP.out; unfold W64; omega))
              have HB4 := Lib.hid (below_next HBW.out hb4)
              have HMU := Lib.hid (natMul_any AD A4 cD c4 lD l4 D P w4 (HND.out.on HB4.out) h4 (by have := HLD.out; omega) (by have := HL4.out; omega))
              have HN4 := Lib.hid (HNP.out.on hb4)
              clear h4 hb4 HO HNP
              go_wp2_with fail
              (with_reducible refine (HMU.out).mono ?_)
              rintro e w7 ⟨AE, cE, lE, rfl, hE, hb7⟩
              have HNE := Lib.hid hE
              have HB7 := Lib.hid (below_next HB4.out hb7)
              have HN7 := Lib.hid (HN4.out.on hb7)
              have HRO := Lib.hid (RowDr.one (e := 68) (natr_nil w7) (Nat.le_refl w7.heap.size))
              obtain ⟨W8, hW8⟩ : ∃ W8, W8 = w7.alloc (.cells #[.slice none 0 0, .slice none 0 0] 68) := ⟨_, rfl⟩
              have HB8 := Lib.hid (show Below w7.heap.size w7 W8 by rw [hW8]; exact (Below.refl _ w7).alloc (Nat.le_refl _) _)
              rw [← hW8] at HRO
              clear hE hb7 HMU HN4 HB4 HBW
              go_wp2_with fail
              rw [← hW8]
              clear hW8
              go_wp2
              go_loopw [12, 13] (fun bv jv wr => ∃ (j : Nat) (xs : List Dv), jv = .int .i64 (j : Int) ∧ 1 ≤ j ∧ j ≤ l.length + 1 ∧ xs.length = j ∧ (∀ k z, xs[k]? = some z → z.k = bestL (chc l) (chE l pen) k) ∧ RowDr wr w7.heap.size 68 bv xs ∧ Below w7.heap.size w7 wr) (fun _ jv _ => l.length + 1 - (intOf jv).toNat)
              case atStart => exact ⟨1, _, rfl, Nat.le_refl _, by omega, rfl, fun k z hk => by
                have : k = 0 := by have := (List.getElem?_eq_some_iff.1 hk).1; simp at this; omega
                subst this
                simp at hk
                subst hk
                rfl, HRO.out, HB8.out⟩
              case round =>
                obtain ⟨j, xs, rfl, hj1, hj2, hxl, hxk, hrow, hbj⟩ := hrel
                have HXK := Lib.hid hxk
                have HROW := Lib.hid hrow
                have HBJ := Lib.hid hbj
                clear HRO HB8 hxk hrow hbj
                by_cases hlt : j ≤ l.length
                · have hltz : (j : Int) ≤ (l.length : Int) := by omega
                  obtain ⟨wo, rfl⟩ : ∃ W : World, W = wr := ⟨_, rfl⟩
                  obtain ⟨W1, hW1⟩ : ∃ W, W = wo.alloc (.cells #[.slice none 0 0, .slice none 0 0] 68) := ⟨_, rfl⟩
                  obtain ⟨b, hb⟩ : ∃ b, b = wo.heap.size := ⟨_, rfl⟩
                  have HDV := Lib.hid (show DvB W1 b 68 ⟨none, 0, [], 0, none, 0, []⟩ by rw [hW1, hb]; exact DvB.new (y := ⟨none, 0, [], 0, none, 0, []⟩) ⟨natr_nil _, PlR.nil _⟩)
                  have HB1 := Lib.hid (show Below wo.heap.size wo W1 by rw [hW1]; exact (Below.refl _ wo).alloc (Nat.le_refl _) _)
                  have HBB := Lib.hid (show wo.heap.size ≤ b by omega)
                  have HSG := Lib.hid (fun i (hi : j ≤ 300) => seg_bound (l := l) (i := i) (j := j) (okZ_abs h2) hi)
                  have HZM := Lib.hid (okZ_abs h2)
                  obtain ⟨gb, capb, rfl, hall⟩ := HROW.out.all (by omega)
                  have HALL := Lib.hid hall
                  have HXL := Lib.hid hxl
                  have HROWJ := Lib.hid (show RowDr wo w7.heap.size 68 (.slice (some ⟨gb, 0, none⟩) j capb) xs by rw [← hxl]; exact HROW.out)
                  rw [hxl]
                  clear hall hxl HROW
                  go_upto_region 1 with fail
                  go_upto_region 1 with fail
                  go_wp2
                  rw [← hW1, ← hb]
                  clear hW1 hb
                  go_loopw [15, 16, 17] (fun sv qv iv wr => ∃ (m : Nat) (h : Dv), iv = .int .i64 ((m : Int) - 1) ∧ m ≤ j ∧ sv = .int .i64 (segL l m j).sum ∧ qv = .int .i64 (sqs (segL l m j)) ∧ DvB wr b 68 h ∧ (m < j → h.k = runL (chc l) (chE l pen) (bestL (chc l) (chE l pen)) j (j - 1 - m)) ∧ Below wo.heap.size wo wr) (fun _ _ iv _ => (intOf iv + 1).toNat)
                  case atStart => exact ⟨j, _, rfl, Nat.le_refl _, by rw [segL_none]; rfl, by rw [segL_none]; rfl, HDV.out, fun h => by omega, HB1.out⟩
                  case round =>
                    obtain ⟨m, h, rfl, hm, rfl, rfl, hdv, hrun, hbi⟩ := hrel
                    have HDW := Lib.hid hdv
                    have HRUN := Lib.hid hrun
                    have HBI := Lib.hid hbi
                    clear HDV HB1 hdv hrun hbi
                    by_cases hm1 : 1 ≤ m
                    · obtain ⟨i, rfl⟩ : ∃ i, m = i + 1 := ⟨m - 1, by omega⟩
                      rw [show ((i + 1 : Nat) : Int) - 1 = (i : Int) by omega]
                      obtain ⟨wi, rfl⟩ : ∃ W : World, W = wr := ⟨_, rfl⟩
                      have hi0 : (0 : Int) ≤ (i : Int) := by omega
                      have hil : i < l.length := by omega
                      have hilz : (i : Int) < (l.length : Int) := by omega
                      have HBA := Lib.hid (show Below w.heap.size w wi from below_next (below_next (below_next HB2.out HB7.out) HBJ.out) HBI.out)
                      obtain ⟨bk, o, u, rfl, hbk, hu, hc⟩ := (HR.out.below HBA.out (Nat.le_refl _)).at1 (i := i) (by omega)
                      obtain ⟨x, hx, rfl⟩ := ints_get hu
                      have hxb := HZM.out x (List.mem_of_getElem? hx)
                      obtain ⟨t1, t2⟩ := seg_next (j := j) (show i < j by omega) hx
                      obtain ⟨q1, q2, q3⟩ := HSG.out (i + 1) (by omega)
                      obtain ⟨p1, p2, p3⟩ := HSG.out i (by omega)
                      have hxx0 := sq_nonneg x
                      have hxx1 : x.natAbs * x.natAbs ≤ 1000000 * 1000000 := Nat.mul_le_mul hxb hxb
                      have hxx2 := natAbs_sq x
                      have e1 : IntKind.i64.wrap ((segL l (i + 1) j).sum + x) = (segL l i j).sum := by rw [IntKind.wrap_i64, t1]; omega
                      have e2 : IntKind.i64.wrap (x * x) = x * x := by rw [IntKind.wrap_i64]; omega
                      have e3 : IntKind.i64.wrap (sqs (segL l (i + 1) j) + x * x) = sqs (segL l i j) := by rw [IntKind.wrap_i64, t2]; omega
                      have hcd : wi.drew.cell? ⟨bk, o + i, none⟩ = some (.int .i64 x) := hc
                      obtain ⟨Sm, hSm⟩ : ∃ s, s = (segL l i j).sum := ⟨_, rfl⟩
                      obtain ⟨Sq, hSq⟩ : ∃ s, s = sqs (segL l i j) := ⟨_, rfl⟩
                      have HP := Lib.hid (show Sm.natAbs ≤ 300000000 ∧ 0 ≤ Sq ∧ Sq.toNat ≤ 300000000000000 by rw [hSm, hSq]; exact ⟨p1, p2, p3⟩)
                      rw [← hSm] at e1
                      rw [← hSq] at e3
                      have HSM := Lib.hid hSm
                      have HSQ := Lib.hid hSq
                      clear t1 t2 q1 q2 q3 p1 p2 p3 hxx0 hxx1 hxx2 hxb hx hu hbk hSm hSq
                      go_wp2
                      refine wp_region_still_tail 11 (by kernel_rfl) (by kernel_rfl) ?_
                      simp only [List.take_succ_cons, List.take_zero, List.drop_succ_cons, List.drop_zero]
                      repeat still_step
                      refine wpStill_nil ?_
                      change wpList _ _ _ _ _ wi.drew
                      obtain ⟨wq, hwq⟩ : ∃ W, W = wi.drew := ⟨_, rfl⟩
                      have HBQ := Lib.hid (show Below wi.heap.size wi wq by rw [hwq]; exact (Below.refl _ wi).drew)
                      rw [← hwq]
                      clear hwq hcd hc
                      have hij : i < j := by omega
                      have HLN := Lib.hid (fun X A c (l : List Nat) x (h : NatR X A c l x) (hx : x < W64 ^ 8) => (show l.length ≤ 1000000 from by have := h.len hx; omega))
                      obtain ⟨dd, hdd⟩ : ∃ d, d = j - i := ⟨_, rfl⟩
                      have HDE := Lib.hid hdd
                      have e4 : IntKind.i64.wrap ((j : Int) - (i : Int)) = (dd : Int) := by rw [IntKind.wrap_i64]; omega
                      have hdd1 : dd < l.length + 1 := by omega
                      have hddz : (dd : Int) < (l.length : Int) + 1 := by omega
                      have hdd0 : (0 : Int) ≤ (dd : Int) := by omega
                      have hb7q := below_next HBJ.out (below_next HBI.out HBQ.out)
                      have HDQ := Lib.hid (HND.out.on (below_next HB7.out hb7q))
                      obtain ⟨AP, cP, lP, hcP, hnP⟩ := (HN7.out.on hb7q).get (k := dd) hdd1
                      have HPQ := Lib.hid hnP
                      have hz := chg_sz h2 (show l.length ≤ 300 by omega) hp.2 hij hlt
                      rw [← HDD.out, ← hdd, ← HSM.out, ← HSQ.out] at hz
                      have HZ := Lib.hid hz
                      have HL7 := Lib.hid (show lD.length ≤ 1000000 by have := HLD.out; omega)
                      have HLP := Lib.hid (HLN.out _ _ _ _ _ hnP hz.2.2.1)
                      have HCC := Lib.hid (show D * Sq.toNat - D / dd * (Sm.natAbs * Sm.natAbs) = chc l i j by rw [HSM.out, HSQ.out, hdd, HDD.out]; rfl)
                      have HKS28 := Lib.hid (show ∀ X, Below wq.heap.size wq X → (fun X => Below wq.heap.size wq X ∧ X.cell? ⟨g, dd, none⟩ = some (.slice AP lP.length cP)) X from fun X hX => ⟨hX, hcP X hX⟩)
                      have HOQ := Lib.hid (fun W => natOf_any Sq W (by have := HP.out; omega))
                      have HSS := Lib.hid (fun W => jSquare_any Sm W (by have := HP.out; omega) (by have := HP.out; omega))
                      obtain ⟨h0, hh0⟩ : ∃ h, xs[i]? = some h := ⟨xs[i]'(by have := HXL.out; omega), List.getElem?_eq_getElem (by have := HXL.out; omega)⟩
                      have hk0 := HXK.out i h0 hh0
                      obtain ⟨hdv0, hce0⟩ := HALL.out i h0 hh0
                      have HCE := Lib.hid (show ∀ X, Below wi.heap.size wi X → _ from fun X hX => hce0 X (below_next HBI.out hX))
                      have HZL := Lib.hid (show h0.zs.length ≤ 1000000 by
                        have := best_len (l := l) (pen := pen) (k := i) (show i ≤ 300 by omega)
                        rw [← hk0] at this
                        exact Nat.le_trans this (by omega))
                      have HK0 := Lib.hid hk0
                      have HX0 := Lib.hid hh0
                      have HEE := Lib.hid (show D * P < W64 ^ 8 by have := hz.2.2.2.2.2.2.2.2.2.1; rw [HDD.out, HPP.out.1]; exact this)
                      have hix : (i : Int) < (j : Int) := by omega
                      clear hnP hcP hz hdd hk0 hdv0 hce0 hb7q hh0
                      go_wp2_with fail
                      go_cut [18] (fun x wx => ∃ (A : Option Addr) (c : Nat) (l' : List Nat), x = .slice A l'.length c ∧ NatR wx A c l' (chc l i j) ∧ Below wq.heap.size wq wx)
                      case first =>
                        skip
                        {
 refine wp_region_noPanic ?_
 refine wp_region_held_drew (S := (fun X => Below wq.heap.size wq X ∧ X.cell? ⟨g, dd, none⟩ = some (.slice AP lP.length cP))) (by kernel_rfl) (HKS28.out _ (Below.refl _ wq).drew) (fun HS0 => ?_)
 have hbx0 : Below wq.heap.size wq wq.drew := (Below.refl _ _).drew
 obtain ⟨Xx0, hXx0⟩ : ∃ X, X = wq.drew := ⟨_, rfl⟩
 rw [← hXx0] at hbx0 HS0 ⊢
 have HBx0 := Lib.hid hbx0
 clear hbx0 hXx0
 refine wpAnyH_take (i := 0) (v := ?_) rfl (by kernel_rfl) (by kernel_rfl) (by kernel_rfl) (fun _ _ _ h => h) (Or.inl ⟨by kernel_rfl, ?_⟩) HS0 ?_
 rotate_left
 · intro W hW; (try dsimp only at hW); go_simp; try (with_reducible rfl)
 refine wpAnyH_take (i := 1) (v := ?_) rfl (by kernel_rfl) (by kernel_rfl) (by kernel_rfl) (fun _ _ _ h => h) (Or.inl ⟨by kernel_rfl, ?_⟩) HS0 ?_
 rotate_left
 · intro W hW; (try dsimp only at hW); go_simp; try (with_reducible rfl)
 refine wpAnyH_take (i := 4) (v := ?_) rfl (by kernel_rfl) (by kernel_rfl) (by kernel_rfl) (fun _ _ _ h => h) (Or.inl ⟨by kernel_rfl, ?_⟩) HS0 ?_
 rotate_left
 · intro W hW; (try dsimp only at hW); go_simp; try (with_reducible rfl)
 refine wpAnyH_take (i := 5) (v := ?_) rfl (by kernel_rfl) (by kernel_rfl) (by kernel_rfl) (fun _ _ _ h => h) (Or.inl ⟨by kernel_rfl, ?_⟩) HS0 ?_
 rotate_left
 · intro W hW; (try dsimp only at hW); go_simp; try (with_reducible rfl)
 refine wpAnyH_take (i := 6) (v := ?_) rfl (by kernel_rfl) (by kernel_rfl) (by kernel_rfl) (fun _ _ _ h => h) (Or.inl ⟨by kernel_rfl, ?_⟩) HS0 ?_
 rotate_left
 · intro W hW; (try dsimp only at hW); go_simp; try (with_reducible rfl)
 refine wpAnyH_take (i := 7) (v := ?_) rfl (by kernel_rfl) (by kernel_rfl) (by kernel_rfl) (fun _ _ _ h => h) (Or.inl ⟨by kernel_rfl, ?_⟩) HS0 ?_
 rotate_left
 · intro W hW; (try dsimp only at hW); go_simp; try (with_reducible rfl)
 refine wpAnyH_take (i := 8) (v := ?_) rfl (by kernel_rfl) (by kernel_rfl) (by kernel_rfl) (fun _ _ _ h => h) (Or.inl ⟨by kernel_rfl, ?_⟩) HS0 ?_
 rotate_left
 · intro W hW; (try dsimp only at hW); go_simp; try (with_reducible rfl)
 refine wpAnyH_take (i := 9) (v := ?_) rfl (by kernel_rfl) (by kernel_rfl) (by kernel_rfl) (fun _ _ _ h => h) (Or.inl ⟨by kernel_rfl, ?_⟩) HS0 ?_
 rotate_left
 · intro W hW; (try dsimp only at hW); go_simp; try (with_reducible rfl)
 refine wpAnyH_take (i := 10) (v := ?_) rfl (by kernel_rfl) (by kernel_rfl) (by kernel_rfl) (fun _ _ _ h => h) (Or.inl ⟨by kernel_rfl, ?_⟩) HS0 ?_
 rotate_left
 · intro W hW; (try dsimp only at hW); go_simp; try (with_reducible rfl)
 clear HS0
 refine run_one (i := 2) (by kernel_rfl) rfl rfl ?_
 intro K hK
 go_simp
 (with_reducible refine (HOQ.out Xx0).mono ?_)
 rintro e Xx1 ⟨Aq, cq, lq, rfl, hnq, hbx1⟩
 have HBx1 := Lib.hid (below_next (HBx0.out) hbx1)
 refine hK.out _ _ (HKS28.out _ HBx1.out) ?_
 clear hK K
 intro _
 refine run_one (i := 3) (by kernel_rfl) rfl rfl ?_
 intro K hK
 go_simp
 (with_reducible refine (natMul_any AD Aq cD cq lD lq _ _ Xx1 (HDQ.out.on (HBx1.out)) (hnq) HL7.out (HLN.out _ _ _ _ _ (hnq) HZ.out.1)).mono ?_)
 rintro e Xx2 ⟨Am, cm, lm, rfl, hnm, hbx2⟩
 have HBx2 := Lib.hid (below_next (HBx1.out) hbx2)
 refine hK.out _ _ (HKS28.out _ HBx2.out) ?_
 clear hK K
 intro _
 refine run_one (i := 11) (by kernel_rfl) rfl rfl ?_
 intro K hK
 go_simp
 (with_reducible refine (HSS.out Xx2).mono ?_)
 rintro e Xx3 ⟨As, cs, ls, rfl, hns, hbx3⟩
 have HBx3 := Lib.hid (below_next (HBx2.out) hbx3)
 refine hK.out _ _ (HKS28.out _ HBx3.out) ?_
 clear hK K
 intro _
 refine run_one (i := 12) (by kernel_rfl) rfl rfl ?_
 intro K hK
 go_simp
 (with_reducible refine (natMul_any AP As cP cs lP ls _ _ Xx3 (HPQ.out.on (HBx3.out)) (hns) HLP.out (HLN.out _ _ _ _ _ (hns) HZ.out.2.2.2.1)).mono ?_)
 rintro e Xx4 ⟨Ap, cp, lp, rfl, hnp, hbx4⟩
 have HBx4 := Lib.hid (below_next (HBx3.out) hbx4)
 refine hK.out _ _ (HKS28.out _ HBx4.out) ?_
 clear hK K
 intro _
 refine run_one (i := 13) (by kernel_rfl) rfl rfl ?_
 intro K hK
 go_simp
 (with_reducible refine (natSub_any Am Ap cm cp lm lp _ _ Xx4 (((hnm).on hbx3).on hbx4) (hnp) (HLN.out _ _ _ _ _ (((hnm).on hbx3).on hbx4) HZ.out.2.1) HZ.out.2.2.2.2.2.1).mono ?_)
 rintro e Xx5 ⟨Ac, cc, lc, rfl, hnc, hbx5⟩
 have HBx5 := Lib.hid (below_next (HBx4.out) hbx5)
 refine hK.out _ _ (HKS28.out _ HBx5.out) ?_
 clear hK K
 intro _
 have HS0 := HKS28.out _ (HBx5.out)
 refine wpAnyH_take (i := 14) (v := ?_) rfl (by kernel_rfl) (by kernel_rfl) (by kernel_rfl) (fun _ _ _ h => h) (Or.inl ⟨by kernel_rfl, ?_⟩) HS0 ?_
 rotate_left
 · intro W hW; (try dsimp only at hW); go_simp; try (with_reducible rfl)
 clear HS0
 refine wpAnyH_done (by kernel_rfl) ?_ _
 refine NoPanic.normal ?_
 (try go_simp)
 go_wp2_with fail
 go_meet
 have hfin := hnc
 rw [HCC.out] at hfin
 exact ⟨Ac, cc, lc, rfl, hfin, HBx5.out⟩
                        }
                      case rest =>
                        obtain ⟨Ac, cc, lc, rfl, hnc, hbc⟩ := hcut
                        obtain ⟨w28, rfl⟩ : ∃ W : World, W = wc := ⟨_, rfl⟩
                        have HB28 := Lib.hid (below_next HBQ.out hbc)
                        have HNC := Lib.hid hnc
                        have HBO := Lib.hid (below_next HBI.out HB28.out)
                        have HLC := Lib.hid (HLN.out _ _ _ _ _ hnc HZ.out.2.2.2.2.2.2.1)
                        have HH0 := Lib.hid ((HALL.out i h0 HX0.out).1.on HBO.out)
                        have hx0 : h0.x = (bestL (chc l) (chE l pen) i).1 := by rw [← HK0.out]; rfl
                        have HLH := Lib.hid (HLN.out _ _ _ _ _ HH0.out.1 (by rw [hx0]; exact HZ.out.2.2.2.2.2.2.2.1))
                        have HX00 := Lib.hid hx0
                        obtain ⟨o0, -⟩ := HCE.out w28 HB28.out
                        clear hnc hbc hx0
                        go_wp2_with fail
                        clear o0
                        have hq29 := natAdd_any h0.A1 Ac h0.c1 cc h0.l1 lc _ _ w28 HH0.out.1 HNC.out HLH.out HLC.out
                        (with_reducible refine (hq29).mono ?_)
                        clear hq29
                        rintro e w29 ⟨Ax, cx, lx, rfl, hx, hb29⟩
                        obtain ⟨W9, hW9⟩ : ∃ W, W = w29.alloc (.cells #[.slice Ax lx.length cx, .slice none 0 0] 68) := ⟨_, rfl⟩
                        obtain ⟨b2, hb2⟩ : ∃ b, b = w29.heap.size := ⟨_, rfl⟩
                        have hb9 : Below w29.heap.size w29 W9 := by rw [hW9]; exact (Below.refl _ w29).alloc (Nat.le_refl _) _
                        have HDB := Lib.hid (show DvB W9 b2 68 ⟨Ax, cx, lx, h0.x + chc l i j, none, 0, []⟩ by rw [hW9, hb2]; exact DvB.new (y := ⟨Ax, cx, lx, _, none, 0, []⟩) ⟨hx, PlR.nil _⟩)
                        have HLO := Lib.hid (show w28.heap.size ≤ b2 by rw [hb2]; exact hb29.size)
                        have HB29 := Lib.hid (show Below w28.heap.size w28 W9 from below_next hb29 hb9)
                        have HLX := Lib.hid (HLN.out _ _ _ _ _ hx (by rw [HX00.out]; exact HZ.out.2.2.2.2.2.2.2.2.1))
                        have HEQ := Lib.hid (HNE.out.on (below_next HBJ.out (below_next HBO.out HB29.out)))
                        have HLE := Lib.hid (HLN.out _ _ _ _ _ HEQ.out HEE.out)
                        have HCA := Lib.hid (show (0 : Int) < (i : Int) → (h0.x + chc l i j + D * P, h0.zs ++ [i]) = candL (chc l) (chE l pen) 0 j i (bestL (chc l) (chE l pen) i) from fun hi => by
                          unfold candL
                          rw [if_pos (by omega), ← HK0.out, HDD.out, HPP.out.1]
                          rfl)
                        clear hx hb29 hb9
                        go_upto_if 124 with fail
                        rw [← hW9, ← hb2]
                        clear hW9 hb2
                        go_cut [19] (fun x wx => ∃ h2' : Dv, x = .pointer (some ⟨b2, 0, none⟩) ∧ DvB wx b2 68 h2' ∧ h2'.k = candL (chc l) (chE l pen) 0 j i (bestL (chc l) (chE l pen) i) ∧ Below w28.heap.size w28 wx)
                        case first =>
                          by_cases hgz : (0 : Int) < (i : Int)
                          · obtain ⟨i0, hi0', hz0, hz1, hz2⟩ := info_parts Tryz.infoI4
                            obtain ⟨k0, k1, z0, z1⟩ := HDB.out.cells
                            go_wp2_with fail
                            clear k0 k1 z0 z1
                            have hq31 := natAdd_any Ax AE cx cE lx lE _ _ W9 HDB.out.2.1 HEQ.out HLX.out HLE.out
                            (with_reducible refine (hq31).mono ?_)
                            clear hq31
                            rintro e w31 ⟨Ae, ce, le, rfl, he, hb31⟩
                            have hd9 := HDB.out.on hb31
                            obtain ⟨k0, k1, z0, z1⟩ := hd9.cells
                            obtain ⟨W31, hW31⟩ : ∃ W, W = w31.setCell ⟨b2, 0, none⟩ (.slice Ae le.length ce) := ⟨_, rfl⟩
                            have HD31 := Lib.hid (show DvB W31 b2 68 ⟨Ae, ce, le, _, none, 0, []⟩ by rw [hW31]; exact (hd9.put0 he).1)
                            have HB31 := Lib.hid (show Below w28.heap.size w28 W31 by rw [hW31]; exact (below_next HB29.out hb31).setCell (p := ⟨b2, 0, none⟩) HLO.out _)
                            obtain ⟨-, o1⟩ := HCE.out W31 (below_next HB28.out HB31.out)
                            rw [hW31] at o1
                            clear hd9 he hb31
                            go_wp2_with fail
                            rw [← hW31]
                            clear hW31 k0 k1 z0 z1 o1
                            have hq32 := cloneI_any h0.A2 h0.c2 h0.zs W31 (HH0.out.2.on HB31.out) HZL.out
                            (with_reducible refine (hq32).mono ?_)
                            clear hq32
                            rintro e w32 ⟨v1, rfl, hown, hb32⟩
                            have HOW := Lib.hid (show (w32.alloc (.cells #[.int .i64 (i : Int)] 3)).ownsRow W31.heap.size 3 1 v1 h0.zs.length (nInts h0.zs) from hown.alloc _)
                            have HB32 := Lib.hid (show Below W31.heap.size W31 (w32.alloc (.cells #[.int .i64 (i : Int)] 3)) from below_next hb32 ((Below.refl _ w32).alloc (Nat.le_refl _) _))
                            clear hown hb32
                            go_wp2_with (at_builtin; refine wpList_append_lies _ rfl (.tmp 135) (.tmp 137) 22 rfl W31.heap.size 3 i0 _ 1 8 Tryz.underlying22 hi0' hz0 hz1 hz2 rfl (by decide) v1 h0.zs.length (nInts h0.zs) rfl HOW.out ⟨w32.heap.size, 0, none⟩ 1 1 [.int .i64 (i : Int)] rfl rfl (cell_one_new w32 _ 3) (by simp [Value.oneCell']) (by omega) ?c3 ?c4 ?c5 _ rfl ?_)
                            case c3 => have := HZL.out; unfold maxLen; omega
                            case c4 => have := HZL.out; omega
                            case c5 => exact HB32.out.size
                            intro g3 cap3 w6 hown6 hgr6 _ _
                            have hb6 : Below W31.heap.size W31 w6 := HB32.out.trans ((Fr.of_grown hgr6).below HB32.out.size (fun q hq hm => by have := (ownsRow_block HOW.out hm).1; omega))
                            have hpl := PlR.of_app hown6
                            have hd6 := HD31.out.on hb6
                            obtain ⟨k0, k1, z0, z1⟩ := hd6.cells
                            obtain ⟨W33, hW33⟩ : ∃ W, W = w6.setCell ⟨b2, 1, none⟩ (.slice (some ⟨g3, 0, none⟩) (h0.zs.length + 1) cap3) := ⟨_, rfl⟩
                            have HD33 := Lib.hid (show DvB W33 b2 68 ⟨Ae, ce, le, _, some ⟨g3, 0, none⟩, cap3, h0.zs ++ [i]⟩ by rw [hW33]; exact hd6.putz hpl (by simp))
                            have HB33 := Lib.hid (show Below w28.heap.size w28 W33 by rw [hW33]; exact (below_next HB31.out hb6).setCell (p := ⟨b2, 1, none⟩) HLO.out _)
                            clear hown6 hgr6 hb6 hpl hd6
                            go_wp2_with fail
                            rw [← hW33]
                            clear hW33 k0 k1 z0 z1
                            go_meet
                            exact ⟨_, rfl, HD33.out, HCA.out hgz, HB33.out⟩
                          · have HCB := Lib.hid (show Dv.k ⟨Ax, cx, lx, h0.x + chc l i j, none, 0, []⟩ = candL (chc l) (chE l pen) 0 j i (bestL (chc l) (chE l pen) i) by
                              obtain rfl : i = 0 := by omega
                              have e : h0.x = 0 := by rw [HX00.out, bestL_zero]
                              unfold candL Dv.k
                              rw [if_neg (by omega), e, Nat.zero_add])
                            go_wp2_with fail
                            go_meet
                            exact ⟨_, rfl, HDB.out, HCB.out, HB29.out⟩
                        case rest =>
                          obtain ⟨h2', rfl, hdn, hk2, hb30⟩ := hcut
                          obtain ⟨w30, rfl⟩ : ∃ W : World, W = wc := ⟨_, rfl⟩
                          have HCB2 := Lib.hid (show h2'.k.1 < W64 ^ 8 ∧ h2'.k.2.length ≤ 1000000 by rw [hk2]; exact candL_bd h2 (by omega) hp.2 hij hlt)
                          have HRB2 := Lib.hid (show ¬ i + 1 = j → h.k.1 < W64 ^ 8 ∧ h.k.2.length ≤ 1000000 from fun e => by rw [HRUN.out (by omega)]; exact runL_bd h2 (by omega) hp.2 hlt (j - 1 - (i + 1)) (by omega))
                          have HDN := Lib.hid hdn
                          have HB30 := Lib.hid (below_next HBO.out hb30)
                          have HDO := Lib.hid (HDW.out.on (below_next HB28.out hb30))
                          have HFI := Lib.hid (show i + 1 = j → h2'.k = runL (chc l) (chE l pen) (bestL (chc l) (chE l pen)) j (j - 1 - i) from fun e => by
                            rw [hk2, show j - 1 - i = 0 by omega, runL, show j - 1 = i by omega])
                          have HNX := Lib.hid (show ∀ z, ¬ i + 1 = j → pickK h2'.k h.k = z → z = runL (chc l) (chE l pen) (bestL (chc l) (chE l pen)) j (j - 1 - i) from fun z e hz => by
                            have hh := HRUN.out (by omega)
                            rw [← hz, hk2, hh, show j - 1 - i = (j - 1 - (i + 1)) + 1 by omega, runL, show j - 1 - (j - 1 - (i + 1) + 1) = i by omega])
                          have hj1' : IntKind.i64.wrap ((j : Int) - 1) = (j : Int) - 1 := IntWalk.i64_in _ (by omega)
                          clear hdn hk2 hb30
                          obtain ⟨k0, k1, -, -⟩ := HDN.out.cells
                          obtain ⟨k2, k3, z2, z3⟩ := HDO.out.cells
                          by_cases hlast : i + 1 = j
                          · have hl0 : ((i : Int) == (j : Int) - 1) = true := by rw [beq_iff_eq]; omega
                            obtain ⟨W34, hW34⟩ : ∃ W, W = (w30.setCell ⟨b, 0, none⟩ (.slice h2'.A1 h2'.l1.length h2'.c1)).setCell ⟨b, 1, none⟩ (.slice h2'.A2 h2'.zs.length h2'.c2) := ⟨_, rfl⟩
                            have HD34 := Lib.hid (show DvB W34 b 68 h2' by rw [hW34]; exact (HDO.out.put HDN.out.2).1)
                            have HB34 := Lib.hid (show Below wo.heap.size wo W34 by rw [hW34]; exact ((HB30.out).setCell (p := ⟨b, 0, none⟩) HBB.out _).setCell (p := ⟨b, 1, none⟩) HBB.out _)
                            go_wp2_with fail
                            rw [← hW34]
                            clear hW34 k0 k1 k2 k3 z2 z3
                            go_roundw
                            case rel => exact ⟨i, h2', by go_num, by omega, by rw [HSM.out], by rw [HSQ.out], HD34.out, fun _ => HFI.out hlast, HB34.out⟩
                            case measure => simp [intOf]
                          · have hl0 : ((i : Int) == (j : Int) - 1) = false := by rw [beq_eq_false_iff_ne]; omega
                            obtain ⟨c1', c2'⟩ := HCB2.out
                            obtain ⟨r1', r2'⟩ := HRB2.out hlast
                            have HJB := Lib.hid (jBetter_any h2' h w30 HDN.out.2 HDO.out.2 (HLN.out _ _ _ _ _ HDN.out.2.1 c1') (HLN.out _ _ _ _ _ HDO.out.2.1 r1') c2' r2')
                            obtain ⟨bt, hbt⟩ : ∃ t, t = betK h2'.k h.k := ⟨_, rfl⟩
                            rw [← hbt] at HJB
                            have HBT := Lib.hid hbt
                            clear c1' c2' r1' r2' hbt
                            go_wp2_with fail
                            clear k0 k1 k2 k3 z2 z3
                            (with_reducible refine (HJB.out).mono ?_)
                            rintro e w33 ⟨rfl, hb33⟩
                            have HN33 := Lib.hid (HDN.out.on hb33)
                            have HO33 := Lib.hid (HDO.out.on hb33)
                            have HB33 := Lib.hid (below_next HB30.out hb33)
                            obtain ⟨k0, k1, -, -⟩ := HN33.out.cells
                            obtain ⟨k2, k3, z2, z3⟩ := HO33.out.cells
                            clear hb33
                            cases bt with
                            | true =>
                              obtain ⟨W34, hW34⟩ : ∃ W, W = (w33.setCell ⟨b, 0, none⟩ (.slice h2'.A1 h2'.l1.length h2'.c1)).setCell ⟨b, 1, none⟩ (.slice h2'.A2 h2'.zs.length h2'.c2) := ⟨_, rfl⟩
                              have HD34 := Lib.hid (show DvB W34 b 68 h2' by rw [hW34]; exact (HO33.out.put HN33.out.2).1)
                              have HB34 := Lib.hid (show Below wo.heap.size wo W34 by rw [hW34]; exact ((HB33.out).setCell (p := ⟨b, 0, none⟩) HBB.out _).setCell (p := ⟨b, 1, none⟩) HBB.out _)
                              go_wp2_with fail
                              rw [← hW34]
                              clear hW34 k0 k1 k2 k3 z2 z3
                              go_roundw
                              case rel => exact ⟨i, h2', by go_num, by omega, by rw [HSM.out], by rw [HSQ.out], HD34.out, fun _ => HNX.out _ hlast (by unfold pickK; rw [← HBT.out]; rfl), HB34.out⟩
                              case measure => simp [intOf]
                            | false =>
                              go_wp2_with fail
                              go_roundw
                              case rel => exact ⟨i, h, by go_num, by omega, by rw [HSM.out], by rw [HSQ.out], HO33.out, fun _ => HNX.out _ hlast (by unfold pickK; rw [← HBT.out]; rfl), HB33.out⟩
                              case measure => simp [intOf]
                    · obtain rfl : m = 0 := by omega
                      have hneg : ¬ (0 : Int) ≤ ((0 : Nat) : Int) - 1 := by omega
                      have hk := HRUN.out (by omega)
                      have HK := Lib.hid (show h.k = bestL (chc l) (chE l pen) j by rw [hk, Nat.sub_zero, ← bestL_step _ _ (by omega)])
                      obtain ⟨i0, hi0', hz0, hz1, hz2⟩ := info_parts infoDv
                      obtain ⟨k0, k1, -, -⟩ := HDW.out.cells
                      obtain ⟨W5, hW5⟩ : ∃ W, W = wr.alloc (.cells #[.slice h.A1 h.l1.length h.c1, .slice h.A2 h.zs.length h.c2] 68) := ⟨_, rfl⟩
                      have hb5 : Below wr.heap.size wr W5 := by rw [hW5]; exact (Below.refl _ wr).alloc (Nat.le_refl _) _
                      have HB5 := Lib.hid (below_next HBJ.out (below_next HBI.out hb5))
                      have HRW := Lib.hid (HROWJ.out.call (below_next HBI.out hb5))
                      have HD5 := Lib.hid (HDW.out.2.on hb5)
                      have HNEW := Lib.hid (show ∀ (q : Nat) u, h.v[q]? = some u → W5.cell? ((⟨wr.heap.size, 0, none⟩ : Addr).add q) = some u by rw [hW5]; exact Dv.new wr h _)
                      have hs5 : w7.heap.size ≤ W5.heap.size := HB5.out.size
                      clear hk hb5
                      go_wp2_with (at_builtin; rw [← hW5]; refine wpList_append_dv rfl (.tmp 150) (.tmp 152) 69 rfl w7.heap.size 68 i0 Tryz.underlying69 hi0' hz0 hz1 (by omega) _ xs rfl HRW.out.1 ⟨wr.heap.size, 0, none⟩ h rfl HNEW.out (by have := HXL.out; omega) hs5 ?_)
                      intro v' wa hrowa hgra
                      rw [← hW5] at hgra
                      have HRW5 := Lib.hid (HRW.out.app HD5.out hrowa hgra)
                      have HBA := Lib.hid (below_grownD HB5.out HRW.out.1 hgra)
                      clear hrowa hgra hs5 k0 k1 hW5
                      go_wp2
                      go_roundw
                      case rel => exact ⟨j + 1, xs ++ [h], by go_num, by omega, by omega, by rw [List.length_append, HXL.out]; rfl, fun k z hz => by
                        have hxl := HXL.out
                        rcases Nat.lt_or_ge k j with hkj | hkj
                        · rw [List.getElem?_append_left (by omega)] at hz
                          exact HXK.out k z hz
                        · rw [List.getElem?_append_right (by omega)] at hz
                          have h1 := (List.getElem?_eq_some_iff.1 hz).1
                          simp at h1
                          obtain rfl : k = j := by omega
                          rw [show k - xs.length = 0 by omega] at hz
                          simp at hz
                          subst hz
                          exact HK.out, HRW5.out, HBA.out⟩
                      case measure => simp [intOf]; omega
                · have hltz : ¬ (j : Int) ≤ (l.length : Int) := by omega
                  obtain rfl : j = l.length + 1 := by omega
                  obtain ⟨gb, capb, rfl, hall⟩ := HROW.out.all (by omega)
                  obtain ⟨h0, hh0⟩ : ∃ h, xs[l.length]? = some h := ⟨xs[l.length]'(by omega), List.getElem?_eq_getElem (by omega)⟩
                  have HK0 := Lib.hid (show h0.k = chB l pen from HXK.out _ h0 hh0)
                  obtain ⟨hdv0, hce0⟩ := hall _ h0 hh0
                  obtain ⟨o0, o1⟩ := hce0 wr (Below.refl _ _)
                  rw [hxl]
                  obtain ⟨W9, hW9⟩ : ∃ W, W = wr.alloc (.cells #[.slice h0.A1 h0.l1.length h0.c1, .slice h0.A2 h0.zs.length h0.c2] 68) := ⟨_, rfl⟩
                  obtain ⟨bd, hbd⟩ : ∃ b, b = wr.heap.size := ⟨_, rfl⟩
                  have hb9 : Below wr.heap.size wr W9 := by rw [hW9]; exact (Below.refl _ wr).alloc (Nat.le_refl _) _
                  have HBDW := Lib.hid (show bd ≠ w.heap.size by rw [hbd]; exact Nat.ne_of_gt (Nat.lt_of_lt_of_le (heap_lt HT2.out) (below_next HB7.out HBJ.out).size))
                  have HD9 := Lib.hid (show DvB W9 bd 68 h0 by rw [hW9, hbd]; exact DvB.new hdv0)
                  have HBL := Lib.hid (show Below w2.heap.size w2 W9 from below_next HB7.out (below_next HBJ.out hb9))
                  have HDD9 := Lib.hid (HND.out.on (below_next HB7.out (below_next HBJ.out hb9)))
                  obtain ⟨k0, k1, -, -⟩ := HD9.out.cells
                  rw [hW9, hbd] at k0 k1
                  have hx0 : h0.x = (chB l pen).1 := by rw [← HK0.out]; rfl
                  have hz0' : h0.zs = (chB l pen).2 := by rw [← HK0.out]; rfl
                  have HX0 := Lib.hid hx0
                  have HZ0 := Lib.hid hz0'
                  have HZL := Lib.hid (show h0.zs.length ≤ 1000000 by
                    have := best_len (l := l) (pen := pen) (k := l.length) (by omega)
                    rw [hz0']
                    exact Nat.le_trans this (by omega))
                  have HXW := Lib.hid (show h0.x < W64 ^ 8 by
                    rw [hx0]
                    exact ch_small (by omega) (up_bd (best_le (pen := pen) h2 (by omega) (Nat.le_refl _)) (by omega)))
                  have HDW8 := Lib.hid (show D < W64 ^ 8 from Nat.lt_of_lt_of_le HDS.out (Nat.pow_le_pow_right (by decide) (by omega)))
                  have HQ := Lib.hid (show mkRat (sg false h0.x) D = chQ l pen by rw [hx0, HDD.out]; rfl)
                  have HOF := Lib.hid (jOf_any h0.A1 AD h0.c1 cD h0.l1 lD _ _ W9 HD9.out.2.1 HDD9.out)
                  have HHZ := Lib.hid hxl
                  clear hall hh0 hdv0 hce0 hb9 hx0 hz0' hxl HROW
                  go_wp2_with fail
                  rw [← hW9, ← hbd]
                  clear hW9 hbd o0 o1 k0 k1
                  (with_reducible refine (HOF.out).mono ?_)
                  rintro e w10 ⟨v10, rfl, hv10, hb10⟩
                  have HBM := Lib.hid (below_next HBL.out hb10)
                  have hrt := jRatio_any v10 false h0.x D 8 w10 hv10 HXW.out HDW8.out (by omega) HD0.out ((HTAB.out.on (below_next HB2.out HBM.out)).mono (below_next HB2.out HBM.out).size)
                  rw [HQ.out] at hrt
                  have hrtv : ratOf (rtT (chQ l pen)) = .agg #[.string ⟨(rtT (chQ l pen)).1.toArray⟩, .string ⟨(rtT (chQ l pen)).2.toArray⟩] := rfl
                  obtain ⟨A5, c5, l5, A6, c6, l6, rfl, -, -⟩ := hv10
                  obtain ⟨R1, hR1⟩ : ∃ R : ByteArray, R = ⟨(rtT (chQ l pen)).1.toArray⟩ := ⟨_, rfl⟩
                  obtain ⟨R2, hR2⟩ : ∃ R : ByteArray, R = ⟨(rtT (chQ l pen)).2.toArray⟩ := ⟨_, rfl⟩
                  rw [← hR1, ← hR2] at hrtv
                  rw [hrtv] at hrt
                  have HRTV := Lib.hid hrtv
                  have hcc := HC.out
                  obtain ⟨rc, hrc⟩ : ∃ z, z = rtC (chQ l pen) := ⟨_, rfl⟩
                  rw [← hrc] at hrt hcc
                  have HCC := Lib.hid hcc
                  have HRT := Lib.hid hrt
                  have HD10 := Lib.hid (HD9.out.on hb10)
                  clear hrtv hrt hcc hrc hR1 hR2 hb10
                  go_wp2_with fail
                  (with_reducible refine (HRT.out).mono ?_)
                  rintro e w11 ⟨rfl, hb11⟩
                  obtain ⟨W12, hW12⟩ : ∃ W, W = w11.alloc (.cells #[.string R1, .string R2] 24) := ⟨_, rfl⟩
                  obtain ⟨br, hbr⟩ : ∃ b, b = w11.heap.size := ⟨_, rfl⟩
                  have hb12 : Below w11.heap.size w11 W12 := by rw [hW12]; exact (Below.refl _ w11).alloc (Nat.le_refl _) _
                  have HR12 := Lib.hid (show Txt2 W12 br R1 R2 by rw [hW12, hbr]; exact alloc_at _ _ _ rfl)
                  have hb1012 := below_next hb11 hb12
                  have HD12 := Lib.hid (HD10.out.on hb1012)
                  have HB12 := Lib.hid (below_next HB2.out (below_next HBM.out hb1012))
                  have HT12 := Lib.hid (HT2.out.on (below_next HBM.out hb1012))
                  have HBRW := Lib.hid (show w.heap.size < br by rw [hbr]; exact Nat.lt_of_lt_of_le (heap_lt HT2.out) (below_next HBM.out hb11).size)
                  clear hb11 hb12 hb1012
                  by_cases hrc0 : rc = 0
                  · have hne : (rc != 0) = false := by rw [hrc0]; rfl
                    have HC0 := Lib.hid (HCC.out.trans hrc0)
                    have HKS40 := Lib.hid (show ∀ X, Below W12.heap.size W12 X → (fun X => Below w.heap.size w X ∧ X.cell? ⟨bd, 1, none⟩ = some (.slice h0.A2 h0.zs.length h0.c2) ∧ X.cell? ⟨br, 0, none⟩ = some (.string R1) ∧ X.cell? ⟨br, 1, none⟩ = some (.string R2)) X from fun X hX => ⟨below_next HB12.out hX, (HD12.out.on hX).cells.2.1, (HR12.out.on hX).facts.1, (HR12.out.on hX).facts.2.1⟩)
                    have HCL := Lib.hid (show ∀ X, Below W12.heap.size W12 X → Calls Tryz.prog 31 #[.slice h0.A2 h0.zs.length h0.c2] X fun e w' => ∃ A c, e = .returned (.slice A h0.zs.length c) ∧ h0.zs.length ≤ c ∧ w'.ownsRow X.heap.size 3 1 (.slice A h0.zs.length c) h0.zs.length (nInts h0.zs) ∧ Below X.heap.size X w' from fun X hX => (cloneI_any h0.A2 h0.c2 h0.zs X (HD12.out.2.2.on hX) HZL.out).mono fun e w' ⟨v, h1, h2, h3⟩ => by
                      obtain ⟨A, c, rfl, hc, -, -⟩ := ownsRow_shape h2
                      exact ⟨A, c, h1, hc, h2, h3⟩)
                    have HCP := Lib.hid (show ∀ X A n c, n ≤ c → Calls Tryz.prog 35 #[.slice A n c] X fun e w' => e = .returned (.slice A n n) ∧ Below X.heap.size X w' from fun X A n c h => (clipInts_any A n c X h).mono fun e w' ⟨h1, h2⟩ => ⟨h1, h2 ▸ Below.refl _ _⟩)
                    have HLO := Lib.hid (show w.heap.size + 1 ≤ W12.heap.size from heap_lt HT12.out)
                    have HBD := Lib.hid (show bd ≠ w.heap.size from HBDW.out)
                    rw [hrc0]
                    clear hrc0 
                    go_wp2_with fail
                    rw [← hW12, ← hbr]
                    clear hW12 hbr
                    skip
                    {
 refine wp_region_noPanic ?_
 refine wp_region_held_drew (S := (fun X => Below w.heap.size w X ∧ X.cell? ⟨bd, 1, none⟩ = some (.slice h0.A2 h0.zs.length h0.c2) ∧ X.cell? ⟨br, 0, none⟩ = some (.string R1) ∧ X.cell? ⟨br, 1, none⟩ = some (.string R2))) (by kernel_rfl) (HKS40.out _ (Below.refl _ W12).drew) (fun HS0 => ?_)
 have hbx0 : Below W12.heap.size W12 W12.drew := (Below.refl _ _).drew
 obtain ⟨Xx0, hXx0⟩ : ∃ X, X = W12.drew := ⟨_, rfl⟩
 rw [← hXx0] at hbx0 HS0 ⊢
 have HBx0 := Lib.hid hbx0
 clear hbx0 hXx0
 refine wpAnyH_take (i := 0) (v := ?_) rfl (by kernel_rfl) (by kernel_rfl) (by kernel_rfl) (fun _ _ _ h => h) (Or.inl ⟨by kernel_rfl, ?_⟩) HS0 ?_
 rotate_left
 · intro W hW; (try dsimp only at hW); go_simp; try (with_reducible rfl)
 refine wpAnyH_take (i := 1) (v := ?_) rfl (by kernel_rfl) (by kernel_rfl) (by kernel_rfl) (fun _ _ _ h => h) (Or.inl ⟨by kernel_rfl, ?_⟩) HS0 ?_
 rotate_left
 · intro W hW; (try dsimp only at hW); go_simp; try (with_reducible rfl)
 refine wpAnyH_take (i := 4) (v := ?_) rfl (by kernel_rfl) (by kernel_rfl) (by kernel_rfl) (fun _ _ _ h => h) (Or.inl ⟨by kernel_rfl, ?_⟩) HS0 ?_
 rotate_left
 · intro W hW; (try dsimp only at hW); go_simp; try (with_reducible rfl)
 clear HS0
 refine run_one (i := 2) (by kernel_rfl) rfl rfl ?_
 intro K hK
 go_simp
 (with_reducible refine (HCL.out Xx0 (HBx0.out)).mono ?_)
 rintro e Xx1 ⟨Ak, ck, rfl, hkc, hown, hbx1⟩
 have HBx1 := Lib.hid (below_next (HBx0.out) hbx1)
 refine hK.out _ _ (HKS40.out _ HBx1.out) ?_
 clear hK K
 intro _
 refine run_one (i := 3) (by kernel_rfl) rfl rfl ?_
 intro K hK
 go_simp
 (with_reducible refine (HCP.out Xx1 Ak h0.zs.length ck hkc).mono ?_)
 rintro e Xx2 ⟨rfl, hbx2⟩
 have HBx2 := Lib.hid (below_next (HBx1.out) hbx2)
 refine hK.out _ _ (HKS40.out _ HBx2.out) ?_
 clear hK K
 intro _
 have HS0 := HKS40.out _ (HBx2.out)
 refine wpAnyH_take (i := 5) (v := ?_) rfl (by kernel_rfl) (by kernel_rfl) (by kernel_rfl) (fun _ _ _ h => h) (Or.inl ⟨by kernel_rfl, ?_⟩) HS0 ?_
 rotate_left
 · intro W hW; (try dsimp only at hW); go_simp; try (with_reducible rfl)
 clear HS0
 have hrd := ((Rd.of_own hown).below hbx2 (Nat.le_refl _)).more (show w.heap.size + 1 ≤ Xx0.heap.size from Nat.le_trans HLO.out HBx0.out.size) hbx2.size
 have HSX := Lib.hid (HKS40.out _ (HBx2.out))
 have ht := HT12.out.on (HBx2.out)
 obtain ⟨X9, hX9⟩ : ∃ X, X = (Xx2.setCell ⟨w.heap.size, 0, none⟩ (.string R1)).setCell ⟨w.heap.size, 1, none⟩ (.string R2) := ⟨_, rfl⟩
 have HSY : (fun X => Below w.heap.size w X ∧ X.cell? ⟨bd, 1, none⟩ = some (.slice h0.A2 h0.zs.length h0.c2) ∧ X.cell? ⟨br, 0, none⟩ = some (.string R1) ∧ X.cell? ⟨br, 1, none⟩ = some (.string R2)) X9 := by
   obtain ⟨a0, a1, a2, a3⟩ := HSX.out
   rw [hX9]
   exact ⟨txt2_below a0 (Nat.le_refl _) _ _, (World.cell?_of_block (txt2_far HBD.out)).trans a1, (World.cell?_of_block (txt2_far (Nat.ne_of_gt HBRW.out))).trans a2, (World.cell?_of_block (txt2_far (Nat.ne_of_gt HBRW.out))).trans a3⟩
 have HT9 := Lib.hid (show Txt2 X9 w.heap.size R1 R2 by rw [hX9]; exact txt2_set ht)
 have HRD9 := Lib.hid (show Rd X9 w.heap.size X9.heap.size 1 Ak h0.zs.length (nInts h0.zs) by rw [hX9]; exact (rd_txt2 hrd (Nat.lt_succ_self _)).more (Nat.le_succ _) (Nat.le_refl _))
 obtain ⟨s0, s1, s2, s3, s4⟩ := ht.facts
 clear hrd HSX ht
 refine run_one (i := 6) (by kernel_rfl) rfl rfl ?_
 intro K hK
 go_simp
 rw [← hX9]
 refine hK.out _ _ HSY ?_
 clear hK K hX9 HSY s0 s1 s2 s3 s4
 intro HS0
 refine wpAnyH_take (i := 7) (v := ?_) rfl (by kernel_rfl) (by kernel_rfl) (by kernel_rfl) (fun _ _ _ h => h) (Or.inl ⟨by kernel_rfl, ?_⟩) HS0 ?_
 rotate_left
 · intro W hW; (try dsimp only at hW); go_simp; try (with_reducible rfl)
 refine wpAnyH_done (by kernel_rfl) ?_ _
 refine NoPanic.normal ?_
 obtain ⟨s0, s1, s2, s3, s4⟩ := HT9.out.facts
 have HBL9 := Lib.hid HS0.1
 clear HS0
 go_wp2_with fail
 refine bodyPost_ret (v := .tuple #[.slice Ak h0.zs.length h0.zs.length, .agg #[.string R1, .string R2], .int .i64 0]) (by simp [results, Tryz.results6, go_sem, s0, s1, s4]) rfl (.inr ⟨HC0.out, Ak, h0.zs.length, by rw [HRTV.out, HZ0.out], by rw [← HZ0.out]; exact HRD9.out.more (Nat.zero_le _) (Nat.le_refl _), HBL9.out⟩)
                    }
                  · have hne : (rc != 0) = true := by rw [bne_iff_ne]; exact hrc0
                    have HNZ := Lib.hid (show C ≠ 0 by rw [HCC.out]; exact hrc0)
                    obtain ⟨s0, s1, s2, s3, s4⟩ := HT12.out.facts
                    have HFN := Lib.hid (fun a b => txt2_below (B := w.heap.size) HB12.out (Nat.le_refl _) a b)
                    rw [hW12] at s0 s1 s2 s3 s4
                    clear hrc0
                    go_wp2_with fail
                    rw [← hW12]
                    rw [← hW12] at s0 s1 s4
                    refine bodyPost_ret (v := .tuple #[.slice none 0 0, .agg #[.string ⟨#[]⟩, .string ⟨#[]⟩], .int .i64 rc]) (by simp [results, Tryz.results6, go_sem, s0, s1, s4]) rfl (.inl ⟨HNZ.out, by rw [HCC.out], HFN.out _ _⟩)
      · rw [if_neg h2] at HCK
        have HC := Lib.hid (hc2 (by omega) (by omega) h2)
        clear hc0 hc1 hc2 hc3 hc4 h0
        go_enter Tryz.func6, Tryz.ntmps6
        go_upto_region 1 with fail
        rw [← hW0]
        clear hW0
        go_wp2_with fail
        (with_reducible refine (HCK.out W0 HB.out).mono ?_)
        rintro e w1 ⟨rfl, hb1⟩
        have HT := Lib.hid (HT.out.on hb1)
        have HB := Lib.hid (below_next HB.out hb1)
        clear hb1
        obtain ⟨s0, s1, s2, s3, s4⟩ := HT.out.facts
        have HFN := Lib.hid (fun a b => txt2_below (B := w.heap.size) HB.out (Nat.le_refl _) a b)
        go_wp2_with fail
        refine bodyPost_ret (v := .tuple #[.slice none 0 0, .agg #[.string ⟨#[]⟩, .string ⟨#[]⟩], .int .i64 9]) (by simp [results, Tryz.results6, go_sem, s0, s1, s4]) rfl (.inl ⟨by rw [HC.out]; decide, by rw [HC.out], HFN.out _ _⟩)
end Go.Proofs.YtnpfdelklolchaaGreatDoor
