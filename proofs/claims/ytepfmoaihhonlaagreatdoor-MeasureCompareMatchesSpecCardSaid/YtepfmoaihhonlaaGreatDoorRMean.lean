/- Package dynamometerref9: Mean. Printed by gen_rmean.py. -/
import Derived.Test.YtepfmoaihhonlaaGreatDoorG38
import Derived.Test.YtepfmoaihhonlaaGreatDoorG21
import Derived.Test.YtepfmoaihhonlaaGreatDoorRQnt
import Derived.Deep.RegionHeld3
import Derived.RegionTactic
import Derived.ChangeAlike
namespace Go.Proofs.YtepfmoaihhonlaaGreatDoor
open Go Go.RowKit Go.Proofs

theorem rnLen {w : World} {A : Option Addr} {c : Nat} {ll : List Nat} {x : Nat} (h : RNatR w A c ll x) (hx : x ≤ 1125899906842624 * 1125899906842624) : ll.length ≤ 9 := h.len (Nat.lt_of_le_of_lt hx (by unfold T4; decide))
theorem rat_sz {n d : Nat} (hd : 0 < d) (hn : n ≤ 1125899906842624 * 1125899906842624) (hd2 : d ≤ 1125899906842624 * 1125899906842624) : Sz 100000 (mkRat (n : Int) d) := by
  have h := mk_le false n hd
  refine sz_mono (n := 9) (m := 100000) ⟨Nat.lt_of_le_of_lt (Nat.le_trans h.1 hn) (by unfold T4; decide), Nat.lt_of_le_of_lt (Nat.le_trans h.2 hd2) (by unfold T4; decide)⟩ (by omega)
set_option maxHeartbeats 8000000 in
set_option maxRecDepth 100000 in
theorem rMean_any (b : Int) (A : Option Addr) (c : Nat) (cs : List (Int × Int)) (w : World) (hr : Rd w 0 w.heap.size 2 A cs.length (cells2 cs)) (hl : cs.length < 9223372036854775807) (hx : ∀ c ∈ cs, c.1 ≤ 9223372036854775807) (ht : Tab w.heap.size w) :
    Calls Tryz.prog 43 #[.agg #[.int .i64 b, .slice A cs.length c]] w fun e w' => e = .returned (.tuple #[ratOf (meanL b cs), ratOf (meanH b cs), .int .i64 (meanC b cs)]) ∧ Below w.heap.size w w' := by
  have HCK := Lib.hid (fun (W : World) (hb : Below w.heap.size w W) => rcheck_any b A cs.length c cs W (hr.old hb) (by omega) hx)
  obtain ⟨W0, hW0⟩ : ∃ W0, W0 = ((w.alloc (.cells #[.int .i64 b, .slice A cs.length c] 53)).alloc (.cells #[.string ⟨#[]⟩, .string ⟨#[]⟩] 31)).alloc (.cells #[.string ⟨#[]⟩, .string ⟨#[]⟩] 31) := ⟨_, rfl⟩
  have HST0 := Lib.hid (show St w W0 [(w.heap.size, .cells #[.int .i64 b, .slice A cs.length c] 53 (0, 0)), (w.heap.size + 1, .cells #[.string ⟨#[]⟩, .string ⟨#[]⟩] 31 (0, 0)), (w.heap.size + 1 + 1, .cells #[.string ⟨#[]⟩, .string ⟨#[]⟩] 31 (0, 0))] by rw [hW0]; exact (((St.start w).alloc _ _ rfl).alloc _ _ (by simp)).alloc _ _ (by simp))
  by_cases hc : codeH b cs = 0
  · have hg := codeH_zero hc
    have HTO := Lib.hid (fun (W : World) (hb : Below w.heap.size w W) => rtotal_any b A cs.length c cs W (hr.old hb) (fun c hc => (hg.2.2.2.1 c hc).2) hg.2.2.1)
    have hpos := tot_pos (fun c hc => (hg.2.2.2.1 c hc).2)
    by_cases h0 : cs.length = 0
    · have HV := Lib.hid (show (.tuple #[ratOf (meanL b cs), ratOf (meanH b cs), .int .i64 (meanC b cs)] : Value) = .tuple #[.agg #[.string ⟨#[]⟩, .string ⟨#[]⟩], .agg #[.string ⟨#[]⟩, .string ⟨#[]⟩], .int .i64 13] by
        have e : meanC b cs = 13 := by unfold meanC; rw [if_neg (by omega), if_pos h0]
        unfold meanL meanH ratOf; rw [e]; rfl)
      have e0 : tot cs = 0 := by rw [List.eq_nil_of_length_eq_zero h0]; rfl
      rw [hc] at HCK
      rw [e0] at HTO
      clear hc hr ht h0 hg hx e0 hpos
      go_enter Tryz.func43, Tryz.ntmps43
      go_wp2_with fail
      rw [← hW0]
      clear hW0
      (with_reducible refine (HCK.out W0 HST0.out.below).mono ?_)
      rintro e w1 ⟨rfl, hb1⟩
      have hST1 := HST0.out.call hb1
      have HST1 := Lib.hid hST1
      have k00 := hST1.cell 0 0 rfl rfl
      have k01 := hST1.cell 0 1 rfl rfl
      clear hb1 hST1
      go_wp2_with fail
      (with_reducible refine (HTO.out w1 HST1.out.below).mono ?_)
      rintro e w2 ⟨rfl, hb2⟩
      have hST2 := HST1.out.call hb2
      have hlt1 : w.heap.size + 1 < w2.heap.size := hST2.lt 1 rfl
      have hlt2 : w.heap.size + 1 + 1 < w2.heap.size := hST2.lt 2 rfl
      have r10 := hST2.cell 1 0 rfl rfl
      have z10 := hST2.frozen 1 0 rfl
      have r11 := hST2.cell 1 1 rfl rfl
      have z11 := hST2.frozen 1 1 rfl
      have r20 := hST2.cell 2 0 rfl rfl
      have z20 := hST2.frozen 2 0 rfl
      have r21 := hST2.cell 2 1 rfl rfl
      have z21 := hST2.frozen 2 1 rfl
      have HFIN := Lib.hid ((((hST2.below.setCell (p := ⟨w.heap.size + 1, 0, none⟩) (by simp only; omega) (.string ⟨#[]⟩)).setCell (p := ⟨w.heap.size + 1, 1, none⟩) (by simp only; omega) (.string ⟨#[]⟩)).setCell (p := ⟨w.heap.size + 1 + 1, 0, none⟩) (by simp only; omega) (.string ⟨#[]⟩)).setCell (p := ⟨w.heap.size + 1 + 1, 1, none⟩) (by simp only; omega) (.string ⟨#[]⟩))
      clear hb2 hST2 k00 k01
      go_wp2
      refine bodyPost_ret (v := .tuple #[.agg #[.string ⟨#[]⟩, .string ⟨#[]⟩], .agg #[.string ⟨#[]⟩, .string ⟨#[]⟩], .int .i64 13]) ?_ rfl ⟨by first | rw [HV.out] | (unfold ratOf; rw [HV.out]), by first | exact HFIN.out | exact HFIN.out.drew⟩
      simp [results, Tryz.results43, go_sem, r10, r11, r20, r21, hlt1, hlt2]
    · have HV := Lib.hid (show (.tuple #[ratOf (meanL b cs), ratOf (meanH b cs), .int .i64 (meanC b cs)] : Value) = .tuple #[ratOf (ratS (sumN (loB b) cs) (tot cs).toNat), ratOf (ratS (sumN (hiB b) cs) (tot cs).toNat), .int .i64 0] by
        have e : meanC b cs = 0 := by unfold meanC; rw [if_neg (by omega), if_neg h0]
        unfold meanL meanH; rw [e]; rfl)
      have HG := Lib.hid hg
      have hb2 := hg.1
      have hb8 := hg.2.1
      have hlen := hg.2.2.1
      have HR := Lib.hid hr
      have HCS := Lib.hid (fun c hc => (hg.2.2.2.1 c hc).2)
      have hn1 := hg.2.2.2.2.2
      have HSN := Lib.hid (sumN_good hg)
      have HTT := Lib.hid (fun W (hb : Below w.heap.size w W) => (ht.on hb).mono hb.size)
      rw [hc] at HCK
      obtain ⟨n, hn⟩ : ∃ n : Nat, (n : Int) = tot cs := ⟨(tot cs).toNat, by omega⟩
      rw [← hn] at HTO HV hn1 hpos
      rw [Int.toNat_natCast] at HV
      have t1 : ((n : Int) == 0) = false := by rw [beq_eq_false_iff_ne]; omega
      have t2 : (n == 0) = false := by rw [beq_eq_false_iff_ne]; omega
      have hn2 : 1 ≤ n := by omega
      clear hc hr ht h0 hg hn hx
      go_enter Tryz.func43, Tryz.ntmps43
      go_wp2_with fail
      rw [← hW0]
      clear hW0
      (with_reducible refine (HCK.out W0 HST0.out.below).mono ?_)
      rintro e w1 ⟨rfl, hb1⟩
      have hST1 := HST0.out.call hb1
      have HST1 := Lib.hid hST1
      have k00 := hST1.cell 0 0 rfl rfl
      have k01 := hST1.cell 0 1 rfl rfl
      clear hb1 hST1
      go_wp2_with fail
      (with_reducible refine (HTO.out w1 HST1.out.below).mono ?_)
      rintro e w2 ⟨rfl, hb2'⟩
      have HST2 := Lib.hid (HST1.out.call hb2')
      clear hb2' k00 k01
      go_wp2_with fail
      go_loopw [7, 8, 9] (fun av bv iv wr => ∃ k : Nat, k ≤ cs.length ∧ iv = .int .i64 k ∧ ∃ Aa ca la Ab cb lb, av = .slice Aa la.length ca ∧ bv = .slice Ab lb.length cb ∧ RNatR wr Aa ca la (sumN (loB b) (cs.take k)) ∧ RNatR wr Ab cb lb (sumN (hiB b) (cs.take k)) ∧ St w wr [(w.heap.size, .cells #[.int .i64 b, .slice A cs.length c] 53 (0, 0)), (w.heap.size + 1, .cells #[.string ⟨#[]⟩, .string ⟨#[]⟩] 31 (0, 0)), (w.heap.size + 1 + 1, .cells #[.string ⟨#[]⟩, .string ⟨#[]⟩] 31 (0, 0))]) (fun _ _ iv _ => cs.length - (intOf iv).toNat)
      case atStart => exact ⟨0, Nat.zero_le _, rfl, none, 0, [], none, 0, [], rfl, rfl, rnatr_nil _, rnatr_nil _, HST2.out⟩
      case round =>
        obtain ⟨k, hk, rfl, Aa, ca, la, Ab, cb, lb, rfl, rfl, hna, hnb, hst⟩ := hrel
        have HNA := Lib.hid hna
        have HNB := Lib.hid hnb
        have hbw := hst.below
        have hsk := HSN.out k
        by_cases hlt : k < cs.length
        · obtain ⟨bk, o, x, m, rfl, _, hbk, hx, c0, c1⟩ := (HR.out.below hbw (Nat.le_refl _)).at2 hlt
          have HST := Lib.hid hst
          have hX := (HG.out.2.2.2.1 (x, m) (List.mem_of_getElem? hx)).1
          have hm := HCS.out (x, m) (List.mem_of_getElem? hx)
          simp only at hX hm
          have hlm := lim_bd b x hb2 hb8 hX.1 hX.2
          have hmx := maxB_bd b hb2 hb8
          have HE := Lib.hid (And.intro (sumN_take (f := loB b) hx) (sumN_take (f := hiB b) hx))
          have HHI := Lib.hid (fun W => high_any b x W hb2 hb8 hX.1 hX.2)
          have HLO := Lib.hid (fun W => low_any b x W hb2 hb8 (by omega))
          rw [(lowR_pos b x hb2 hb8 hX.1 hX.2).1] at HLO
          obtain ⟨hi, hhi⟩ : ∃ z, z = hiB b x := ⟨_, rfl⟩
          obtain ⟨lo, hlo⟩ : ∃ z, z = loB b x := ⟨_, rfl⟩
          rw [← hhi] at HHI
          rw [← hlo] at HLO
          rw [← hhi, ← hlo] at HE
          rw [← hhi, ← hlo] at hlm
          have hki : (k : Int) < (cs.length : Int) := by omega
          have hbk2 : bk < wr.heap.size := by have := hbw.size; omega
          have HC0 := Lib.hid c0
          have HC1 := Lib.hid c1
          have k00 := hst.cell 0 0 rfl rfl
          have k01 := hst.cell 0 1 rfl rfl
          have hsa : sumN (loB b) (cs.take k) ≤ 1125899906842624 * 1125899906842624 := by omega
          have hsb : sumN (hiB b) (cs.take k) ≤ 1125899906842624 * 1125899906842624 := by omega
          obtain ⟨sa, hsae⟩ : ∃ z, z = sumN (loB b) (cs.take k) := ⟨_, rfl⟩
          obtain ⟨sb, hsbe⟩ : ∃ z, z = sumN (hiB b) (cs.take k) := ⟨_, rfl⟩
          rw [← hsae] at HNA HE hsa
          rw [← hsbe] at HNB HE hsb
          have HB0 := Lib.hid (Below.refl wr.heap.size wr)
          clear hx hst hna hnb hbw hhi hlo hsk hsae hsbe c0 c1
          have HKS6 := Lib.hid (show ∀ X, Below wr.heap.size wr X → (fun X => Below wr.heap.size wr X ∧ X.cell? ⟨w.heap.size, 0, none⟩ = some (.int .i64 b) ∧ X.cell? ⟨w.heap.size, 1, none⟩ = some (.slice (some ⟨bk, o, none⟩) cs.length c) ∧ X.cell? ⟨bk, o + k * 2, none⟩ = some (.int .i64 x) ∧ X.cell? ⟨bk, o + k * 2 + 1, none⟩ = some (.int .i64 m)) X from fun X h => ⟨h, (HST.out.call (below_next HB0.out h)).cell 0 0 rfl rfl, (HST.out.call (below_next HB0.out h)).cell 0 1 rfl rfl, ((below_next HB0.out h).cell (p := ⟨bk, o + k * 2, none⟩) hbk2).trans HC0.out, ((below_next HB0.out h).cell (p := ⟨bk, o + k * 2 + 1, none⟩) hbk2).trans HC1.out⟩)
          have HO16 := Lib.hid (fun W => rnatOf_any lo W (by omega))
          have HO26 := Lib.hid (fun W => rnatOf_any m W (by omega))
          have HMU6 := Lib.hid (fun W A1 c1 l1 A2 c2 l2 (h1 : RNatR W A1 c1 l1 lo.toNat) (h2 : RNatR W A2 c2 l2 m.toNat) => rnatMul_any A1 A2 c1 c2 l1 l2 _ _ W h1 h2 (by have := rnLen h1 (by omega); omega) (by have := rnLen h2 (by omega); omega))
          have HPB6 : lo.toNat * m.toNat ≤ 1125899906842624 * 1125899906842624 := Nat.mul_le_mul (by omega) (by omega)
          have HAD6 := Lib.hid (fun W A1 c1 l1 A2 c2 l2 (h1 : RNatR W A1 c1 l1 sa) (h2 : RNatR W A2 c2 l2 (lo.toNat * m.toNat)) => rnatAdd_any A1 A2 c1 c2 l1 l2 _ _ W h1 h2 (by have := rnLen h1 (by omega); omega) (by have := rnLen h2 HPB6; omega))
          clear HPB6
          go_upto_region 11 with fail
          clear k00 k01
          obtain ⟨-, f0, f1, f2, f3⟩ := HKS6.out wr (Below.refl _ _)
          go_region_held3 (fun X => Below wr.heap.size wr X ∧ X.cell? ⟨w.heap.size, 0, none⟩ = some (.int .i64 b) ∧ X.cell? ⟨w.heap.size, 1, none⟩ = some (.slice (some ⟨bk, o, none⟩) cs.length c) ∧ X.cell? ⟨bk, o + k * 2, none⟩ = some (.int .i64 x) ∧ X.cell? ⟨bk, o + k * 2 + 1, none⟩ = some (.int .i64 m))
            (first
              | exact HKS6.out _ (Below.refl _ wr).drew
              | (go_split_ands; refine HKS6.out _ (below_next ?_ hb61); assumption)
              | (go_split_ands; refine HKS6.out _ (below_next ?_ hb62); assumption)
              | (go_split_ands; refine HKS6.out _ (below_next ?_ hb63); assumption)
              | (go_split_ands; refine HKS6.out _ (below_next ?_ hb64); assumption))
            (first
              | (go_at_call 96; (with_reducible refine (HLO.out _).mono ?_); rintro e v60 ⟨rfl, rfl⟩)
              | (go_at_call 97; (with_reducible refine (HO16.out _).mono ?_); rintro e v61 ⟨A61, c61, l61, rfl, h61, hb61⟩)
              | (go_at_call 97; (with_reducible refine (HO26.out _).mono ?_); rintro e v62 ⟨A62, c62, l62, rfl, h62, hb62⟩)
              | (go_at_call 75; (with_reducible refine (HMU6.out _ A61 c61 l61 A62 c62 l62 (h61.on hb62) h62).mono ?_); rintro e v63 ⟨A63, c63, l63, rfl, h63, hb63⟩)
              | (go_at_call 77; (with_reducible refine (HAD6.out _ Aa ca la A63 c63 l63 ?_ h63).mono ?_); (exact HNA.out.on (by first | (refine below_next HB0.out ?_; go_split_ands; assumption) | (go_split_ands; assumption))); rintro e v64 ⟨A64, c64, l64, rfl, h64, hb64⟩))
          have HB6 := Lib.hid (show Below wr.heap.size wr v64 by go_split_ands; assumption)
          have HN6 := Lib.hid h64
          clear hb61 hb62 hb63 hb64 h61 h62 h63 h64 f0 f1 f2 f3
          have HKS7 := Lib.hid (show ∀ X, Below v64.heap.size v64 X → (fun X => Below v64.heap.size v64 X ∧ X.cell? ⟨w.heap.size, 0, none⟩ = some (.int .i64 b) ∧ X.cell? ⟨w.heap.size, 1, none⟩ = some (.slice (some ⟨bk, o, none⟩) cs.length c) ∧ X.cell? ⟨bk, o + k * 2, none⟩ = some (.int .i64 x) ∧ X.cell? ⟨bk, o + k * 2 + 1, none⟩ = some (.int .i64 m)) X from fun X h => ⟨h, (HST.out.call (below_next HB6.out h)).cell 0 0 rfl rfl, (HST.out.call (below_next HB6.out h)).cell 0 1 rfl rfl, ((below_next HB6.out h).cell (p := ⟨bk, o + k * 2, none⟩) hbk2).trans HC0.out, ((below_next HB6.out h).cell (p := ⟨bk, o + k * 2 + 1, none⟩) hbk2).trans HC1.out⟩)
          have HO17 := Lib.hid (fun W => rnatOf_any hi W (by omega))
          have HO27 := Lib.hid (fun W => rnatOf_any m W (by omega))
          have HMU7 := Lib.hid (fun W A1 c1 l1 A2 c2 l2 (h1 : RNatR W A1 c1 l1 hi.toNat) (h2 : RNatR W A2 c2 l2 m.toNat) => rnatMul_any A1 A2 c1 c2 l1 l2 _ _ W h1 h2 (by have := rnLen h1 (by omega); omega) (by have := rnLen h2 (by omega); omega))
          have HPB7 : hi.toNat * m.toNat ≤ 1125899906842624 * 1125899906842624 := Nat.mul_le_mul (by omega) (by omega)
          have HAD7 := Lib.hid (fun W A1 c1 l1 A2 c2 l2 (h1 : RNatR W A1 c1 l1 sb) (h2 : RNatR W A2 c2 l2 (hi.toNat * m.toNat)) => rnatAdd_any A1 A2 c1 c2 l1 l2 _ _ W h1 h2 (by have := rnLen h1 (by omega); omega) (by have := rnLen h2 HPB7; omega))
          clear HPB7
          go_upto_region 12 with fail
          obtain ⟨-, f0, f1, f2, f3⟩ := HKS7.out v64 (Below.refl _ _)
          go_region_held3 (fun X => Below v64.heap.size v64 X ∧ X.cell? ⟨w.heap.size, 0, none⟩ = some (.int .i64 b) ∧ X.cell? ⟨w.heap.size, 1, none⟩ = some (.slice (some ⟨bk, o, none⟩) cs.length c) ∧ X.cell? ⟨bk, o + k * 2, none⟩ = some (.int .i64 x) ∧ X.cell? ⟨bk, o + k * 2 + 1, none⟩ = some (.int .i64 m))
            (first
              | exact HKS7.out _ (Below.refl _ v64).drew
              | (go_split_ands; refine HKS7.out _ (below_next ?_ hb71); assumption)
              | (go_split_ands; refine HKS7.out _ (below_next ?_ hb72); assumption)
              | (go_split_ands; refine HKS7.out _ (below_next ?_ hb73); assumption)
              | (go_split_ands; refine HKS7.out _ (below_next ?_ hb74); assumption))
            (first
              | (go_at_call 106; (with_reducible refine (HHI.out _).mono ?_); rintro e v70 ⟨rfl, rfl⟩)
              | (go_at_call 97; (with_reducible refine (HO17.out _).mono ?_); rintro e v71 ⟨A71, c71, l71, rfl, h71, hb71⟩)
              | (go_at_call 97; (with_reducible refine (HO27.out _).mono ?_); rintro e v72 ⟨A72, c72, l72, rfl, h72, hb72⟩)
              | (go_at_call 75; (with_reducible refine (HMU7.out _ A71 c71 l71 A72 c72 l72 (h71.on hb72) h72).mono ?_); rintro e v73 ⟨A73, c73, l73, rfl, h73, hb73⟩)
              | (go_at_call 77; (with_reducible refine (HAD7.out _ Ab cb lb A73 c73 l73 ?_ h73).mono ?_); (exact HNB.out.on (by first | (refine below_next HB6.out ?_; go_split_ands; assumption) | (go_split_ands; assumption))); rintro e v74 ⟨A74, c74, l74, rfl, h74, hb74⟩))
          have HB7 := Lib.hid (show Below v64.heap.size v64 v74 by go_split_ands; assumption)
          have HN7 := Lib.hid h74
          clear hb71 hb72 hb73 hb74 h71 h72 h73 h74 f0 f1 f2 f3
          have HB7a := Lib.hid (below_next HB6.out HB7.out)
          go_wp2
          go_roundw
          case rel => exact ⟨k + 1, by omega, by go_num, A64, c64, l64, A74, c74, l74, rfl, rfl, by rw [HE.out.1]; exact HN6.out.on HB7.out, by rw [HE.out.2]; exact HN7.out, HST.out.call HB7a.out⟩
          case measure => simp [intOf]; omega
        · have HST := Lib.hid hst
          have hfin : cs.take k = cs := List.take_of_length_le (by omega)
          rw [hfin] at HNA HNB hsk
          have k00 := hst.cell 0 0 rfl rfl
          have k01 := hst.cell 0 1 rfl rfl
          have hsa : sumN (loB b) cs ≤ 1125899906842624 * 1125899906842624 := by omega
          have hsb : sumN (hiB b) cs ≤ 1125899906842624 * 1125899906842624 := by omega
          obtain ⟨sa, hsae⟩ : ∃ z, z = sumN (loB b) cs := ⟨_, rfl⟩
          obtain ⟨sb, hsbe⟩ : ∃ z, z = sumN (hiB b) cs := ⟨_, rfl⟩
          rw [← hsae] at HNA HV hsa
          rw [← hsbe] at HNB HV hsb
          clear hst hna hnb hsk hfin hsae hsbe hbw
          have HO := Lib.hid (fun W => rnatOf_any (n : Int) W (by omega))
          simp only [Int.toNat_natCast] at HO
          have HLW := Lib.hid (fun W A1 c1 l1 A2 c2 l2 (s : Nat) (hs : s ≤ 1125899906842624 * 1125899906842624) (h1 : RNatR W A1 c1 l1 s) (h2 : RNatR W A2 c2 l2 n) => rLowest_any false A1 A2 c1 c2 l1 l2 s n W h1 h2 (by have := rnLen h1 hs; omega) (by have := rnLen h2 (by omega); omega) (by omega))
          have HRA := Lib.hid (fun W u (s : Nat) (hs : s ≤ 1125899906842624 * 1125899906842624) (hb : Below w.heap.size w W) (hu : FracR W u (mkRat (sg false s) n)) => rRatio_any u (mkRat (s : Int) n) 1000 W hu (rat_mk s n (by omega)).1 (rat_sz (by omega) hs (by omega)) (HTT.out W hb))
          go_wp2_with fail
          (with_reducible refine (HO.out _).mono ?_)
          rintro e w20 ⟨A20, c20, l20, rfl, h20, hb20⟩
          have HB20 := Lib.hid (id hb20)
          have HL20 := Lib.hid (HLW.out w20 Aa ca la A20 c20 l20 sa hsa (HNA.out.on HB20.out) h20)
          clear h20 hb20
          go_wp2_with fail
          (with_reducible refine HL20.out.mono ?_)
          rintro e w21 ⟨u20x, rfl, hu20, hb21⟩
          have HB21 := Lib.hid (below_next HB20.out hb21)
          have HR20 := Lib.hid (HRA.out w21 u20x sa hsa (HST.out.call HB21.out).below hu20)
          rw [(rat_mk sa n (by omega)).2] at HR20
          clear hu20 hb21
          obtain ⟨p1, hp1⟩ : ∃ s : ByteArray, s = ⟨(ratS sa n).1.toArray⟩ := ⟨_, rfl⟩
          obtain ⟨p2, hp2⟩ : ∃ s : ByteArray, s = ⟨(ratS sa n).2.toArray⟩ := ⟨_, rfl⟩
          unfold ratOf at HR20
          rw [← hp1, ← hp2] at HR20
          have HPp := Lib.hid (And.intro hp1 hp2)
          clear hp1 hp2
          go_wp2_with fail
          (with_reducible refine HR20.out.mono ?_)
          rintro e w22 ⟨⟨bo20, rfl⟩, hb22⟩
          have HB22 := Lib.hid (below_next HB21.out hb22)
          clear hb22
          obtain ⟨X1, hX1⟩ : ∃ X, X = w22.alloc (.cells #[.string p1, .string p2] 31) := ⟨_, rfl⟩
          have HS1 := Lib.hid (show St w22 X1 [(w22.heap.size, .cells #[.string p1, .string p2] 31 (0, 0))] by rw [hX1]; exact (St.start w22).alloc _ _ rfl)
          have HBX1 := Lib.hid (below_next HB22.out HS1.out.below)
          go_wp2_with fail
          rw [← hX1]
          clear hX1
          (with_reducible refine (HO.out _).mono ?_)
          rintro e w30 ⟨A30, c30, l30, rfl, h30, hb30⟩
          have HB30 := Lib.hid (below_next HBX1.out hb30)
          have HX30 := Lib.hid hb30
          have HL30 := Lib.hid (HLW.out w30 Ab cb lb A30 c30 l30 sb hsb (HNB.out.on HB30.out) h30)
          clear h30 hb30
          go_wp2_with fail
          (with_reducible refine HL30.out.mono ?_)
          rintro e w31 ⟨u30x, rfl, hu30, hb31⟩
          have HB31 := Lib.hid (below_next HB30.out hb31)
          have HX31 := Lib.hid hb31
          have HR30 := Lib.hid (HRA.out w31 u30x sb hsb (HST.out.call HB31.out).below hu30)
          rw [(rat_mk sb n (by omega)).2] at HR30
          clear hu30 hb31
          obtain ⟨q1, hq1⟩ : ∃ s : ByteArray, s = ⟨(ratS sb n).1.toArray⟩ := ⟨_, rfl⟩
          obtain ⟨q2, hq2⟩ : ∃ s : ByteArray, s = ⟨(ratS sb n).2.toArray⟩ := ⟨_, rfl⟩
          unfold ratOf at HR30
          rw [← hq1, ← hq2] at HR30
          have HPq := Lib.hid (And.intro hq1 hq2)
          clear hq1 hq2
          go_wp2_with fail
          (with_reducible refine HR30.out.mono ?_)
          rintro e w32 ⟨⟨bo30, rfl⟩, hb32⟩
          have HB32 := Lib.hid (below_next HB31.out hb32)
          have HS2 := Lib.hid (HS1.out.call (show Below X1.heap.size X1 w32 from below_next (below_next (below_next (Below.refl _ _) HX30.out) HX31.out) hb32))
          have hlt3 := HS2.out.lt 0 rfl
          clear hb32
          obtain ⟨X2, hX2⟩ : ∃ X, X = w32.alloc (.cells #[.string q1, .string q2] 31) := ⟨_, rfl⟩
          have hS3 : St w22 X2 [(w22.heap.size, .cells #[.string p1, .string p2] 31 (0, 0)), (w32.heap.size, .cells #[.string q1, .string q2] 31 (0, 0))] := by rw [hX2]; exact HS2.out.alloc _ _ rfl
          have hbX : Below w32.heap.size w32 X2 := by rw [hX2]; exact (Below.refl _ _).alloc (Nat.le_refl _) _
          have hSTX := HST.out.call (below_next HB32.out hbX)
          have y0 := hS3.cell 0 0 rfl rfl
          have y1 := hS3.cell 0 1 rfl rfl
          have y2 := hS3.cell 1 0 rfl rfl
          have y3 := hS3.cell 1 1 rfl rfl
          have hlt1 : w.heap.size + 1 < X2.heap.size := hSTX.lt 1 rfl
          have hlt2 : w.heap.size + 1 + 1 < X2.heap.size := hSTX.lt 2 rfl
          have hlt4 : w.heap.size + 1 + 1 < w22.heap.size := (HST.out.call HB22.out).lt 2 rfl
          have r10 := hSTX.cell 1 0 rfl rfl
          have z10 := hSTX.frozen 1 0 rfl
          have r11 := hSTX.cell 1 1 rfl rfl
          have z11 := hSTX.frozen 1 1 rfl
          have r20 := hSTX.cell 2 0 rfl rfl
          have z20 := hSTX.frozen 2 0 rfl
          have r21 := hSTX.cell 2 1 rfl rfl
          have z21 := hSTX.frozen 2 1 rfl
          have HFIN := Lib.hid ((((hSTX.below.setCell (p := ⟨w.heap.size + 1, 0, none⟩) (by simp only; omega) (.string p1)).setCell (p := ⟨w.heap.size + 1, 1, none⟩) (by simp only; omega) (.string p2)).setCell (p := ⟨w.heap.size + 1 + 1, 0, none⟩) (by simp only; omega) (.string q1)).setCell (p := ⟨w.heap.size + 1 + 1, 1, none⟩) (by simp only; omega) (.string q2))
          unfold ratOf at HV
          rw [← HPp.out.1, ← HPp.out.2, ← HPq.out.1, ← HPq.out.2] at HV
          clear hS3 hSTX hbX
          go_upto_region 15 with fail
          rw [← hX2]
          clear hX2
          go_region
          go_wp2
          refine bodyPost_ret (v := .tuple #[.agg #[.string p1, .string p2], .agg #[.string q1, .string q2], .int .i64 0]) ?_ rfl ⟨by first | rw [HV.out] | (unfold ratOf; rw [HV.out]), by first | exact HFIN.out | exact HFIN.out.drew⟩
          simp [results, Tryz.results43, go_sem, r10, r11, r20, r21, hlt1, hlt2]
  · have HV := Lib.hid (show (.tuple #[ratOf (meanL b cs), ratOf (meanH b cs), .int .i64 (meanC b cs)] : Value) = .tuple #[.agg #[.string ⟨#[]⟩, .string ⟨#[]⟩], .agg #[.string ⟨#[]⟩, .string ⟨#[]⟩], .int .i64 (codeH b cs)] by
      have e : meanC b cs = codeH b cs := by unfold meanC; rw [if_pos hc]
      unfold meanL meanH ratOf; rw [e, if_neg hc, if_neg hc])
    obtain ⟨cc, hcc⟩ : ∃ cc, cc = codeH b cs := ⟨_, rfl⟩
    rw [← hcc] at HCK hc HV
    have t1 : (cc != 0) = true := by simpa using hc
    clear hcc hr ht hx
    go_enter Tryz.func43, Tryz.ntmps43
    go_wp2_with fail
    rw [← hW0]
    clear hW0
    (with_reducible refine (HCK.out W0 HST0.out.below).mono ?_)
    rintro e w1 ⟨rfl, hb1⟩
    have hST1 := HST0.out.call hb1
    have HST1 := Lib.hid hST1
    have k00 := hST1.cell 0 0 rfl rfl
    have k01 := hST1.cell 0 1 rfl rfl
    have hlt1 : w.heap.size + 1 < w1.heap.size := hST1.lt 1 rfl
    have hlt2 : w.heap.size + 1 + 1 < w1.heap.size := hST1.lt 2 rfl
    have r10 := hST1.cell 1 0 rfl rfl
    have z10 := hST1.frozen 1 0 rfl
    have r11 := hST1.cell 1 1 rfl rfl
    have z11 := hST1.frozen 1 1 rfl
    have r20 := hST1.cell 2 0 rfl rfl
    have z20 := hST1.frozen 2 0 rfl
    have r21 := hST1.cell 2 1 rfl rfl
    have z21 := hST1.frozen 2 1 rfl
    have HFIN := Lib.hid ((((hST1.below.setCell (p := ⟨w.heap.size + 1, 0, none⟩) (by simp only; omega) (.string ⟨#[]⟩)).setCell (p := ⟨w.heap.size + 1, 1, none⟩) (by simp only; omega) (.string ⟨#[]⟩)).setCell (p := ⟨w.heap.size + 1 + 1, 0, none⟩) (by simp only; omega) (.string ⟨#[]⟩)).setCell (p := ⟨w.heap.size + 1 + 1, 1, none⟩) (by simp only; omega) (.string ⟨#[]⟩))
    clear hb1 hST1
    go_wp2
    refine bodyPost_ret (v := .tuple #[.agg #[.string ⟨#[]⟩, .string ⟨#[]⟩], .agg #[.string ⟨#[]⟩, .string ⟨#[]⟩], .int .i64 cc]) ?_ rfl ⟨by first | rw [HV.out] | (unfold ratOf; rw [HV.out]), by first | exact HFIN.out | exact HFIN.out.drew⟩
    simp [results, Tryz.results43, go_sem, r10, r11, r20, r21, hlt1, hlt2]
end Go.Proofs.YtepfmoaihhonlaaGreatDoor
