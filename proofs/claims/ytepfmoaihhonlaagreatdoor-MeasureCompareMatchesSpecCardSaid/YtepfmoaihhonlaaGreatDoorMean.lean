/- Package measure: Mean. Printed by gen_mean.py. -/
import Derived.Test.YtepfmoaihhonlaaGreatDoorG31
import Derived.Test.YtepfmoaihhonlaaGreatDoorG21
import Derived.Test.YtepfmoaihhonlaaGreatDoorNatAdd
import Derived.Test.YtepfmoaihhonlaaGreatDoorG14
import Derived.Deep.RegionHeld3
namespace Go.Proofs.YtepfmoaihhonlaaGreatDoor
open Go Go.RowKit Go.Proofs

theorem natLen {w : World} {A : Option Addr} {c : Nat} {ll : List Nat} {x : Nat} (h : NatR w A c ll x) (hx : x ≤ 1125899906842624 * 1125899906842624) : ll.length ≤ 9 := len_of_lt h.norm h.val (Nat.lt_of_le_of_lt hx (by unfold W64; decide))
set_option maxHeartbeats 8000000 in
set_option maxRecDepth 100000 in
theorem mMean_any (b : Int) (A : Option Addr) (c : Nat) (cs : List (Int × Int)) (w : World) (hr : Rd w 0 w.heap.size 2 A cs.length (cells2 cs)) (hl : cs.length < 9223372036854775807) (ht : Tab w.heap.size w) :
    Calls Tryz.prog 42 #[.agg #[.int .i64 b, .slice A cs.length c]] w fun e w' => e = .returned (.tuple #[ratOf (meanL b cs), ratOf (meanH b cs), .int .i64 (meanC b cs)]) ∧ Below w.heap.size w w' := by
  have HCK := Lib.hid (fun (W : World) (hb : Below w.heap.size w W) => check_any b A cs.length c cs W (hr.old hb) (by omega))
  obtain ⟨W0, hW0⟩ : ∃ W0, W0 = ((w.alloc (.cells #[.int .i64 b, .slice A cs.length c] 53)).alloc (.cells #[.string ⟨#[]⟩, .string ⟨#[]⟩] 31)).alloc (.cells #[.string ⟨#[]⟩, .string ⟨#[]⟩] 31) := ⟨_, rfl⟩
  have HST0 := Lib.hid (show St w W0 [(w.heap.size, .cells #[.int .i64 b, .slice A cs.length c] 53 (0, 0)), (w.heap.size + 1, .cells #[.string ⟨#[]⟩, .string ⟨#[]⟩] 31 (0, 0)), (w.heap.size + 1 + 1, .cells #[.string ⟨#[]⟩, .string ⟨#[]⟩] 31 (0, 0))] by rw [hW0]; exact (((St.start w).alloc _ _ rfl).alloc _ _ (by simp)).alloc _ _ (by simp))
  by_cases hc : codeH b cs = 0
  · by_cases h0 : cs.length = 0
    · have HV := Lib.hid (show (.tuple #[ratOf (meanL b cs), ratOf (meanH b cs), .int .i64 (meanC b cs)] : Value) = .tuple #[.agg #[.string ⟨#[]⟩, .string ⟨#[]⟩], .agg #[.string ⟨#[]⟩, .string ⟨#[]⟩], .int .i64 13] by
        have e : meanC b cs = 13 := by unfold meanC; rw [if_neg (by omega), if_pos h0]
        unfold meanL meanH ratOf; rw [e]; rfl)
      have t1 : ((cs.length : Int) == 0) = true := by rw [beq_iff_eq]; omega
      have t2 : (cs.length == 0) = true := by rw [beq_iff_eq]; omega
      rw [hc] at HCK
      clear hc hr ht h0
      go_enter Tryz.func42, Tryz.ntmps42
      go_wp2_with fail
      rw [← hW0]
      clear hW0
      (with_reducible refine (HCK.out W0 HST0.out.below).mono ?_)
      rintro e w1 ⟨rfl, hb1⟩
      have hST1 := HST0.out.call hb1
      have HST1 := Lib.hid hST1
      have k00 := hST1.cell 0 0 rfl rfl
      have k01 := hST1.cell 0 1 rfl rfl
      have hlt1 : w.heap.size + 1 < w1.heap.size := hST1.lt 1 rfl
      have hlt2 : w.heap.size + 1 + 1 < w1.heap.size := hST1.lt 2 rfl
      have r10 := hST1.cell 1 0 rfl rfl
      have z10 := hST1.frozen 1 0 rfl
      have r11 := hST1.cell 1 1 rfl rfl
      have z11 := hST1.frozen 1 1 rfl
      have r20 := hST1.cell 2 0 rfl rfl
      have z20 := hST1.frozen 2 0 rfl
      have r21 := hST1.cell 2 1 rfl rfl
      have z21 := hST1.frozen 2 1 rfl
      have HFIN := Lib.hid ((((hST1.below.setCell (p := ⟨w.heap.size + 1, 0, none⟩) (by simp only; omega) (.string ⟨#[]⟩)).setCell (p := ⟨w.heap.size + 1, 1, none⟩) (by simp only; omega) (.string ⟨#[]⟩)).setCell (p := ⟨w.heap.size + 1 + 1, 0, none⟩) (by simp only; omega) (.string ⟨#[]⟩)).setCell (p := ⟨w.heap.size + 1 + 1, 1, none⟩) (by simp only; omega) (.string ⟨#[]⟩))
      clear hb1 hST1
      go_wp2
      refine bodyPost_ret (v := .tuple #[.agg #[.string ⟨#[]⟩, .string ⟨#[]⟩], .agg #[.string ⟨#[]⟩, .string ⟨#[]⟩], .int .i64 13]) ?_ rfl ⟨by first | rw [HV.out] | (unfold ratOf; rw [HV.out]), HFIN.out⟩
      simp [results, Tryz.results42, go_sem, r10, r11, r20, r21, hlt1, hlt2]
    · have hg := codeH_zero hc
      have HV := Lib.hid (show (.tuple #[ratOf (meanL b cs), ratOf (meanH b cs), .int .i64 (meanC b cs)] : Value) = .tuple #[ratV (sumN (loB b) cs) (tot cs).toNat, ratV (sumN (hiB b) cs) (tot cs).toNat, .int .i64 0] by
        have e : meanC b cs = 0 := by unfold meanC; rw [if_neg (by omega), if_neg h0]
        unfold meanL meanH ratV; rw [e]; rfl)
      have t1 : ((cs.length : Int) == 0) = false := by rw [beq_eq_false_iff_ne]; omega
      have t2 : (cs.length == 0) = false := by rw [beq_eq_false_iff_ne]; omega
      have HG := Lib.hid hg
      have hb2 := hg.1
      have hb8 := hg.2.1
      have hlen := hg.2.2.1
      have HR := Lib.hid hr
      have HCS := Lib.hid (fun c hc => (hg.2.2.2.1 c hc).2)
      have HTO := Lib.hid (fun (W : World) (hb : Below w.heap.size w W) => total_any b A cs.length c cs W (hr.old hb) (by omega) (fun c hc => (hg.2.2.2.1 c hc).2) hg.2.2.1)
      have hn0 := tot_bd cs HCS.out
      have hn1 := hg.2.2.2.2.2
      have hn2 : 1 ≤ tot cs := by
        obtain ⟨x, r, e⟩ : ∃ x r, cs = x :: r := by cases cs with | nil => simp at h0 | cons x r => exact ⟨x, r, rfl⟩
        have h1 := HCS.out x (by rw [e]; simp)
        have h2 := tot_bd r (fun y hy => HCS.out y (by rw [e]; simp [hy]))
        rw [e]; unfold tot at *; simp only [List.map_cons, List.sum_cons]; omega
      have HSN := Lib.hid (sumN_good hg)
      have HTT := Lib.hid (fun W (hb : Below w.heap.size w W) => (ht.on hb).mono hb.size)
      rw [hc] at HCK
      obtain ⟨n, hn⟩ : ∃ n, n = tot cs := ⟨_, rfl⟩
      rw [← hn] at HTO HV hn1 hn2 hn0
      clear hc hr ht h0 hg hn
      go_enter Tryz.func42, Tryz.ntmps42
      go_wp2_with fail
      rw [← hW0]
      clear hW0
      (with_reducible refine (HCK.out W0 HST0.out.below).mono ?_)
      rintro e w1 ⟨rfl, hb1⟩
      have hST1 := HST0.out.call hb1
      have HST1 := Lib.hid hST1
      have k00 := hST1.cell 0 0 rfl rfl
      have k01 := hST1.cell 0 1 rfl rfl
      clear hb1 hST1
      go_wp2_with fail
      go_loopw [6, 7, 9, 10, 11, 29] (fun av bv _ _ _ iv wr => ∃ k : Nat, k ≤ cs.length ∧ iv = .int .i64 k ∧ ∃ Aa ca la Ab cb lb, av = .slice Aa la.length ca ∧ bv = .slice Ab lb.length cb ∧ NatR wr Aa ca la (sumN (loB b) (cs.take k)) ∧ NatR wr Ab cb lb (sumN (hiB b) (cs.take k)) ∧ St w wr [(w.heap.size, .cells #[.int .i64 b, .slice A cs.length c] 53 (0, 0)), (w.heap.size + 1, .cells #[.string ⟨#[]⟩, .string ⟨#[]⟩] 31 (0, 0)), (w.heap.size + 1 + 1, .cells #[.string ⟨#[]⟩, .string ⟨#[]⟩] 31 (0, 0))]) (fun _ _ _ _ _ iv _ => cs.length - (intOf iv).toNat)
      case atStart => exact ⟨0, Nat.zero_le _, rfl, none, 0, [], none, 0, [], rfl, rfl, natr_nil _, natr_nil _, HST1.out⟩
      case round =>
        obtain ⟨k, hk, rfl, Aa, ca, la, Ab, cb, lb, rfl, rfl, hna, hnb, hst⟩ := hrel
        have HST := Lib.hid hst
        have HNA := Lib.hid hna
        have HNB := Lib.hid hnb
        have hbw := hst.below
        have hsk := HSN.out k
        by_cases hlt : k < cs.length
        · obtain ⟨bk, o, x, m, rfl, _, hbk, hx, c0, c1⟩ := (HR.out.below hbw (Nat.le_refl _)).at2 hlt
          have hX := (HG.out.2.2.2.1 (x, m) (List.mem_of_getElem? hx)).1
          have hm := HCS.out (x, m) (List.mem_of_getElem? hx)
          simp only at hX hm
          have hlm := lim_bd b x hb2 hb8 hX.1 hX.2
          have HE := Lib.hid (And.intro (sumN_take (f := loB b) hx) (sumN_take (f := hiB b) hx))
          have HLI := Lib.hid (fun W => limits_any b x W hb2 hb8 hX.1 hX.2)
          obtain ⟨hi, hhi⟩ : ∃ z, z = hiB b x := ⟨_, rfl⟩
          obtain ⟨lo, hlo⟩ : ∃ z, z = loB b x := ⟨_, rfl⟩
          rw [← hhi, ← hlo] at HLI HE
          rw [← hhi, ← hlo] at hlm
          obtain ⟨Bc, hBc⟩ : ∃ B, B = wr.heap.size := ⟨_, rfl⟩
          obtain ⟨WC, hWC⟩ : ∃ W, W = wr.alloc (.cells #[.int .i64 x, .int .i64 m] 121) := ⟨_, rfl⟩
          have hSTC : St w WC [(w.heap.size, .cells #[.int .i64 b, .slice (some ⟨bk, o, none⟩) cs.length c] 53 (0, 0)), (w.heap.size + 1, .cells #[.string ⟨#[]⟩, .string ⟨#[]⟩] 31 (0, 0)), (w.heap.size + 1 + 1, .cells #[.string ⟨#[]⟩, .string ⟨#[]⟩] 31 (0, 0)), (Bc, .cells #[.int .i64 x, .int .i64 m] 121 (0, 0))] := by rw [hWC, hBc]; exact hst.alloc _ _ rfl
          have HSTC := Lib.hid hSTC
          have hbC : Below wr.heap.size wr WC := by rw [hWC]; exact (Below.refl _ _).alloc (Nat.le_refl _) _
          have HBC := Lib.hid hbC
          have k00 := hSTC.cell 0 0 rfl rfl
          have x0 := hSTC.cell 3 0 rfl rfl
          have hsa : sumN (loB b) (cs.take k) ≤ 1125899906842624 * 1125899906842624 := by omega
          have hsb : sumN (hiB b) (cs.take k) ≤ 1125899906842624 * 1125899906842624 := by omega
          obtain ⟨sa, hsae⟩ : ∃ z, z = sumN (loB b) (cs.take k) := ⟨_, rfl⟩
          obtain ⟨sb, hsbe⟩ : ∃ z, z = sumN (hiB b) (cs.take k) := ⟨_, rfl⟩
          rw [← hsae] at HNA HE hsa
          rw [← hsbe] at HNB HE hsb
          clear hx hst hna hnb hbw hhi hlo hSTC hbC hsk hsae hsbe
          have HGO := Lib.hid hBc
          go_upto_region 10 with fail
          rw [← hWC]
          try rw [← HGO.out]
          clear hWC hBc c0 c1
          go_wp2_with fail
          (with_reducible refine (HLI.out _).mono ?_)
          rintro e w5 ⟨rfl, d5, hw5⟩
          have HB5 := Lib.hid (show Below WC.heap.size WC w5 by rw [hw5]; exact below_drewN (Below.refl _ _) d5)
          clear hw5 k00 x0
          have HKS6 := Lib.hid (show ∀ X, Below w5.heap.size w5 X → Below w5.heap.size w5 X ∧ X.cell? ⟨Bc, 1, none⟩ = some (.int .i64 m) from fun X h => ⟨h, (HSTC.out.call (below_next HB5.out h)).cell 3 1 rfl rfl⟩)
          have HO16 := Lib.hid (fun W => natOf_any lo W (by omega))
          have HO26 := Lib.hid (fun W => natOf_any m W (by omega))
          have HMU6 := Lib.hid (fun W A1 c1 l1 A2 c2 l2 (h1 : NatR W A1 c1 l1 lo.toNat) (h2 : NatR W A2 c2 l2 m.toNat) => natMul_any A1 A2 c1 c2 l1 l2 _ _ W h1 h2 (by have := natLen h1 (by omega); omega) (by have := natLen h2 (by omega); omega))
          have HPB6 : lo.toNat * m.toNat ≤ 1125899906842624 * 1125899906842624 := Nat.mul_le_mul (by omega) (by omega)
          have HAD6 := Lib.hid (fun W A1 c1 l1 A2 c2 l2 (h1 : NatR W A1 c1 l1 sa) (h2 : NatR W A2 c2 l2 (lo.toNat * m.toNat)) => natAdd_any A1 A2 c1 c2 l1 l2 _ _ W h1 h2 (by have := natLen h1 (by omega); omega) (by have := natLen h2 HPB6; omega))
          clear HPB6
          go_upto_region 11 with fail
          obtain ⟨-, f1⟩ := HKS6.out w5 (Below.refl _ _)
          go_region_held3 (fun X => Below w5.heap.size w5 X ∧ X.cell? ⟨Bc, 1, none⟩ = some (.int .i64 m))
            (first
              | exact HKS6.out _ (Below.refl _ w5).drew
              | (go_split_ands; refine HKS6.out _ (below_next ?_ hb61); assumption)
              | (go_split_ands; refine HKS6.out _ (below_next ?_ hb62); assumption)
              | (go_split_ands; refine HKS6.out _ (below_next ?_ hb63); assumption)
              | (go_split_ands; refine HKS6.out _ (below_next ?_ hb64); assumption))
            (first
              | (go_at_call 63; (with_reducible refine (HO16.out _).mono ?_); rintro e v61 ⟨A61, c61, l61, rfl, h61, hb61⟩)
              | (go_at_call 63; (with_reducible refine (HO26.out _).mono ?_); rintro e v62 ⟨A62, c62, l62, rfl, h62, hb62⟩)
              | (go_at_call 90; (with_reducible refine (HMU6.out _ A61 c61 l61 A62 c62 l62 (h61.on hb62) h62).mono ?_); rintro e v63 ⟨A63, c63, l63, rfl, h63, hb63⟩)
              | (go_at_call 61; (with_reducible refine (HAD6.out _ Aa ca la A63 c63 l63 ?_ h63).mono ?_); (exact HNA.out.on (by first | (refine below_next (below_next HBC.out HB5.out) ?_; go_split_ands; assumption) | (go_split_ands; assumption))); rintro e v64 ⟨A64, c64, l64, rfl, h64, hb64⟩))
          have HB6 := Lib.hid (show Below w5.heap.size w5 v64 by go_split_ands; assumption)
          have HN6 := Lib.hid h64
          clear hb61 hb62 hb63 hb64 h61 h62 h63 h64 f1
          have HB6a := Lib.hid (below_next HB5.out HB6.out)
          have HKS7 := Lib.hid (show ∀ X, Below v64.heap.size v64 X → Below v64.heap.size v64 X ∧ X.cell? ⟨Bc, 1, none⟩ = some (.int .i64 m) from fun X h => ⟨h, (HSTC.out.call (below_next HB6a.out h)).cell 3 1 rfl rfl⟩)
          have HO17 := Lib.hid (fun W => natOf_any hi W (by omega))
          have HO27 := Lib.hid (fun W => natOf_any m W (by omega))
          have HMU7 := Lib.hid (fun W A1 c1 l1 A2 c2 l2 (h1 : NatR W A1 c1 l1 hi.toNat) (h2 : NatR W A2 c2 l2 m.toNat) => natMul_any A1 A2 c1 c2 l1 l2 _ _ W h1 h2 (by have := natLen h1 (by omega); omega) (by have := natLen h2 (by omega); omega))
          have HPB7 : hi.toNat * m.toNat ≤ 1125899906842624 * 1125899906842624 := Nat.mul_le_mul (by omega) (by omega)
          have HAD7 := Lib.hid (fun W A1 c1 l1 A2 c2 l2 (h1 : NatR W A1 c1 l1 sb) (h2 : NatR W A2 c2 l2 (hi.toNat * m.toNat)) => natAdd_any A1 A2 c1 c2 l1 l2 _ _ W h1 h2 (by have := natLen h1 (by omega); omega) (by have := natLen h2 HPB7; omega))
          clear HPB7
          go_upto_region 12 with fail
          obtain ⟨-, f1⟩ := HKS7.out v64 (Below.refl _ _)
          go_region_held3 (fun X => Below v64.heap.size v64 X ∧ X.cell? ⟨Bc, 1, none⟩ = some (.int .i64 m))
            (first
              | exact HKS7.out _ (Below.refl _ v64).drew
              | (go_split_ands; refine HKS7.out _ (below_next ?_ hb71); assumption)
              | (go_split_ands; refine HKS7.out _ (below_next ?_ hb72); assumption)
              | (go_split_ands; refine HKS7.out _ (below_next ?_ hb73); assumption)
              | (go_split_ands; refine HKS7.out _ (below_next ?_ hb74); assumption))
            (first
              | (go_at_call 63; (with_reducible refine (HO17.out _).mono ?_); rintro e v71 ⟨A71, c71, l71, rfl, h71, hb71⟩)
              | (go_at_call 63; (with_reducible refine (HO27.out _).mono ?_); rintro e v72 ⟨A72, c72, l72, rfl, h72, hb72⟩)
              | (go_at_call 90; (with_reducible refine (HMU7.out _ A71 c71 l71 A72 c72 l72 (h71.on hb72) h72).mono ?_); rintro e v73 ⟨A73, c73, l73, rfl, h73, hb73⟩)
              | (go_at_call 61; (with_reducible refine (HAD7.out _ Ab cb lb A73 c73 l73 ?_ h73).mono ?_); (exact HNB.out.on (by first | (refine below_next (below_next HBC.out HB6a.out) ?_; go_split_ands; assumption) | (go_split_ands; assumption))); rintro e v74 ⟨A74, c74, l74, rfl, h74, hb74⟩))
          have HB7 := Lib.hid (show Below v64.heap.size v64 v74 by go_split_ands; assumption)
          have HN7 := Lib.hid h74
          clear hb71 hb72 hb73 hb74 h71 h72 h73 h74 f1
          have HB7a := Lib.hid (below_next HBC.out (below_next HB6a.out HB7.out))
          go_wp2
          go_roundw
          case rel => exact ⟨k + 1, by omega, by go_num, A64, c64, l64, A74, c74, l74, rfl, rfl, by rw [HE.out.1]; exact HN6.out.on HB7.out, by rw [HE.out.2]; exact HN7.out, HST.out.call HB7a.out⟩
          case measure => simp [intOf]; omega
        · have hfin : cs.take k = cs := List.take_of_length_le (by omega)
          rw [hfin] at HNA HNB hsk
          have k00 := hst.cell 0 0 rfl rfl
          have k01 := hst.cell 0 1 rfl rfl
          have hsa : sumN (loB b) cs ≤ 1125899906842624 * 1125899906842624 := by omega
          have hsb : sumN (hiB b) cs ≤ 1125899906842624 * 1125899906842624 := by omega
          obtain ⟨sa, hsae⟩ : ∃ z, z = sumN (loB b) cs := ⟨_, rfl⟩
          obtain ⟨sb, hsbe⟩ : ∃ z, z = sumN (hiB b) cs := ⟨_, rfl⟩
          rw [← hsae] at HNA HV hsa
          rw [← hsbe] at HNB HV hsb
          clear hst hna hnb hsk hfin hsae hsbe hbw
          go_wp2_with fail
          (with_reducible refine (HTO.out wr HST.out.below).mono ?_)
          rintro e w3 ⟨rfl, hb3⟩
          have HST3 := Lib.hid (HST.out.call hb3)
          have HB3 := Lib.hid hb3
          clear hb3 k00 k01
          have HO := Lib.hid (natOf_any n w3 (by omega))
          go_wp2_with fail
          (with_reducible refine HO.out.mono ?_)
          rintro e w4 ⟨A4, c4, l4, rfl, h4, hb4⟩
          have HST4 := Lib.hid (HST3.out.call hb4)
          have HB4 := Lib.hid (below_next HB3.out hb4)
          have hl4 := natLen h4 (by omega)
          have H4 := Lib.hid h4
          have hla := natLen HNA.out hsa
          have hlb := natLen HNB.out hsb
          have HR1 := Lib.hid (mRatio_any Aa A4 ca c4 la l4 sa n.toNat w4 (HNA.out.on HB4.out) h4 (by omega) (by omega) (by omega) (HTT.out w4 HST4.out.below))
          clear hb4 h4 HO
          go_wp2_with fail
          (with_reducible refine HR1.out.mono ?_)
          rintro e w5 ⟨rfl, hb5⟩
          have HST5 := Lib.hid (HST4.out.call hb5)
          have HB5 := Lib.hid (below_next HB4.out hb5)
          have HR2 := Lib.hid (mRatio_any Ab A4 cb c4 lb l4 sb n.toNat w5 (HNB.out.on HB5.out) (H4.out.on hb5) (by omega) (by omega) (by omega) (HTT.out w5 HST5.out.below))
          clear hb5 HR1
          go_wp2_with fail
          (with_reducible refine HR2.out.mono ?_)
          rintro e w6 ⟨rfl, hb6⟩
          have hST6 := HST5.out.call hb6
          have hlt1 : w.heap.size + 1 < w6.heap.size := hST6.lt 1 rfl
          have hlt2 : w.heap.size + 1 + 1 < w6.heap.size := hST6.lt 2 rfl
          obtain ⟨p1, hp1⟩ : ∃ s : ByteArray, s = ⟨(ratS sa n.toNat).1.toArray⟩ := ⟨_, rfl⟩
          obtain ⟨p2, hp2⟩ : ∃ s : ByteArray, s = ⟨(ratS sa n.toNat).2.toArray⟩ := ⟨_, rfl⟩
          obtain ⟨q1, hq1⟩ : ∃ s : ByteArray, s = ⟨(ratS sb n.toNat).1.toArray⟩ := ⟨_, rfl⟩
          obtain ⟨q2, hq2⟩ : ∃ s : ByteArray, s = ⟨(ratS sb n.toNat).2.toArray⟩ := ⟨_, rfl⟩
          unfold ratV ratOf at HV ⊢
          rw [← hp1, ← hp2, ← hq1, ← hq2] at HV ⊢
          have r10 := hST6.cell 1 0 rfl rfl
          have z10 := hST6.frozen 1 0 rfl
          have r11 := hST6.cell 1 1 rfl rfl
          have z11 := hST6.frozen 1 1 rfl
          have r20 := hST6.cell 2 0 rfl rfl
          have z20 := hST6.frozen 2 0 rfl
          have r21 := hST6.cell 2 1 rfl rfl
          have z21 := hST6.frozen 2 1 rfl
          have HFIN := Lib.hid ((((hST6.below.setCell (p := ⟨w.heap.size + 1, 0, none⟩) (by simp only; omega) (.string p1)).setCell (p := ⟨w.heap.size + 1, 1, none⟩) (by simp only; omega) (.string p2)).setCell (p := ⟨w.heap.size + 1 + 1, 0, none⟩) (by simp only; omega) (.string q1)).setCell (p := ⟨w.heap.size + 1 + 1, 1, none⟩) (by simp only; omega) (.string q2))
          clear hb6 hST6 hp1 hp2 hq1 hq2 HR2
          go_wp2
          refine bodyPost_ret (v := .tuple #[.agg #[.string p1, .string p2], .agg #[.string q1, .string q2], .int .i64 0]) ?_ rfl ⟨by first | rw [HV.out] | (unfold ratOf; rw [HV.out]), HFIN.out⟩
          simp [results, Tryz.results42, go_sem, r10, r11, r20, r21, hlt1, hlt2]
  · have HV := Lib.hid (show (.tuple #[ratOf (meanL b cs), ratOf (meanH b cs), .int .i64 (meanC b cs)] : Value) = .tuple #[.agg #[.string ⟨#[]⟩, .string ⟨#[]⟩], .agg #[.string ⟨#[]⟩, .string ⟨#[]⟩], .int .i64 (codeH b cs)] by
      have e : meanC b cs = codeH b cs := by unfold meanC; rw [if_pos hc]
      unfold meanL meanH ratOf; rw [e, if_neg hc, if_neg hc])
    obtain ⟨cc, hcc⟩ : ∃ cc, cc = codeH b cs := ⟨_, rfl⟩
    rw [← hcc] at HCK hc HV
    have t1 : (cc != 0) = true := by simpa using hc
    clear hcc hr ht
    go_enter Tryz.func42, Tryz.ntmps42
    go_wp2_with fail
    rw [← hW0]
    clear hW0
    (with_reducible refine (HCK.out W0 HST0.out.below).mono ?_)
    rintro e w1 ⟨rfl, hb1⟩
    have hST1 := HST0.out.call hb1
    have HST1 := Lib.hid hST1
    have k00 := hST1.cell 0 0 rfl rfl
    have k01 := hST1.cell 0 1 rfl rfl
    have hlt1 : w.heap.size + 1 < w1.heap.size := hST1.lt 1 rfl
    have hlt2 : w.heap.size + 1 + 1 < w1.heap.size := hST1.lt 2 rfl
    have r10 := hST1.cell 1 0 rfl rfl
    have z10 := hST1.frozen 1 0 rfl
    have r11 := hST1.cell 1 1 rfl rfl
    have z11 := hST1.frozen 1 1 rfl
    have r20 := hST1.cell 2 0 rfl rfl
    have z20 := hST1.frozen 2 0 rfl
    have r21 := hST1.cell 2 1 rfl rfl
    have z21 := hST1.frozen 2 1 rfl
    have HFIN := Lib.hid ((((hST1.below.setCell (p := ⟨w.heap.size + 1, 0, none⟩) (by simp only; omega) (.string ⟨#[]⟩)).setCell (p := ⟨w.heap.size + 1, 1, none⟩) (by simp only; omega) (.string ⟨#[]⟩)).setCell (p := ⟨w.heap.size + 1 + 1, 0, none⟩) (by simp only; omega) (.string ⟨#[]⟩)).setCell (p := ⟨w.heap.size + 1 + 1, 1, none⟩) (by simp only; omega) (.string ⟨#[]⟩))
    clear hb1 hST1
    go_wp2
    refine bodyPost_ret (v := .tuple #[.agg #[.string ⟨#[]⟩, .string ⟨#[]⟩], .agg #[.string ⟨#[]⟩, .string ⟨#[]⟩], .int .i64 cc]) ?_ rfl ⟨by first | rw [HV.out] | (unfold ratOf; rw [HV.out]), HFIN.out⟩
    simp [results, Tryz.results42, go_sem, r10, r11, r20, r21, hlt1, hlt2]
end Go.Proofs.YtepfmoaihhonlaaGreatDoor
