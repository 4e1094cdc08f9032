import Derived.Test.YtnpfdelklolchaaGreatDoorRAlB
import Derived.Test.YtnpfdelklolchaaGreatDoorG42
import Derived.Deep.DeepCutAuto
import Derived.Deep.CutBlock
import Derived.Test.YtnpfdelklolchaaGreatDoorCards
import Derived.Test.YtnpfdelklolchaaGreatDoorTie
import Derived.Test.YtnpfdelklolchaaGreatDoorG33
import Derived.Test.YtnpfdelklolchaaGreatDoorG20
import Derived.Lay
import Derived.WalkKit
import Derived.ProofKit
import Derived.OpenShut
import Derived.Deep.DeepHandedRow
import Derived.Lib.LaidTab
/- The reference's Alerts. Printed by gen_ral.py out of ral.txt. -/
namespace Go.Proofs.YtnpfdelklolchaaGreatDoor
open Go Go.RowKit Go.Proofs

set_option maxHeartbeats 8000000 in
set_option maxRecDepth 100000 in
theorem rAlerts_any (g o : Int) (A B : Option Addr) (c d : Nat) (l : List Pt) (rs : List Ru) (w : World) (hr : Rd w 0 w.heap.size 3 A l.length (al3 l)) (hr2 : Rd w 0 w.heap.size 4 B rs.length (ru4 rs)) (hl : l.length ≤ 9223372036854775807) (hl2 : rs.length ≤ 9223372036854775807) :
    Calls Tryz.prog 20 #[.agg #[.int .i64 g, .int .i64 o], .slice A l.length c, .slice B rs.length d] w (AlPost g o l rs w) := by
  show Calls Tryz.prog 20 #[.agg #[.int .i64 g, .int .i64 o], .slice A l.length c, .slice B rs.length d] w (AlP (codeAl g o l rs) (alRus g o l rs rs.length) w)
  have HR := Lib.hid hr
  have HR2 := Lib.hid hr2
  obtain ⟨W0, hW0⟩ : ∃ W0, W0 = w.alloc (.cells #[.int .i64 g, .int .i64 o] 48) := ⟨_, rfl⟩
  have HB0 := Lib.hid (show Below w.heap.size w W0 by rw [hW0]; exact (Below.refl _ w).alloc (Nat.le_refl _) _)
  have HX0 := Lib.hid (show W0.heap[w.heap.size]? = some (.cells #[.int .i64 g, .int .i64 o] 48 (0, 0)) by rw [hW0]; exact alloc_at _ _ _ rfl)
  have HJ := Lib.hid (rObj_any g o W0)
  obtain ⟨kg, kg2⟩ : W0.cell? ⟨w.heap.size, 0, none⟩ = some (.int .i64 g) ∧ W0.cell? ⟨w.heap.size, 1, none⟩ = some (.int .i64 o) := obj_cells HX0.out
  rw [hW0] at kg kg2
  clear hr hr2
  by_cases hok : OkO g o
  · have hco : codeAl g o l rs = codeA l rs := if_pos hok
    have hcz : cdO g o = 0 := if_pos hok
    rw [hco]
    rw [hcz] at HJ
    have HOK := Lib.hid hok
    have HCP := Lib.hid (codeA_pt (l := l) (rs := rs))
    have HCR := Lib.hid (codeA_ru (l := l) (rs := rs))
    obtain ⟨V, hV⟩ : ∃ V, V = codeA l rs := ⟨_, rfl⟩
    rw [← hV] at HCP HCR ⊢
    have HVV := Lib.hid hV
    obtain ⟨ii, hii, hiz0, hiz1, hiz2⟩ := info_parts infoAl
    clear hco hcz hok hV
    by_cases h0 : 2000 < l.length
    · have h0z : (2000 : Int) < (l.length : Int) := by omega
      have HV := Lib.hid (show V = 3 by
        have e : codeP l = 3 := by unfold codeP; rw [if_pos h0]
        rw [HCP.out (by rw [e]; decide), e])
      go_enter Tryz.func20, Tryz.ntmps20
      go_wp2_with fail
      rw [← hW0]
      clear hW0 kg kg2
      (with_reducible refine (HJ.out).mono ?_)
      rintro e w1 ⟨rfl, hb1⟩
      have HB1 := Lib.hid (below_next HB0.out hb1)
      clear hb1
      go_wp2
      go_ret2
      exact .inl ⟨by rw [HV.out]; decide, by rw [HV.out]; rfl, HB1.out⟩
    · have h0z : ¬ (2000 : Int) < (l.length : Int) := by omega
      have HP0 := Lib.hid (codeP_eq h0)
      go_enter Tryz.func20, Tryz.ntmps20
      go_wp2_with fail
      rw [← hW0]
      rw [← hW0] at kg kg2
      clear hW0
      (with_reducible refine (HJ.out).mono ?_)
      rintro e w1 ⟨rfl, hb1⟩
      have HB1 := Lib.hid (below_next HB0.out hb1)
      have HX1 := Lib.hid ((hb1.block _ (heap_lt HX0.out)).trans HX0.out)
      clear hb1 kg kg2
      go_wp2_with fail
      go_loopw [9] (fun kv wr => ∃ k : Nat, kv = .int .i64 (k : Int) ∧ k ≤ l.length ∧ cdPt l (l.length - k) k = codeP l ∧ Below w1.heap.size w1 wr) (fun kv _ => l.length - (intOf kv).toNat)
      case atStart => exact ⟨0, rfl, Nat.zero_le _, HP0.out.symm, Below.refl _ _⟩
      case round =>
        obtain ⟨k, rfl, hk, hcd, hbw⟩ := hrel
        obtain ⟨wk, rfl⟩ : ∃ W : World, W = wr := ⟨_, rfl⟩
        have HCD := Lib.hid hcd
        have HBX := Lib.hid hbw
        have HBW := Lib.hid (below_next HB1.out hbw)
        clear hcd hbw
        by_cases hlt : k < l.length
        · obtain ⟨b, o', q, rfl, -, hb1, hq, r0, r1, r2⟩ := (HR.out.old HBW.out).atP hlt
          obtain ⟨qx, qa, qb⟩ := q
          simp only at r0 r1 r2
          have HQ := Lib.hid hq
          have hkz : (k : Int) < (l.length : Int) := by omega
          have hk1 : IntKind.i64.wrap ((k : Int) + 1) = (k : Int) + 1 := IntWalk.i64_in _ (by omega)
          have HBAD := Lib.hid (fun h => show V = 9 by
            have e : codeP l = 9 := by rw [← HCD.out]; exact cdPt_bad HQ.out h
            rw [HCP.out (by rw [e]; decide), e])
          by_cases hok : OkPt (qx, qa, qb)
          · have HOKP := Lib.hid hok
            obtain ⟨i0, i1, p0, p1, p2⟩ := hok
            (try simp only at i0 i1 p0 p1 p2)
            have i0' : ¬ qx < 0 := by omega
            have i1' : ¬ (1000000000000 : Int) < qx := by omega
            have p0' : ¬ qb < 0 := by omega
            have p1' : ¬ qa < qb := by omega
            have p2' : ¬ (1000000 : Int) < qa := by omega
            have d0 := decide_eq_false i0'
            have d1 := decide_eq_false i1'
            have d2 := decide_eq_false p0'
            have d3 := decide_eq_false p1'
            have d4 := decide_eq_false p2'
            by_cases hk0 : k = 0
            · have hkn : ¬ (0 : Int) < (k : Int) := by omega
              have hkn2 : ¬ 0 < k := by omega
              have d5 := decide_eq_false hkn
              have d6 := decide_eq_false hkn2
              have HN := Lib.hid (cdPt_next HQ.out HOKP.out (by omega))
              clear hq hk0
              go_wp2_with fail
              go_big_quiet (fail)
              go_wp2_with fail
              go_big_quiet (fail)
              go_wp2
              go_roundw
              case rel => exact ⟨k + 1, by go_num, by omega, HN.out.trans HCD.out, below_drewN HBX.out _⟩
              case measure => simp [intOf]; omega
            · obtain ⟨j, hkj⟩ : ∃ j, k = j + 1 := ⟨k - 1, by omega⟩
              have hj0 : (0 : Int) < (k : Int) := by omega
              have hj00 : 0 < k := by omega
              obtain ⟨b', o'', ⟨zx, za, zb⟩, e1, -, hb1', hz, z0, -, -⟩ := (HR.out.old HBW.out).atP (show j < l.length by omega)
              simp only at z0
              simp only [Option.some.injEq, Addr.mk.injEq, and_true] at e1
              obtain ⟨rfl, rfl⟩ := e1
              have hpv : prevP l k = zx := by unfold prevP; rw [show k - 1 = j by omega, hz]
              have hj1 : IntKind.i64.wrap ((k : Int) - 1) = (j : Int) := by rw [IntWalk.i64_in _ (by omega)]; omega
              have hjl : (j : Int) < (l.length : Int) := by omega
              have hjz : (0 : Int) ≤ (j : Int) := by omega
              by_cases hord : qx ≤ zx
              · have HV := Lib.hid (show V = 10 by
                  have e : codeP l = 10 := by rw [← HCD.out]; exact cdPt_ord HQ.out HOKP.out ⟨by omega, by rw [hpv]; exact hord⟩
                  rw [HCP.out (by rw [e]; decide), e])
                clear hq hz hpv hkj hk0
                go_wp2_with fail
                go_big_quiet (fail)
                go_wp2_with fail
                go_big_quiet (fail)
                go_wp2
                go_ret2
                exact .inl ⟨by rw [HV.out]; decide, by rw [HV.out]; rfl, below_drewN (below_drewN HBW.out _) _⟩
              · have HN := Lib.hid (cdPt_next HQ.out HOKP.out (by rw [hpv]; omega))
                clear hq hz hpv hkj hk0
                go_wp2_with fail
                go_big_quiet (fail)
                go_wp2_with fail
                go_big_quiet (fail)
                go_wp2
                go_roundw
                case rel => exact ⟨k + 1, by go_num, by omega, HN.out.trans HCD.out, below_drewN HBX.out _⟩
                case measure => simp [intOf]; omega
          · have HV := Lib.hid (HBAD.out hok)
            have HNK := Lib.hid hok
            clear hq hok
            by_cases i0 : qx < 0
            · go_wp2_with fail
              go_big_quiet (fail)
              go_wp2
              go_ret2
              exact .inl ⟨by rw [HV.out]; decide, by rw [HV.out]; rfl, below_drewN HBW.out _⟩
            · have d0 := decide_eq_false i0
              by_cases i1 : (1000000000000 : Int) < qx
              · go_wp2_with fail
                go_big_quiet (fail)
                go_wp2
                go_ret2
                exact .inl ⟨by rw [HV.out]; decide, by rw [HV.out]; rfl, below_drewN HBW.out _⟩
              · have d1 := decide_eq_false i1
                by_cases p0 : qb < 0
                · go_wp2_with fail
                  go_big_quiet (fail)
                  go_wp2
                  go_ret2
                  exact .inl ⟨by rw [HV.out]; decide, by rw [HV.out]; rfl, below_drewN HBW.out _⟩
                · have d2 := decide_eq_false p0
                  by_cases p1 : qa < qb
                  · go_wp2_with fail
                    go_big_quiet (fail)
                    go_wp2
                    go_ret2
                    exact .inl ⟨by rw [HV.out]; decide, by rw [HV.out]; rfl, below_drewN HBW.out _⟩
                  · have d3 := decide_eq_false p1
                    by_cases p2 : (1000000 : Int) < qa
                    · go_wp2_with fail
                      go_big_quiet (fail)
                      go_wp2
                      go_ret2
                      exact .inl ⟨by rw [HV.out]; decide, by rw [HV.out]; rfl, below_drewN HBW.out _⟩
                    · exact absurd (show OkPt (qx, qa, qb) by unfold OkPt; dsimp only; omega) HNK.out
        · obtain rfl : k = l.length := by omega
          have HCZ := Lib.hid (show codeP l = 0 by rw [← HCD.out]; exact cdPt_end l)
          have HCR2 := Lib.hid (HCR.out HCZ.out)
          have hkz : ¬ ((l.length : Nat) : Int) < (l.length : Int) := by omega
          by_cases h1 : 10 < rs.length
          · have h1z : (10 : Int) < (rs.length : Int) := by omega
            have HV := Lib.hid (show V = 3 by
              rw [HCR2.out]; unfold codeR; rw [if_pos h1])
            go_wp2
            go_ret2
            exact .inl ⟨by rw [HV.out]; decide, by rw [HV.out]; rfl, HBW.out⟩
          · have h1z : ¬ (10 : Int) < (rs.length : Int) := by omega
            have HR0 := Lib.hid (codeR_eq h1)
            go_upto_block 2 with fail
            go_cut [] (fun wc => V = 0 ∧ Below w1.heap.size w1 wc)
            case first =>
              go_wp2_with fail
              go_loopw [10] (fun jv wr => ∃ j : Nat, jv = .int .i64 (j : Int) ∧ j ≤ rs.length ∧ cdRu rs (rs.length - j) j = codeR rs ∧ Below w1.heap.size w1 wr) (fun jv _ => rs.length - (intOf jv).toNat)
              case atStart => exact ⟨0, rfl, Nat.zero_le _, HR0.out.symm, HBX.out⟩
              case round =>
                obtain ⟨j, rfl, hj, hcd, hbw⟩ := hrel
                obtain ⟨w2, rfl⟩ : ∃ W : World, W = wr := ⟨_, rfl⟩
                have HRD := Lib.hid hcd
                have HBZ := Lib.hid hbw
                have HB2 := Lib.hid (below_next HB1.out hbw)
                have hsz2 := hbw.size
                clear hcd hbw
                by_cases hlt2 : j < rs.length
                · obtain ⟨b2, o2, r, rfl, -, hb2, hr, t0, t1, t2, t3⟩ := (HR2.out.old HB2.out).atR hlt2
                  have HRR := Lib.hid hr
                  have hjz : (j : Int) < (rs.length : Int) := by omega
                  have hj1 : IntKind.i64.wrap ((j : Int) + 1) = (j : Int) + 1 := IntWalk.i64_in _ (by omega)
                  have hb3' : Below w2.heap.size w2 (w2.alloc (.cells #[.int .i64 r.1, .int .i64 r.2.1, .int .i64 r.2.2.1, .int .i64 r.2.2.2] 99)) := (Below.refl _ w2).alloc (Nat.le_refl _) _
                  have HB3 := Lib.hid (below_next HB2.out hb3')
                  have HB4 := Lib.hid (below_next HBZ.out hb3')
                  have HBAD2 := Lib.hid (fun h => show V = 9 by
                    have e : codeR rs = 9 := by rw [← HRD.out]; exact cdRu_bad HRR.out h
                    rw [HCR2.out, e])
                  clear hr hb3'
                  by_cases s0 : r.1 < 1
                  · have HV := Lib.hid (HBAD2.out (fun h => by have := h.1; omega))
                    go_wp2
                    go_ret2
                    exact .inl ⟨by rw [HV.out]; decide, by rw [HV.out]; rfl, HB3.out⟩
                  · by_cases s1 : r.2.1 < r.1
                    · have HV := Lib.hid (HBAD2.out (fun h => by have := h.2.1; omega))
                      go_wp2
                      go_ret2
                      exact .inl ⟨by rw [HV.out]; decide, by rw [HV.out]; rfl, HB3.out⟩
                    · by_cases s2 : (1000000000000 : Int) < r.2.1
                      · have HV := Lib.hid (HBAD2.out (fun h => by have := h.2.2.1; omega))
                        go_wp2
                        go_ret2
                        exact .inl ⟨by rw [HV.out]; decide, by rw [HV.out]; rfl, HB3.out⟩
                      · by_cases s3 : r.2.2.1 < 0
                        · have HV := Lib.hid (HBAD2.out (fun h => by have := h.2.2.2.1; omega))
                          go_wp2
                          go_ret2
                          exact .inl ⟨by rw [HV.out]; decide, by rw [HV.out]; rfl, HB3.out⟩
                        · by_cases s4 : (1000000 : Int) < r.2.2.1
                          · have HV := Lib.hid (HBAD2.out (fun h => by have := h.2.2.2.2.1; omega))
                            go_wp2
                            go_ret2
                            exact .inl ⟨by rw [HV.out]; decide, by rw [HV.out]; rfl, HB3.out⟩
                          · by_cases s5 : r.2.2.2 < 1
                            · have HV := Lib.hid (HBAD2.out (fun h => by have := h.2.2.2.2.2.1; omega))
                              go_wp2
                              go_ret2
                              exact .inl ⟨by rw [HV.out]; decide, by rw [HV.out]; rfl, HB3.out⟩
                            · by_cases s6 : (1000000 : Int) < r.2.2.2
                              · have HV := Lib.hid (HBAD2.out (fun h => by have := h.2.2.2.2.2.2; omega))
                                go_wp2
                                go_ret2
                                exact .inl ⟨by rw [HV.out]; decide, by rw [HV.out]; rfl, HB3.out⟩
                              · have HN := Lib.hid (cdRu_next HRR.out ⟨by omega, by omega, by omega, by omega, by omega, by omega, by omega⟩)
                                go_wp2
                                go_roundw
                                case rel => exact ⟨j + 1, by go_num, by omega, HN.out.trans HRD.out, HB4.out⟩
                                case measure => simp [intOf]; omega
                · obtain rfl : j = rs.length := by omega
                  have hvz : V = 0 := by rw [HCR2.out, ← HRD.out]; exact cdRu_end rs
                  have HVZ := Lib.hid hvz
                  have hjz : ¬ ((rs.length : Nat) : Int) < (rs.length : Int) := by omega
                  go_wp2
                  go_meet
                  exact ⟨HVZ.out, HBZ.out⟩
            case rest =>
              obtain ⟨hvz, hbz⟩ := hcut
              have hca : codeA l rs = 0 := HVV.out.symm.trans hvz
              refine at_K (P := Tryz.prog) (code := ?tailC) (Q := ?tailQ) ?tailK ?tailW
              case tailK => assumption
              exact ralB_any g o A B c d l rs V w wc HR.out HR2.out hvz (below_next HB1.out hbz) ((hbz.block _ (heap_lt HX1.out)).trans HX1.out) (codeA_zero hca).1 (codeA_zero hca).2 HOK.out _ _ _ _ _ _ _ _ _ _ _ _ _ _ _ _ _ _ _ _ _ _ _ _ _ _ _ _ _ _ _ _ _ _ _ _ _ _ _ _ _ _ _ _ _ _ _ _ _ _ _ _ _ _ _ _ _ _ _ _ _ _ _ _ _ _ _ _ _ _ _ _ _ _ _ _ _ _ _ _ _ _ _ _ _ _ _ _ _ _ _ _ _ _ _ _ _ _ _ _ _ _ _ _ _ _ _ _ _ _ _ _ _ _ _ _ _ _ _ _ _ _ _ _ _ _ _ _ _ _ _ _ _ _ _ _ _ _ _ _ _ _ _ _ _ _ _ _ _ _ _ _ _ _ _ _ _ _ _ _ _ _ _ _ _ _ _ _ _ _ _ _ _ _ _ _ _ _ _ _ _ _ _ _ _ _ _ _ _ _ _ _ _ _ _ _ _ _ _ _ _ _ _ _ _ _ _ _ _ _ _ _ _ _ _ _ _ _ _ _ _ _ _ _ _ _ _ _ _ _ _ _ _ _ _ _ _ _ _ _ _ _ _ _ _ _ _ _ _ _ _ _ _ _ _ _ _ _ _ _ _ _ _ _ _ _ _ _ _ _ _ _ _ _ _ _ _ _ _ _ _ _ _ _ _ _
  · have hco : codeAl g o l rs = 9 := if_neg hok
    have hcz : cdO g o = 9 := if_neg hok
    rw [hco]
    rw [hcz] at HJ
    clear hco hcz hok
    go_enter Tryz.func20, Tryz.ntmps20
    go_wp2_with fail
    rw [← hW0]
    clear hW0 kg kg2
    (with_reducible refine (HJ.out).mono ?_)
    rintro e w1 ⟨rfl, hb1⟩
    have HB1 := Lib.hid (below_next HB0.out hb1)
    clear hb1
    go_wp2
    go_ret2
    exact .inl ⟨by decide, by rfl, HB1.out⟩

end Go.Proofs.YtnpfdelklolchaaGreatDoor

/- What every law behind the door shares: the table that its row lists, a world for the witness, and the card out of the row's statement. -/
namespace Go.Proofs.YtnpfdelklolchaaGreatDoor
open Go Go.ChangeShapes Go.WideShapes Go.ChangeAt Go.RowKit

theorem gPow : Tryz.prog.globalNamed "internal/strconv.uint64pow10" = some 2 := by kernel_rfl
theorem gPowType : (Tryz.prog.globals[2]?).map (·.type) = some 180 := by kernel_rfl
theorem cellsPow : Tryz.prog.cellsOf 180 = 20 := by kernel_rfl
theorem cellsU : Tryz.prog.cellsOf 110 = 1 := by kernel_rfl

/-- the list of the rows of this seat -/
abbrev laid3 : List (String × DataW Unit) := [("math/bits.deBruijn32tab", Rows.laid_math_bits_deBruijn32tab), ("math/bits.deBruijn64tab", Rows.laid_math_bits_deBruijn64tab), ("internal/strconv.uint64pow10", Rows.laid_internal_strconv_uint64pow10), ("unicode/utf8.acceptRanges", Rows.laid_unicode_utf8_acceptRanges), ("strconv.ErrRange", Rows.laid_strconv_ErrRange), ("strconv.ErrSyntax", Rows.laid_strconv_ErrSyntax), ("unicode/utf8.first", Rows.laid_unicode_utf8_first)]

theorem table {W : World} (h0 : laidMetH Tryz.prog laid3 W) : Tab W.heap.size W := by
  have h : laidMet Tryz.prog laid3 W := h0
  refine Lib.tabBelow_of_tabIs ?_
  obtain ⟨ps, ⟨g1, t1, cs1, fu1, p1, q1, _, _, _, _, ⟨g2, t2, cs2, fu2, p2, q2, _, _, _, _, ⟨g', t', cs, fuel, p, q, hg', ht', hvar, hd, _, _⟩, _⟩, _⟩, _⟩ := h
  obtain rfl := Option.some.inj (gPow.symm.trans hg')
  obtain rfl := Option.some.inj (gPowType.symm.trans ht')
  unfold Lib.TabIs
  rw [hvar, ← Lib.cells_of_tab Tryz.underlying180 Tryz.underlying110 cellsU cellsPow hd]

/-- A WORLD FOR THE WITNESS: the settled one, the listed variables holding what their initialisers lay. -/
noncomputable def laidWorld (os : Os) : World := World.laidAll Tryz.prog os laid3
theorem laid_met (os : Os) (args : Array Value) : laidMet Tryz.prog laid3 ((laidWorld os).forCall (fun _ _ => 0) ⟨#[], args, []⟩).memory :=
  laidMet_laidAll args (by kernel_rfl) (by kernel_rfl)
end Go.Proofs.YtnpfdelklolchaaGreatDoor
