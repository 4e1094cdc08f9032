/- Ratios: CheckRatio and Compare of package judge, Compare of the reference. -/
import Derived.Test.YtpmnhdgajkickaaGreatDoorJRead
import Derived.Test.YtpmnhdgajkickaaGreatDoorB24
namespace Go.Proofs.YtpmnhdgajkickaaGreatDoor
open Go Go.RowKit Go.Proofs

theorem jRead_bad (Sa Sb : ByteArray) (a b : List UInt8) (w : World) (hSa : Sa.data.toList = a) (hSb : Sb.data.toList = b) (ha : Sa.size ≤ 9223372036854775800) (hb : Sb.size ≤ 9223372036854775800) (hc : cRt a b ≠ 0) :
    Calls Tryz.prog 48 #[.agg #[.string Sa, .string Sb]] w fun e w' => e = .returned (.tuple #[.agg #[.bool false, .slice none 0 0, .slice none 0 0], .int .i64 (cRt a b)]) ∧ Below w.heap.size w w' :=
  (jRead_any Sa Sb a b w hSa hSb ha hb).mono fun e w' ⟨v, h1, _, h3, h4⟩ => ⟨by rw [h1, h3 hc], h4⟩
theorem jRead_good (Sa Sb : ByteArray) (a b : List UInt8) (w : World) (hSa : Sa.data.toList = a) (hSb : Sb.data.toList = b) (ha : Sa.size ≤ 9223372036854775800) (hb : Sb.size ≤ 9223372036854775800) (hc : cRt a b = 0) :
    Calls Tryz.prog 48 #[.agg #[.string Sa, .string Sb]] w fun e w' => ∃ A1 c1 l1 A2 c2 l2, e = .returned (.tuple #[.agg #[.bool (sgB a), .slice A1 (l1 : List Nat).length c1, .slice A2 (l2 : List Nat).length c2], .int .i64 0]) ∧ NatR w' A1 c1 l1 (dgV (unsg a)) ∧ NatR w' A2 c2 l2 (dgV b) ∧ Below w.heap.size w w' :=
  (jRead_any Sa Sb a b w hSa hSb ha hb).mono fun e w' ⟨v, h1, h2, _, h4⟩ => by
    obtain ⟨A1, c1, l1, A2, c2, l2, rfl, n1, n2⟩ := h2 hc
    exact ⟨A1, c1, l1, A2, c2, l2, by rw [h1, hc], n1, n2, h4⟩
def cmpV (a b c d : List UInt8) : Int := if cRt a b ≠ 0 then 0 else if cRt c d ≠ 0 then 0 else ordQ (ratX a b) (ratX c d)
def cmpE (a b c d : List UInt8) : Int := if cRt a b ≠ 0 then cRt a b else cRt c d
theorem cmp_bad {a b c d : List UInt8} (h : cRt a b ≠ 0) : cmpV a b c d = 0 ∧ cmpE a b c d = cRt a b := by unfold cmpV cmpE; rw [if_pos h, if_pos h]; exact ⟨rfl, rfl⟩
theorem cmp_bad2 {a b c d : List UInt8} (h : cRt a b = 0) (h2 : cRt c d ≠ 0) : cmpV a b c d = 0 ∧ cmpE a b c d = cRt c d := by unfold cmpV cmpE; rw [if_neg (by omega), if_pos h2, if_neg (by omega)]; exact ⟨rfl, rfl⟩
theorem cmp_good {a b c d : List UInt8} (h : cRt a b = 0) (h2 : cRt c d = 0) : cmpV a b c d = ordQ (ratX a b) (ratX c d) ∧ cmpE a b c d = 0 := by unfold cmpV cmpE; rw [if_neg (by omega), if_neg (by omega), if_neg (by omega)]; exact ⟨rfl, h2⟩
theorem rt_W {a b : List UInt8} (h : cRt a b = 0) : dgV (unsg a) < W64 ^ 2000 ∧ dgV b < W64 ^ 2000 ∧ 0 < dgV b := by
  obtain ⟨h1, h2, h3, h4, h5, h6, h7⟩ := cRt_zero h
  exact ⟨dgV_W (E := 2000) (dgB_digits h1).2.1 h5, dgV_W (E := 2000) (dgB_digits h2).2.1 h6, dgV_pos h2 h3⟩
set_option maxHeartbeats 8000000 in
set_option maxRecDepth 100000 in
theorem jCheck_any (Sa Sb : ByteArray) (a b : List UInt8) (w : World) (hSa : Sa.data.toList = a) (hSb : Sb.data.toList = b) (ha : Sa.size ≤ 9223372036854775800) (hb : Sb.size ≤ 9223372036854775800) :
    Calls Tryz.prog 11 #[.agg #[.string Sa, .string Sb]] w fun e w' => e = .returned (.int .i64 (cRt a b)) ∧ Below w.heap.size w w' := by
  obtain ⟨W0, hW0⟩ : ∃ W0, W0 = w.alloc (.cells #[.string Sa, .string Sb] 23) := ⟨_, rfl⟩
  have HST0 := Lib.hid (show St w W0 [(w.heap.size, .cells #[.string Sa, .string Sb] 23 (0, 0))] by rw [hW0]; exact (St.start w).alloc _ _ rfl)
  have HR := Lib.hid (fun W => jRead_any Sa Sb a b W hSa hSb ha hb)
  have HF := Lib.hid (fun W (hb : Below W0.heap.size W0 W) o => (show Below w.heap.size w (W.alloc o) from (below_next HST0.out.below hb).alloc (below_next HST0.out.below hb).size _))
  have p0 := HST0.out.cell 0 0 rfl rfl
  have p1 := HST0.out.cell 0 1 rfl rfl
  obtain ⟨cc, hcc⟩ : ∃ cc, cc = cRt a b := ⟨_, rfl⟩
  unfold RdPost at HR
  rw [← hcc] at HR ⊢
  clear hcc hSa hSb
  go_enter Tryz.func11, Tryz.ntmps11
  go_wp2_with fail
  rw [← hW0]
  clear hW0
  go_wp2_with fail
  (with_reducible refine (HR.out _).mono ?_)
  rintro e w1 ⟨v, rfl, h1, h2, hb1⟩
  by_cases hc : cc = 0
  · subst hc
    obtain ⟨A1, c1, l1, A2, c2, l2, rfl, -, -⟩ := h1 rfl
    clear h1 h2
    go_wp2
    go_ret
    exact ⟨by rfl, HF.out _ hb1 _⟩
  · obtain rfl := h2 hc
    clear h1 h2
    go_wp2
    go_ret
    exact ⟨by rfl, HF.out _ hb1 _⟩
end Go.Proofs.YtpmnhdgajkickaaGreatDoor
