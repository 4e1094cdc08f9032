/- Package judge: short ratios. -/
import Derived.Test.YtnpfdelklolchaaGreatDoorJRead
import Derived.Test.YtnpfdelklolchaaGreatDoorG23
namespace Go.Proofs.YtnpfdelklolchaaGreatDoor
open Go Go.RowKit Go.Proofs

theorem run_cf {P : Program} {f : FuncId} {fn : Func} {c : Code} (hf : P.funcs[f]? = some fn) (hname : (fn.name == "runtime.NumGoroutine") = false) (hb : fn.body = some c) (args : Array Value) (w : World) :
    (callFunc f args).run P w = .ok (.enter f args) w := by
  have h1 : fn.name ≠ "runtime.NumGoroutine" := by simpa using hname
  simp [callFunc, hf, h1, hb]
/-- function number n tests a range -/
class RgOk (k : Rg) (n : Nat) : Prop where
  run : ∀ (args : Array Value) (w : World), (callFunc n args).run Tryz.prog w = .ok (.enter n args) w
  ok : ∀ (u : Value) (b : Bool) (x y : Nat) (w : World), JF w u b x y → x < W64 ^ 2000 → y < W64 ^ 2000 → Calls Tryz.prog n #[u] w fun e w' => e = .returned (.bool (inJ k b x y)) ∧ Below w.heap.size w w'
instance shareOk : RgOk .share 83 := ⟨fun args w => run_cf Tryz.func83 (by kernel_rfl) rfl args w, fun u b x y w h hx hy => jShare_any u b x y 2000 w h hx hy (by omega)⟩
theorem shC_bad {k : Rg} {a b : List UInt8} (h : cRt a b ≠ 0) : shC k a b = cRt a b := by unfold shC; rw [if_pos h]
theorem shC_size {k : Rg} {a b : List UInt8} (h : cRt a b = 0) (h2 : 6 < (unsg a).length ∨ 6 < b.length) : shC k a b = 3 := by unfold shC; rw [if_neg (by omega), if_pos h2]
theorem shC_in {k : Rg} {a b : List UInt8} (h : cRt a b = 0) (h2 : ¬ (6 < (unsg a).length ∨ 6 < b.length)) : shC k a b = if inJ k (sgB a) (dgV (unsg a)) (dgV b) = true then 0 else 9 := by
  obtain ⟨p1, p2, p3, p4⟩ := ratX_good h
  unfold shC; rw [if_neg (by omega), if_neg h2, ← inJ_eq, p1, p2, p3]
/-- what short returns -/
def ShPost (k : Rg) (a b : List UInt8) (w : World) (e : Ending) (w' : World) : Prop :=
  (shC k a b ≠ 0 ∧ e = .returned (.tuple #[.agg #[.bool false, .slice none 0 0, .slice none 0 0], .int .i64 (shC k a b)]) ∧ Below w.heap.size w w') ∨
  (shC k a b = 0 ∧ ∃ v, e = .returned (.tuple #[v, .int .i64 0]) ∧ JF w' v false (frN (ratX a b)) (ratX a b).den ∧ Below w.heap.size w w')
set_option maxHeartbeats 8000000 in
set_option maxRecDepth 100000 in
theorem jShort_any (k : Rg) {n : Nat} [RgOk k n] (Sa Sb : ByteArray) (a b : List UInt8) (w : World) (hSa : Sa.data.toList = a) (hSb : Sb.data.toList = b) (ha : Sa.size ≤ 9223372036854775800) (hb : Sb.size ≤ 9223372036854775800) :
    Calls Tryz.prog 82 #[.agg #[.string Sa, .string Sb], .func (.func n) #[] #[]] w (ShPost k a b w) := by
  have HRD := Lib.hid (fun W => jRead_any Sa Sb a b W hSa hSb ha hb)
  have HTP := Lib.hid (fun W => Tryz.strings_TrimPrefix Sa ⟨#[45]⟩ W)
  obtain ⟨SU, hSU⟩ : ∃ SU : ByteArray, SU = ⟨(unsg a).toArray⟩ := ⟨_, rfl⟩
  have hU : SU.data.toList = unsg a := by rw [hSU]
  have hzb := ba_size hSb
  have hzu := ba_size hU
  have hua : (unsg a).length ≤ a.length := by unfold unsg; split <;> simp
  have hza := ba_size hSa
  rw [hSa, show (⟨#[45]⟩ : ByteArray).data.toList = [45] from rfl, (cut_minus a).2, ← hSU] at HTP
  unfold ShPost
  obtain ⟨W0, hW0⟩ : ∃ W0, W0 = (w.alloc (.cells #[.string Sa, .string Sb] 24)).alloc (.cells #[.bool false, .slice none 0 0, .slice none 0 0] 73) := ⟨_, rfl⟩
  have HST0 := Lib.hid (show St w W0 [(w.heap.size, .cells #[.string Sa, .string Sb] 24 (0, 0)), (w.heap.size + 1, .cells #[.bool false, .slice none 0 0, .slice none 0 0] 73 (0, 0))] by rw [hW0]; exact ((St.start w).alloc _ _ rfl).alloc _ _ (by simp))
  have HX0 := Lib.hid (show JBox W0 (w.heap.size + 1) from HST0.out.at 1 rfl)
  have HFIN := Lib.hid (show ∀ W, Below W0.heap.size W0 W → ∀ x y z, Below w.heap.size w (((W.setCell ⟨w.heap.size + 1, 0, none⟩ x).setCell ⟨w.heap.size + 1, 1, none⟩ y).setCell ⟨w.heap.size + 1, 2, none⟩ z) from fun W hb x y z => (((below_next HST0.out.below hb).setCell (p := ⟨w.heap.size + 1, 0, none⟩) (by simp) x).setCell (p := ⟨w.heap.size + 1, 1, none⟩) (by simp) y).setCell (p := ⟨w.heap.size + 1, 2, none⟩) (by simp) z)
  have HK := Lib.hid (show ∀ X, Below W0.heap.size W0 X → X.cell? ⟨w.heap.size, 0, none⟩ = some (.string Sa) ∧ X.cell? ⟨w.heap.size, 1, none⟩ = some (.string Sb) ∧ X.cell? ⟨w.heap.size + 1, 0, none⟩ = some (.bool false) ∧ X.cell? ⟨w.heap.size + 1, 1, none⟩ = some (.slice none 0 0) ∧ X.cell? ⟨w.heap.size + 1, 2, none⟩ = some (.slice none 0 0) ∧ X.frozen? ⟨w.heap.size + 1, 0, none⟩ = false ∧ X.frozen? ⟨w.heap.size + 1, 1, none⟩ = false ∧ X.frozen? ⟨w.heap.size + 1, 2, none⟩ = false ∧ w.heap.size + 1 < X.heap.size from fun X hX => ⟨(HST0.out.call hX).cell 0 0 rfl rfl, (HST0.out.call hX).cell 0 1 rfl rfl, (HST0.out.call hX).cell 1 0 rfl rfl, (HST0.out.call hX).cell 1 1 rfl rfl, (HST0.out.call hX).cell 1 2 rfl rfl, (HST0.out.call hX).frozen 1 0 rfl, (HST0.out.call hX).frozen 1 1 rfl, (HST0.out.call hX).frozen 1 2 rfl, (HST0.out.call hX).lt 1 rfl⟩)
  obtain ⟨p0, p1, k0, k1, k2, z0, z1, z2, hl0⟩ := HK.out W0 (Below.refl _ _)
  obtain ⟨cc, hcc⟩ : ∃ cc, cc = cRt a b := ⟨_, rfl⟩
  unfold RdPost at HRD
  rw [← hcc] at HRD
  obtain ⟨rv, hrv⟩ : ∃ rv, rv = shC k a b := ⟨_, rfl⟩
  rw [← hrv]
  by_cases hc0 : cc = 0
  · rw [hc0] at hcc HRD
    obtain ⟨r1, r2, r3, r4⟩ := ratX_good hcc.symm
    have hsmall := cRt_zero hcc.symm
    have hin := fun h2 => shC_in (k := k) hcc.symm h2
    have hsz := fun h2 => shC_size (k := k) hcc.symm h2
    rw [← hrv] at hin hsz
    have hXW := dgV_W (E := 2000) (dgB_digits hsmall.1).2.1 hsmall.2.2.2.2.1
    have hYW := dgV_W (E := 2000) (dgB_digits hsmall.2.1).2.1 hsmall.2.2.2.2.2.1
    obtain ⟨X, hX⟩ : ∃ X, X = dgV (unsg a) := ⟨_, rfl⟩
    obtain ⟨Y, hY⟩ : ∃ Y, Y = dgV b := ⟨_, rfl⟩
    obtain ⟨sg0, hsg⟩ : ∃ s, s = sgB a := ⟨_, rfl⟩
    rw [← hX, ← hY, ← hsg] at HRD hin
    rw [← hX] at hXW r2
    rw [← hY] at hYW r3
    rw [← hsg] at r1
    have HQ1 := Lib.hid r1
    have HQ2 := Lib.hid r2
    have HQ3 := Lib.hid r3
    have HC0 := Lib.hid (show (0 : Int) = 0 from rfl)
    by_cases hlen : 6 < (unsg a).length ∨ 6 < b.length
    · have HR := Lib.hid (hsz hlen)
      rw [← hzu, ← hzb] at hlen
      have HNZ := Lib.hid (show (3 : Int) ≠ 0 by decide)
      clear hsz hin hsmall r1 r2 r3 r4 hcc hc0 hrv hX hY hsg hSa hSb hSU hU hXW hYW hzu hzb hza hua
      by_cases h1 : 6 < SU.size
      · have t1 : decide ((6 : Int) < (SU.size : Int)) = true := decide_eq_true (by omega)
        have t2 : decide (6 < SU.size) = true := decide_eq_true h1
        go_enter Tryz.func82, Tryz.ntmps82
        go_wp2_with fail
        rw [← hW0]
        clear hW0
        go_wp2_with fail
        (with_reducible refine (HRD.out _).mono ?_)
        rintro e w1 ⟨v, rfl, hv0, hv1, hb1⟩
        clear p0 p1 k0 k1 k2 z0 z1 z2 hl0
        obtain ⟨A5, c5, l5, A6, c6, l6, rfl, h5, h6⟩ := hv0 HC0.out
        obtain ⟨W2, hW2⟩ : ∃ W2, W2 = w1.alloc (.cells #[.bool sg0, .slice A5 l5.length c5, .slice A6 l6.length c6] 73) := ⟨_, rfl⟩
        have hb12 : Below w1.heap.size w1 W2 := by rw [hW2]; exact (Below.refl _ w1).alloc (Nat.le_refl _) _
        have HJ2 := Lib.hid (show JF W2 (.agg #[.bool sg0, .slice A5 l5.length c5, .slice A6 l6.length c6]) sg0 X Y from jf_mk (h5.on hb12) (h6.on hb12))
        have HBX := Lib.hid (show W2.heap[w1.heap.size]? = some (.cells #[.bool sg0, .slice A5 l5.length c5, .slice A6 l6.length c6] 73 (0, 0)) by rw [hW2]; exact alloc_at _ _ _ rfl)
        have HB2 := Lib.hid (below_next hb1 hb12)
        obtain ⟨p0, p1, k0, k1, k2, z0, z1, z2, hl0⟩ := HK.out W2 HB2.out
        have o0 := p0
        have o1 := p1
        rw [hW2] at o0 o1
        clear hb1 hv1 h5 h6 hb12
        have g0 : W2.cell? ⟨w1.heap.size, 0, none⟩ = some (.bool sg0) := by rw [cellsAt HBX.out]; rfl
        have g1 : W2.cell? ⟨w1.heap.size, 1, none⟩ = some (.slice A5 l5.length c5) := by rw [cellsAt HBX.out]; rfl
        have g2 : W2.cell? ⟨w1.heap.size, 2, none⟩ = some (.slice A6 l6.length c6) := by rw [cellsAt HBX.out]; rfl
        go_wp2_with fail
        rw [← hW2]
        clear hW2 o0 o1
        (with_reducible refine (HTP.out _).mono ?_)
        rintro e w2 ⟨rfl, hw2⟩
        have hw2' := hw2.symm
        subst hw2'
        go_wp2
        refine bodyPost_ret (v := .tuple #[.agg #[.bool false, .slice none 0 0, .slice none 0 0], .int .i64 3]) (by simp [results, Tryz.results82, go_sem, k0, k1, k2]) rfl (.inl ⟨by rw [HR.out]; exact HNZ.out, by rw [HR.out], HFIN.out _ HB2.out _ _ _⟩)
      · have t1 : decide ((6 : Int) < (SU.size : Int)) = false := decide_eq_false (by omega)
        have t2 : decide (6 < SU.size) = false := decide_eq_false h1
        have t3 : decide ((6 : Int) < (Sb.size : Int)) = true := decide_eq_true (by omega)
        have t4 : decide (6 < Sb.size) = true := decide_eq_true (by omega)
        go_enter Tryz.func82, Tryz.ntmps82
        go_wp2_with fail
        rw [← hW0]
        clear hW0
        go_wp2_with fail
        (with_reducible refine (HRD.out _).mono ?_)
        rintro e w1 ⟨v, rfl, hv0, hv1, hb1⟩
        clear p0 p1 k0 k1 k2 z0 z1 z2 hl0
        obtain ⟨A5, c5, l5, A6, c6, l6, rfl, h5, h6⟩ := hv0 HC0.out
        obtain ⟨W2, hW2⟩ : ∃ W2, W2 = w1.alloc (.cells #[.bool sg0, .slice A5 l5.length c5, .slice A6 l6.length c6] 73) := ⟨_, rfl⟩
        have hb12 : Below w1.heap.size w1 W2 := by rw [hW2]; exact (Below.refl _ w1).alloc (Nat.le_refl _) _
        have HJ2 := Lib.hid (show JF W2 (.agg #[.bool sg0, .slice A5 l5.length c5, .slice A6 l6.length c6]) sg0 X Y from jf_mk (h5.on hb12) (h6.on hb12))
        have HBX := Lib.hid (show W2.heap[w1.heap.size]? = some (.cells #[.bool sg0, .slice A5 l5.length c5, .slice A6 l6.length c6] 73 (0, 0)) by rw [hW2]; exact alloc_at _ _ _ rfl)
        have HB2 := Lib.hid (below_next hb1 hb12)
        obtain ⟨p0, p1, k0, k1, k2, z0, z1, z2, hl0⟩ := HK.out W2 HB2.out
        have o0 := p0
        have o1 := p1
        rw [hW2] at o0 o1
        clear hb1 hv1 h5 h6 hb12
        have g0 : W2.cell? ⟨w1.heap.size, 0, none⟩ = some (.bool sg0) := by rw [cellsAt HBX.out]; rfl
        have g1 : W2.cell? ⟨w1.heap.size, 1, none⟩ = some (.slice A5 l5.length c5) := by rw [cellsAt HBX.out]; rfl
        have g2 : W2.cell? ⟨w1.heap.size, 2, none⟩ = some (.slice A6 l6.length c6) := by rw [cellsAt HBX.out]; rfl
        go_wp2_with fail
        rw [← hW2]
        clear hW2 o0 o1
        (with_reducible refine (HTP.out _).mono ?_)
        rintro e w2 ⟨rfl, hw2⟩
        have hw2' := hw2.symm
        subst hw2'
        go_wp2
        refine bodyPost_ret (v := .tuple #[.agg #[.bool false, .slice none 0 0, .slice none 0 0], .int .i64 3]) (by simp [results, Tryz.results82, go_sem, k0, k1, k2]) rfl (.inl ⟨by rw [HR.out]; exact HNZ.out, by rw [HR.out], HFIN.out _ HB2.out _ _ _⟩)
    · obtain ⟨ib, hib⟩ : ∃ ib, ib = inJ k sg0 X Y := ⟨_, rfl⟩
      have hin := hin hlen
      rw [← hib] at hin
      have HIN := Lib.hid hin
      have HSG := Lib.hid (show ib = true → sg0 = false by
        intro h
        rw [hib] at h
        cases k <;> cases sg0 <;> first | rfl | (simp [inJ] at h))
      rw [← hzu, ← hzb] at hlen
      have t1 : decide ((6 : Int) < (SU.size : Int)) = false := decide_eq_false (by omega)
      have t2 : decide (6 < SU.size) = false := decide_eq_false (by omega)
      have t3 : decide ((6 : Int) < (Sb.size : Int)) = false := decide_eq_false (by omega)
      have t4 : decide (6 < Sb.size) = false := decide_eq_false (by omega)
      have HXW := Lib.hid hXW
      have HYW := Lib.hid hYW
      clear hsz hin hsmall r1 r2 r3 r4 hcc hc0 hrv hX hY hsg hSa hSb hSU hU hXW hYW hlen hzu hzb hza hua
      have HI := Lib.hid (fun W u (h : JF W u sg0 X Y) => RgOk.ok (k := k) (n := n) u sg0 X Y W h HXW.out HYW.out)
      rw [← hib] at HI
      clear hib
      go_enter Tryz.func82, Tryz.ntmps82
      go_wp2_with fail
      rw [← hW0]
      clear hW0
      go_wp2_with fail
      (with_reducible refine (HRD.out _).mono ?_)
      rintro e w1 ⟨v, rfl, hv0, hv1, hb1⟩
      clear p0 p1 k0 k1 k2 z0 z1 z2 hl0
      obtain ⟨A5, c5, l5, A6, c6, l6, rfl, h5, h6⟩ := hv0 HC0.out
      obtain ⟨W2, hW2⟩ : ∃ W2, W2 = w1.alloc (.cells #[.bool sg0, .slice A5 l5.length c5, .slice A6 l6.length c6] 73) := ⟨_, rfl⟩
      have hb12 : Below w1.heap.size w1 W2 := by rw [hW2]; exact (Below.refl _ w1).alloc (Nat.le_refl _) _
      have HJ2 := Lib.hid (show JF W2 (.agg #[.bool sg0, .slice A5 l5.length c5, .slice A6 l6.length c6]) sg0 X Y from jf_mk (h5.on hb12) (h6.on hb12))
      have HBX := Lib.hid (show W2.heap[w1.heap.size]? = some (.cells #[.bool sg0, .slice A5 l5.length c5, .slice A6 l6.length c6] 73 (0, 0)) by rw [hW2]; exact alloc_at _ _ _ rfl)
      have HB2 := Lib.hid (below_next hb1 hb12)
      obtain ⟨p0, p1, k0, k1, k2, z0, z1, z2, hl0⟩ := HK.out W2 HB2.out
      have o0 := p0
      have o1 := p1
      rw [hW2] at o0 o1
      clear hb1 hv1 h5 h6 hb12
      have g0 : W2.cell? ⟨w1.heap.size, 0, none⟩ = some (.bool sg0) := by rw [cellsAt HBX.out]; rfl
      have g1 : W2.cell? ⟨w1.heap.size, 1, none⟩ = some (.slice A5 l5.length c5) := by rw [cellsAt HBX.out]; rfl
      have g2 : W2.cell? ⟨w1.heap.size, 2, none⟩ = some (.slice A6 l6.length c6) := by rw [cellsAt HBX.out]; rfl
      go_wp2_with fail
      rw [← hW2]
      clear hW2 o0 o1
      (with_reducible refine (HTP.out _).mono ?_)
      rintro e w2 ⟨rfl, hw2⟩
      have hw2' := hw2.symm
      subst hw2'
      go_wp2_with fail
      rw [RgOk.run k, Oper.upon_enter]
      (with_reducible refine (HI.out W2 _ HJ2.out).mono ?_)
      rintro e w3 ⟨rfl, hb3⟩
      have HB3 := Lib.hid (below_next HB2.out hb3)
      clear g0 g1 g2
      have hbx3 := (hb3.block _ (heap_lt HBX.out)).trans HBX.out
      have g0 : w3.cell? ⟨w1.heap.size, 0, none⟩ = some (.bool sg0) := by rw [cellsAt hbx3]; rfl
      have g1 : w3.cell? ⟨w1.heap.size, 1, none⟩ = some (.slice A5 l5.length c5) := by rw [cellsAt hbx3]; rfl
      have g2 : w3.cell? ⟨w1.heap.size, 2, none⟩ = some (.slice A6 l6.length c6) := by rw [cellsAt hbx3]; rfl
      clear p0 p1 k0 k1 k2 z0 z1 z2 hl0
      obtain ⟨p0, p1, k0, k1, k2, z0, z1, z2, hl0⟩ := HK.out w3 HB3.out
      have HJ3 := Lib.hid (HJ2.out.on hb3)
      clear hb3 hbx3
      cases ib with
      | false =>
        have HR := Lib.hid (show rv = 9 by rw [HIN.out]; rfl)
        have HNZ := Lib.hid (show (9 : Int) ≠ 0 by decide)
        go_wp2
        refine bodyPost_ret (v := .tuple #[.agg #[.bool false, .slice none 0 0, .slice none 0 0], .int .i64 9]) (by simp [results, Tryz.results82, go_sem, k0, k1, k2]) rfl (.inl ⟨by rw [HR.out]; exact HNZ.out, by rw [HR.out], HFIN.out _ HB3.out _ _ _⟩)
      | true =>
        have HR := Lib.hid (show rv = 0 by rw [HIN.out]; rfl)
        have HJ4 := Lib.hid (jf_ret (HX0.out.on HB3.out) HJ3.out (below_next HST0.out.below HB3.out) (by omega) (fr3 (w := w3) (B := w.heap.size + 1) (.bool sg0) (.slice A5 l5.length c5) (.slice A6 l6.length c6)))
        go_wp2
        refine bodyPost_ret (v := .tuple #[.agg #[.bool sg0, .slice A5 l5.length c5, .slice A6 l6.length c6], .int .i64 0]) (by simp [results, Tryz.results82, go_sem, k0, k1, k2]) rfl (.inr ⟨HR.out, _, rfl, by rw [HQ2.out, HQ3.out]; have e : sg0 = false := (by first | exact HSG.out rfl | exact HSG.out trivial); subst e; exact HJ4.out.1, HJ4.out.2⟩)
  · have HR := Lib.hid (show rv = cc by rw [hrv, hcc]; exact shC_bad (by rw [← hcc]; exact hc0))
    have HNZ := Lib.hid hc0
    have t0 : (cc != 0) = true := by rw [bne_iff_ne]; exact hc0
    clear hrv hcc hSa hSb hSU hU hzu hzb hza hua
    go_enter Tryz.func82, Tryz.ntmps82
    go_wp2_with fail
    rw [← hW0]
    clear hW0
    go_wp2_with fail
    (with_reducible refine (HRD.out _).mono ?_)
    rintro e w1 ⟨v, rfl, hv0, hv1, hb1⟩
    clear p0 p1 k0 k1 k2 z0 z1 z2 hl0
    obtain rfl := hv1 HNZ.out
    obtain ⟨W2, hW2⟩ : ∃ W2, W2 = w1.alloc (.cells #[.bool false, .slice none 0 0, .slice none 0 0] 73) := ⟨_, rfl⟩
    have HB2 := Lib.hid (below_next hb1 (show Below w1.heap.size w1 W2 by rw [hW2]; exact (Below.refl _ w1).alloc (Nat.le_refl _) _))
    obtain ⟨p0, p1, k0, k1, k2, z0, z1, z2, hl0⟩ := HK.out W2 HB2.out
    have o0 := k0
    have o1 := k1
    have o2 := k2
    have o3 := z0
    have o4 := z1
    have o5 := z2
    have o6 := hl0
    rw [hW2] at o0 o1 o2 o3 o4 o5 o6
    clear hb1 hv0
    go_wp2
    rw [← hW2]
    refine bodyPost_ret (v := .tuple #[.agg #[.bool false, .slice none 0 0, .slice none 0 0], .int .i64 cc]) (by simp [results, Tryz.results82, go_sem, k0, k1, k2]) rfl (.inl ⟨by rw [HR.out]; exact HNZ.out, by rw [HR.out], HFIN.out _ HB2.out _ _ _⟩)
theorem jShort_bad (k : Rg) {n : Nat} [RgOk k n] (Sa Sb : ByteArray) (a b : List UInt8) (w : World) (hSa : Sa.data.toList = a) (hSb : Sb.data.toList = b) (ha : Sa.size ≤ 9223372036854775800) (hb : Sb.size ≤ 9223372036854775800) (hc : shC k a b ≠ 0) :
    Calls Tryz.prog 82 #[.agg #[.string Sa, .string Sb], .func (.func n) #[] #[]] w fun e w' => e = .returned (.tuple #[.agg #[.bool false, .slice none 0 0, .slice none 0 0], .int .i64 (shC k a b)]) ∧ Below w.heap.size w w' :=
  (jShort_any k Sa Sb a b w hSa hSb ha hb).mono fun e w' h => by
    rcases h with h | h
    · exact h.2
    · exact absurd h.1 hc
theorem jShort_good (k : Rg) {n : Nat} [RgOk k n] (Sa Sb : ByteArray) (a b : List UInt8) (w : World) (hSa : Sa.data.toList = a) (hSb : Sb.data.toList = b) (ha : Sa.size ≤ 9223372036854775800) (hb : Sb.size ≤ 9223372036854775800) (hc : shC k a b = 0) :
    Calls Tryz.prog 82 #[.agg #[.string Sa, .string Sb], .func (.func n) #[] #[]] w fun e w' => ∃ A1 c1 l1 A2 c2 l2, e = .returned (.tuple #[.agg #[.bool false, .slice A1 (l1 : List Nat).length c1, .slice A2 (l2 : List Nat).length c2], .int .i64 0]) ∧ NatR w' A1 c1 l1 (frN (ratX a b)) ∧ NatR w' A2 c2 l2 (ratX a b).den ∧ Below w.heap.size w w' :=
  (jShort_any k Sa Sb a b w hSa hSb ha hb).mono fun e w' h => by
    rcases h with h | ⟨_, v, rfl, ⟨A1, c1, l1, A2, c2, l2, rfl, h1, h2⟩, hb⟩
    · exact absurd hc h.1
    · exact ⟨A1, c1, l1, A2, c2, l2, rfl, h1, h2, hb⟩
-- a number in a range
set_option maxHeartbeats 8000000 in
set_option maxRecDepth 100000 in
theorem jInside_any (n lo hi : Int) (w : World) :
    Calls Tryz.prog 23 #[.int .i64 n, .int .i64 lo, .int .i64 hi] w fun e w' => e = .returned (.bool (decide (lo ≤ n) && decide (n ≤ hi))) ∧ w = w' := by
  obtain ⟨b1, hb1⟩ : ∃ b1, b1 = decide (lo ≤ n) := ⟨_, rfl⟩
  obtain ⟨b2, hb2⟩ : ∃ b2, b2 = decide (n ≤ hi) := ⟨_, rfl⟩
  rw [← hb1, ← hb2]
  have t1 := hb1.symm
  have t2 := hb2.symm
  clear hb1 hb2
  cases b1 <;> cases b2
  all_goals go_enter Tryz.func23, Tryz.ntmps23
  all_goals go_wp2
  all_goals go_ret
  all_goals exact ⟨by rfl, rfl⟩
end Go.Proofs.YtnpfdelklolchaaGreatDoor
