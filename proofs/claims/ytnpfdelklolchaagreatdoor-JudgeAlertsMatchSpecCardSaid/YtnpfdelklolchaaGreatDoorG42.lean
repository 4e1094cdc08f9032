import Derived.Test.YtnpfdelklolchaaGreatDoorG41
import Derived.Test.YtnpfdelklolchaaGreatDoorG37
import Derived.Test.YtnpfdelklolchaaGreatDoorG32
import Derived.Test.YtnpfdelklolchaaGreatDoorJShort
/- The reference's window (in): the burn of the points in it. -/
namespace Go.Proofs.YtnpfdelklolchaaGreatDoor
open Go Go.RowKit Go.Proofs

theorem all_bd {l : List Pt} (ho : OkPts l) (lo hi : Int) (n : Nat) (hn : n ≤ l.length) : (0 ≤ allS fB l lo hi n ∧ allS fB l lo hi n ≤ 2000000000) ∧ (0 ≤ allS fA l lo hi n ∧ allS fA l lo hi n ≤ 2000000000) := by
  have h1 := allS_bd (lo := lo) (hi := hi) ho.fB n
  have h2 := allS_bd (lo := lo) (hi := hi) ho.fA n
  have := ho.le
  omega
/-- the sums of the window t that ends at the point i -/
def wnB (l : List Pt) (i : Nat) (t : Int) : Int := match l[i]? with | some p => winS fB l (p.1 - t) (i + 1) | none => 0
def wnA (l : List Pt) (i : Nat) (t : Int) : Int := match l[i]? with | some p => winS fA l (p.1 - t) (i + 1) | none => 0
theorem wn_eq {l : List Pt} {i : Nat} {p : Pt} (hp : l[i]? = some p) (t : Int) : wnB l i t = winS fB l (p.1 - t) (i + 1) ∧ wnA l i t = winS fA l (p.1 - t) (i + 1) := by
  unfold wnB wnA; rw [hp]; exact ⟨rfl, rfl⟩
theorem wn_bd {l : List Pt} (ho : OkPts l) (i : Nat) (t : Int) : 0 ≤ wnB l i t ∧ wnB l i t ≤ wnA l i t ∧ wnA l i t ≤ 2000000000 := by
  cases hp : l[i]? with
  | none => unfold wnB wnA; rw [hp]; simp
  | some p =>
    obtain ⟨e1, e2⟩ := wn_eq hp t
    rw [e1, e2]
    have hl := (List.getElem?_eq_some_iff.1 hp).1
    have h1 := win_bd ho (p.1 - t) (i + 1) (by omega)
    have h2 := winS_le (lo := p.1 - t) ho.fBA (i + 1)
    omega
theorem brnAt_wn {g o : Int} {l : List Pt} {i : Nat} {p : Pt} (hp : l[i]? = some p) (t num den : Int) : brnAt g o l i t num den = brnV g o (wnB l i t) (wnA l i t) num den := by
  rw [brnAt_eq hp, (wn_eq hp t).1, (wn_eq hp t).2]
set_option maxHeartbeats 8000000 in
set_option maxRecDepth 100000 in
theorem rIn_any (g o : Int) (A : Option Addr) (c : Nat) (l : List Pt) (i : Nat) (t x : Int) (w : World) (hr : Rd w 0 w.heap.size 3 A l.length (al3 l)) (ho : OkPts l) (hok : OkO g o) (hp : ∃ p, l[i]? = some p ∧ p.1 = x) (t0 : 0 ≤ t) (t1 : t ≤ 1000000000000) :
    Calls Tryz.prog 65 #[.agg #[.int .i64 g, .int .i64 o], .slice A l.length c, .int .i64 x, .int .i64 t] w (FracPost (brnQ g o (wnB l i t) (wnA l i t)) w) := by
  obtain ⟨p, hp, rfl⟩ := hp
  have HR := Lib.hid hr
  have HO := Lib.hid ho
  have hokp := ho.ok i p hp
  have hle := ho.le
  unfold OkPt at hokp
  have HS := Lib.hid (And.intro ((all_eq (f := fB) ho hp (t := t)).trans (wn_eq hp t).1.symm) ((all_eq (f := fA) ho hp (t := t)).trans (wn_eq hp t).2.symm))
  have HW := Lib.hid (wn_bd ho i t)
  obtain ⟨vb, hvb⟩ : ∃ z, z = wnB l i t := ⟨_, rfl⟩
  obtain ⟨va, hva⟩ : ∃ z, z = wnA l i t := ⟨_, rfl⟩
  rw [← hvb, ← hva] at HS HW ⊢
  obtain ⟨x, hx⟩ : ∃ x, x = p.1 := ⟨_, rfl⟩
  rw [← hx] at HS hokp ⊢
  obtain ⟨lo, hlo⟩ : ∃ z, z = x - t := ⟨_, rfl⟩
  rw [← hlo] at HS
  have hw1 : IntKind.i64.wrap (x - t) = lo := by rw [hlo]; exact IntWalk.i64_in _ (by omega)
  obtain ⟨W0, hW0⟩ : ∃ W0, W0 = (w.alloc (.cells #[.int .i64 g, .int .i64 o] 48)).alloc (.cells #[.bool false, .slice none 0 0, .slice none 0 0] 31) := ⟨_, rfl⟩
  have HB := Lib.hid (show Below w.heap.size w W0 by rw [hW0]; exact two_on _ _)
  have HX0 := Lib.hid (show FBox W0 (w.heap.size + 1) by rw [hW0]; exact alloc_at _ _ _ (by simp))
  have HOB := Lib.hid (show W0.heap[w.heap.size]? = some (.cells #[.int .i64 g, .int .i64 o] 48 (0, 0)) by rw [hW0, Below.heap_alloc _ _ _ (by simp)]; exact alloc_at _ _ _ rfl)
  have HBU := Lib.hid (fun W => rburn_any g o vb va W hok HW.out.1 HW.out.2.1 (by have := HW.out.2.2; omega))
  clear hr ho hp hvb hva hx hok
  go_enter Tryz.func65, Tryz.ntmps65
  go_wp2_with fail
  rw [← hW0]
  clear hW0
  go_loopw [9, 10, 11] (fun bv av kv wr => ∃ n : Nat, bv = .int .i64 (allS fB l lo x n) ∧ av = .int .i64 (allS fA l lo x n) ∧ kv = .int .i64 (n : Int) ∧ n ≤ l.length ∧ Below W0.heap.size W0 wr) (fun _ _ kv _ => l.length - (intOf kv).toNat)
  case atStart => exact ⟨0, rfl, rfl, rfl, Nat.zero_le _, Below.refl _ _⟩
  case round =>
    obtain ⟨n, rfl, rfl, rfl, hn, hbw⟩ := hrel
    have HB2 := Lib.hid (below_next HB.out hbw)
    have HB0 := Lib.hid hbw
    clear hbw
    obtain ⟨wk, rfl⟩ : ∃ W : World, W = wr := ⟨_, rfl⟩
    have hbd := all_bd HO.out lo x n hn
    obtain ⟨sb, hsb⟩ : ∃ z, z = allS fB l lo x n := ⟨_, rfl⟩
    obtain ⟨sa, hsa⟩ : ∃ z, z = allS fA l lo x n := ⟨_, rfl⟩
    rw [← hsb, ← hsa] at hbd ⊢
    by_cases hnl : n < l.length
    · obtain ⟨b, o', q, rfl, -, -, hq, r0, r1, r2⟩ := (HR.out.old HB2.out).atP hnl
      have hqk := HO.out.ok n q hq
      unfold OkPt at hqk
      have hnz : (n : Int) < (l.length : Int) := by omega
      have hs3 : IntKind.i64.wrap ((n : Int) + 1) = (n : Int) + 1 := IntWalk.i64_in _ (by omega)
      by_cases hin : lo < q.1 ∧ q.1 ≤ x
      · have HI := Lib.hid (And.intro ((allS_in (f := fB) hq hin).trans (by rw [← hsb]; rfl : _ = sb + q.2.2)) ((allS_in (f := fA) hq hin).trans (by rw [← hsa]; rfl : _ = sa + q.2.1)))
        obtain ⟨h1, h2⟩ := hin
        have hs1 : IntKind.i64.wrap (sb + q.2.2) = sb + q.2.2 := IntWalk.i64_in _ (by omega)
        have hs2 : IntKind.i64.wrap (sa + q.2.1) = sa + q.2.1 := IntWalk.i64_in _ (by omega)
        clear hsb hsa
        go_wp2_with fail
        go_roundw
        case rel => exact ⟨n + 1, by rw [HI.out.1], by rw [HI.out.2], by go_num, by omega, HB0.out⟩
        case measure => simp [intOf]; omega
      · have HI := Lib.hid (And.intro ((allS_out (f := fB) hq hin).trans hsb.symm) ((allS_out (f := fA) hq hin).trans hsa.symm))
        clear hsb hsa
        by_cases h1 : lo < q.1
        · have h2 : ¬ q.1 ≤ x := fun h => hin ⟨h1, h⟩
          clear hin
          go_wp2_with fail
          go_roundw
          case rel => exact ⟨n + 1, by rw [HI.out.1], by rw [HI.out.2], by go_num, by omega, HB0.out⟩
          case measure => simp [intOf]; omega
        · clear hin
          go_wp2_with fail
          go_roundw
          case rel => exact ⟨n + 1, by rw [HI.out.1], by rw [HI.out.2], by go_num, by omega, HB0.out⟩
          case measure => simp [intOf]; omega
    · obtain rfl : n = l.length := by omega
      obtain rfl : sb = vb := hsb.trans HS.out.1
      obtain rfl : sa = va := hsa.trans HS.out.2
      clear hsb hsa
      have hnz : ¬ ((l.length : Nat) : Int) < (l.length : Int) := by omega
      have ho1 := (HB0.out.block _ (heap_lt HOB.out)).trans HOB.out
      have k0 : wk.cell? ⟨w.heap.size, 0, none⟩ = some (.int .i64 g) := by rw [cellsAt ho1]; rfl
      have k1 : wk.cell? ⟨w.heap.size, 1, none⟩ = some (.int .i64 o) := by rw [cellsAt ho1]; rfl
      clear ho1
      go_wp2_with fail
      (with_reducible refine (HBU.out wk).mono ?_)
      rintro e w4 ⟨v4, rfl, hv4, hb4⟩
      obtain ⟨b7, E1, n1, o1, E2, n2, o2, rfl⟩ := hv4.shape
      have hfb := (HX0.out.on HB0.out).on hb4
      clear k0 k1
      obtain ⟨k0, k1, k2, s0, s1, s2, hlt⟩ := hfb.facts
      have HFN := Lib.hid (fq_ret hfb hv4 (below_next HB2.out hb4) (by omega) (fr3 (w := w4) (B := w.heap.size + 1) (.bool b7) (.slice E1 o1.length n1) (.slice E2 o2.length n2)))
      clear hv4 hfb hb4
      go_wp2
      refine bodyPost_ret (v := .agg #[.bool b7, .slice E1 o1.length n1, .slice E2 o2.length n2]) (by simp [results, Tryz.results65, go_sem, k0, k1, k2]) rfl ⟨_, rfl, HFN.out.1, HFN.out.2⟩
end Go.Proofs.YtnpfdelklolchaaGreatDoor

/- judge.burns. -/
namespace Go.Proofs.YtnpfdelklolchaaGreatDoor
open Go Go.RowKit Go.Proofs

theorem brnV_nat {no ng nb na nu de a b : Nat} (hg : ng ≤ no) (ha : a = nb * no) (hb : b = na * (no - ng)) (hn : na ≠ 0) : brnV (ng : Int) (no : Int) (nb : Int) (na : Int) (nu : Int) (de : Int) = decide (b * nu ≤ a * de) := by
  unfold brnV
  rw [if_neg (by omega), decide_eq_decide]
  have e1 : (na : Int) * ((no : Int) - (ng : Int)) * (nu : Int) = ((b * nu : Nat) : Int) := by rw [hb, Int.natCast_mul, Int.natCast_mul, Int.ofNat_sub hg]
  have e2 : (nb : Int) * (no : Int) * (de : Int) = ((a * de : Nat) : Int) := by rw [ha, Int.natCast_mul, Int.natCast_mul]
  rw [e1, e2]
  omega
set_option maxHeartbeats 8000000 in
set_option maxRecDepth 100000 in
theorem jBurns_any (g o : Int) (A : Option Addr) (c : Nat) (l : List Pt) (i : Nat) (t : Int) (r : Ru) (w : World) (hr : Rd w 0 w.heap.size 3 A l.length (al3 l)) (ho : OkPts l) (hok : OkO g o) (hp : ∃ p, l[i]? = some p) (t0 : 0 ≤ t) (t1 : t ≤ 1000000000000) (hru : OkRu r) :
    Calls Tryz.prog 61 #[.agg #[.int .i64 g, .int .i64 o], .slice A l.length c, .int .i64 (i : Int), .int .i64 t, .agg #[.int .i64 r.1, .int .i64 r.2.1, .int .i64 r.2.2.1, .int .i64 r.2.2.2]] w fun e w' => e = .returned (.bool (brnAt g o l i t r.2.2.1 r.2.2.2)) ∧ Below w.heap.size w w' := by
  obtain ⟨p, hp⟩ := hp
  obtain ⟨rs, rl, rn, rd⟩ := r
  obtain ⟨g0, g1, g2⟩ : 0 ≤ g ∧ g < o ∧ o ≤ 1000000 := hok
  obtain ⟨-, -, -, n0, n1, d0, d1⟩ := hru
  simp only at n0 n1 d0 d1
  obtain ⟨W0, hW0⟩ : ∃ W0, W0 = (w.alloc (.cells #[.int .i64 g, .int .i64 o] 48)).alloc (.cells #[.int .i64 rs, .int .i64 rl, .int .i64 rn, .int .i64 rd] 99) := ⟨_, rfl⟩
  have HB := Lib.hid (show Below w.heap.size w W0 by rw [hW0]; exact two_on _ _)
  have HWI := Lib.hid (jWindow_any A c l i t p W0 (hr.old HB.out) ho hp t0 t1)
  rw [← (wn_eq hp t).1, ← (wn_eq hp t).2] at HWI
  have HV := Lib.hid (brnAt_wn hp (g := g) (o := o) t rn rd)
  have hwb := wn_bd ho i t
  obtain ⟨vb, hvb⟩ : ∃ z, z = wnB l i t := ⟨_, rfl⟩
  obtain ⟨va, hva⟩ : ∃ z, z = wnA l i t := ⟨_, rfl⟩
  rw [← hvb, ← hva] at HWI HV hwb
  obtain ⟨cv, hcv⟩ : ∃ z, z = brnAt g o l i t rn rd := ⟨_, rfl⟩
  simp only
  rw [← hcv] at HV ⊢
  have HX := Lib.hid (show W0.heap[w.heap.size]? = some (.cells #[.int .i64 g, .int .i64 o] 48 (0, 0)) by rw [hW0, Below.heap_alloc _ _ _ (by simp)]; exact alloc_at _ _ _ rfl)
  have HY := Lib.hid (show W0.heap[w.heap.size + 1]? = some (.cells #[.int .i64 rs, .int .i64 rl, .int .i64 rn, .int .i64 rd] 99 (0, 0)) by rw [hW0]; exact alloc_at _ _ _ (by simp))
  clear hr ho hp hvb hva hcv
  obtain ⟨nb, rfl⟩ : ∃ z : Nat, vb = (z : Int) := ⟨vb.toNat, by omega⟩
  obtain ⟨na, rfl⟩ : ∃ z : Nat, va = (z : Int) := ⟨va.toNat, by omega⟩
  obtain ⟨ng, rfl⟩ : ∃ z : Nat, g = (z : Int) := ⟨g.toNat, by omega⟩
  obtain ⟨no, rfl⟩ : ∃ z : Nat, o = (z : Int) := ⟨o.toNat, by omega⟩
  obtain ⟨nu, rfl⟩ : ∃ z : Nat, rn = (z : Int) := ⟨rn.toNat, by omega⟩
  obtain ⟨de, rfl⟩ : ∃ z : Nat, rd = (z : Int) := ⟨rd.toNat, by omega⟩
  obtain ⟨a, ha⟩ : ∃ z, z = nb * no := ⟨_, rfl⟩
  obtain ⟨b, hb⟩ : ∃ z, z = na * (no - ng) := ⟨_, rfl⟩
  have ha1 : a ≤ 2000000000 * 1000000 := by rw [ha]; exact Nat.mul_le_mul (by omega) (by omega)
  have hb1 : b ≤ 2000000000 * 1000000 := by rw [hb]; exact Nat.mul_le_mul (by omega) (by omega)
  have hm1 : IntKind.i64.wrap ((nb : Int) * (no : Int)) = (a : Int) := by rw [ha, Int.natCast_mul]; exact IntWalk.i64_in _ (by rw [← Int.natCast_mul, ← ha]; omega)
  have hm2 : IntKind.i64.wrap ((no : Int) - (ng : Int)) = (no : Int) - (ng : Int) := IntWalk.i64_in _ (by omega)
  have hm3 : IntKind.i64.wrap ((na : Int) * ((no : Int) - (ng : Int))) = (b : Int) := by rw [hb, Int.natCast_mul, Int.ofNat_sub (by omega)]; exact IntWalk.i64_in _ (by rw [← Int.ofNat_sub (show ng ≤ no by omega), ← Int.natCast_mul, ← hb]; omega)
  have hgo : ng ≤ no := by omega
  by_cases hz : na = 0
  · subst hz
    have HV2 := Lib.hid (show cv = decide ((nu : Int) = 0) by rw [HV.out]; unfold brnV; exact if_pos rfl)
    clear ha hb hm1 hm2 hm3
    go_enter Tryz.func61, Tryz.ntmps61
    go_wp2_with fail
    rw [← hW0]
    clear hW0
    (with_reducible refine (HWI.out).mono ?_)
    rintro e w1 ⟨rfl, hb1⟩
    have HB1 := Lib.hid (below_next HB.out hb1)
    have hy1 := (hb1.block _ (heap_lt HY.out)).trans HY.out
    have k0 : w1.cell? ⟨w.heap.size + 1, 2, none⟩ = some (.int .i64 (nu : Int)) := by rw [cellsAt hy1]; rfl
    clear hb1 hy1
    by_cases hn : nu = 0
    · subst hn
      have HV3 := Lib.hid (show cv = true by rw [HV2.out]; rfl)
      go_wp2
      go_ret
      exact ⟨by rw [HV3.out]; rfl, HB1.out⟩
    · have hnz : ((nu : Int) == 0) = false := by rw [beq_eq_false_iff_ne]; omega
      have HV3 := Lib.hid (show cv = false by rw [HV2.out]; exact decide_eq_false (by omega))
      go_wp2
      go_ret
      exact ⟨by rw [HV3.out]; first | rfl | simp [hn], HB1.out⟩
  · have hzz : ((na : Int) == 0) = false := by rw [beq_eq_false_iff_ne]; omega
    have hzn : ¬ (na : Int) = 0 := by omega
    have HV2 := Lib.hid (show cv = decide (b * nu ≤ a * de) by rw [HV.out]; exact brnV_nat hgo ha hb hz)
    have HAT := Lib.hid (fun W => jAtLeast_any a de b nu W (by omega) (by omega) (by omega) (by omega))
    rw [← HV2.out] at HAT
    clear ha hb
    go_enter Tryz.func61, Tryz.ntmps61
    go_wp2_with fail
    rw [← hW0]
    clear hW0
    (with_reducible refine (HWI.out).mono ?_)
    rintro e w1 ⟨rfl, hb1⟩
    have HB1 := Lib.hid (below_next HB.out hb1)
    have hy1 := (hb1.block _ (heap_lt HY.out)).trans HY.out
    have hx1 := (hb1.block _ (heap_lt HX.out)).trans HX.out
    have k0 : w1.cell? ⟨w.heap.size + 1, 2, none⟩ = some (.int .i64 (nu : Int)) := by rw [cellsAt hy1]; rfl
    have k1 : w1.cell? ⟨w.heap.size + 1, 3, none⟩ = some (.int .i64 (de : Int)) := by rw [cellsAt hy1]; rfl
    have k2 : w1.cell? ⟨w.heap.size, 0, none⟩ = some (.int .i64 (ng : Int)) := by rw [cellsAt hx1]; rfl
    have k3 : w1.cell? ⟨w.heap.size, 1, none⟩ = some (.int .i64 (no : Int)) := by rw [cellsAt hx1]; rfl
    clear hb1 hy1 hx1
    go_wp2_with fail
    (with_reducible refine (HAT.out w1).mono ?_)
    rintro e w2 ⟨rfl, rfl⟩
    go_wp2
    go_ret
    exact ⟨by rfl, HB1.out⟩
end Go.Proofs.YtnpfdelklolchaaGreatDoor

/- judge.checkAlerts. -/
namespace Go.Proofs.YtnpfdelklolchaaGreatDoor
open Go Go.RowKit Go.Proofs

theorem codeA_pt {l : List Pt} {rs : List Ru} (h : codeP l ≠ 0) : codeA l rs = codeP l := by unfold codeA; rw [if_pos h]
theorem codeA_ru {l : List Pt} {rs : List Ru} (h : codeP l = 0) : codeA l rs = codeR rs := by unfold codeA; rw [if_neg (fun h2 => h2 h)]
theorem codeP_eq {l : List Pt} (h : ¬ 2000 < l.length) : codeP l = cdPt l (l.length - 0) 0 := by unfold codeP; rw [if_neg h, Nat.sub_zero]
theorem codeR_eq {l : List Ru} (h : ¬ 10 < l.length) : codeR l = cdRu l (l.length - 0) 0 := by unfold codeR; rw [if_neg h, Nat.sub_zero]
set_option maxHeartbeats 8000000 in
set_option maxRecDepth 100000 in
theorem jChkAl_any (A B : Option Addr) (c d : Nat) (l : List Pt) (rs : List Ru) (w : World) (hr : Rd w 0 w.heap.size 3 A l.length (al3 l)) (hr2 : Rd w 0 w.heap.size 4 B rs.length (ru4 rs)) (hl : l.length ≤ 9223372036854775807) (hl2 : rs.length ≤ 9223372036854775807) :
    Calls Tryz.prog 60 #[.slice A l.length c, .slice B rs.length d] w fun e w' => e = .returned (.int .i64 (codeA l rs)) ∧ Below w.heap.size w w' := by
  have HR := Lib.hid hr
  have HR2 := Lib.hid hr2
  have HCP := Lib.hid (codeA_pt (l := l) (rs := rs))
  have HCR := Lib.hid (codeA_ru (l := l) (rs := rs))
  obtain ⟨V, hV⟩ : ∃ V, V = codeA l rs := ⟨_, rfl⟩
  rw [← hV] at HCP HCR ⊢
  clear hr hr2 hV
  by_cases h0 : 2000 < l.length
  · have h0z : (2000 : Int) < (l.length : Int) := by omega
    have HV := Lib.hid (show V = 3 by
      have e : codeP l = 3 := by unfold codeP; rw [if_pos h0]
      rw [HCP.out (by rw [e]; decide), e])
    go_enter Tryz.func60, Tryz.ntmps60
    go_wp2
    go_ret
    exact ⟨by rw [HV.out]; rfl, Below.refl _ _⟩
  · have h0z : ¬ (2000 : Int) < (l.length : Int) := by omega
    have HP0 := Lib.hid (codeP_eq h0)
    go_enter Tryz.func60, Tryz.ntmps60
    go_wp2
    go_loopw [5, 14] (fun _ kv wr => ∃ k : Nat, kv = .int .i64 (k : Int) ∧ k ≤ l.length ∧ cdPt l (l.length - k) k = codeP l ∧ Below w.heap.size w wr) (fun _ kv _ => l.length - (intOf kv).toNat)
    case atStart => exact ⟨0, rfl, Nat.zero_le _, HP0.out.symm, Below.refl _ _⟩
    case round =>
      obtain ⟨k, rfl, hk, hcd, hbw⟩ := hrel
      obtain ⟨wk, rfl⟩ : ∃ W : World, W = wr := ⟨_, rfl⟩
      have HCD := Lib.hid hcd
      have HBW := Lib.hid hbw
      have hsz := hbw.size
      clear hcd hbw
      by_cases hlt : k < l.length
      · obtain ⟨b, o, q, rfl, -, hb1, hq, r0, r1, r2⟩ := (HR.out.old HBW.out).atP hlt
        have HQ := Lib.hid hq
        have hkz : (k : Int) < (l.length : Int) := by omega
        have HB2 := Lib.hid (show Below w.heap.size w (wk.alloc (.cells #[.int .i64 q.1, .int .i64 q.2.1, .int .i64 q.2.2] 101)) from HBW.out.alloc hsz _)
        have HI := Lib.hid (fun W => jInside_any q.1 0 1000000000000 W)
        have HBAD := Lib.hid (fun h => show V = 9 by
          have e : codeP l = 9 := by rw [← HCD.out]; exact cdPt_bad HQ.out h
          rw [HCP.out (by rw [e]; decide), e])
        by_cases hin : 0 ≤ q.1 ∧ q.1 ≤ 1000000000000
        · obtain ⟨i0, i1⟩ := hin
          rw [show (decide (0 ≤ q.1) && decide (q.1 ≤ 1000000000000)) = true by simp [i0, i1]] at HI
          by_cases hok : OkPt q
          · have HOK := Lib.hid hok
            obtain ⟨-, -, p0, p1, p2⟩ := hok
            have p0' : ¬ q.2.2 < 0 := by omega
            have p1' : ¬ q.2.1 < q.2.2 := by omega
            have p2' : ¬ (1000000 : Int) < q.2.1 := by omega
            by_cases hk0 : k = 0
            · subst hk0
              simp only [Nat.zero_mul, Nat.add_zero, Nat.zero_add] at r0 r1 r2
              have HN := Lib.hid (cdPt_next HQ.out HOK.out (by omega))
              clear hq
              go_wp2_with fail
              (with_reducible refine (HI.out _).mono ?_)
              rintro e w1 ⟨rfl, hw1⟩
              have hw1' := hw1.symm
              subst hw1'
              go_wp2_with fail
              go_quiet (fail)
              go_wp2
              go_roundw
              case rel => exact ⟨1, by go_num, by omega, HN.out.trans HCD.out, below_drewN HB2.out _⟩
              case measure => simp [intOf]; omega
            · obtain ⟨j, rfl⟩ : ∃ j, k = j + 1 := ⟨k - 1, by omega⟩
              have hj0 : (0 : Int) < ((j + 1 : Nat) : Int) := by omega
              obtain ⟨b', o', z, e1, -, hb1', hz, z0, -, -⟩ := (HR.out.old HBW.out).atP (show j < l.length by omega)
              simp only [Option.some.injEq, Addr.mk.injEq, and_true] at e1
              obtain ⟨rfl, rfl⟩ := e1
              have hpv : prevP l (j + 1) = z.1 := by unfold prevP; rw [show j + 1 - 1 = j by omega, hz]
              have hj1 : IntKind.i64.wrap (((j + 1 : Nat) : Int) - 1) = (j : Int) := by rw [IntWalk.i64_in _ (by omega)]; omega
              have hjl : (j : Int) < (l.length : Int) := by omega
              have hjz : (0 : Int) ≤ (j : Int) := by omega
              have zz : ∀ ob, (wk.alloc ob).cell? ⟨b, o + j * 3, none⟩ = some (.int .i64 z.1) := fun ob => by rw [World.cell?_alloc_lt wk ob _ hb1']; exact z0
              have hz3 := zz (.cells #[.int .i64 q.1, .int .i64 q.2.1, .int .i64 q.2.2] 101)
              by_cases hord : q.1 ≤ z.1
              · have HV := Lib.hid (show V = 10 by
                  have e : codeP l = 10 := by rw [← HCD.out]; exact cdPt_ord HQ.out HOK.out ⟨by omega, by rw [hpv]; exact hord⟩
                  rw [HCP.out (by rw [e]; decide), e])
                clear hq hz hpv zz
                go_wp2_with fail
                (with_reducible refine (HI.out _).mono ?_)
                rintro e w1 ⟨rfl, hw1⟩
                have hw1' := hw1.symm
                subst hw1'
                go_wp2_with fail
                go_quiet (fail)
                go_wp2
                go_ret
                exact ⟨by rw [HV.out]; rfl, below_drewN HB2.out _⟩
              · have HN := Lib.hid (cdPt_next HQ.out HOK.out (by rw [hpv]; omega))
                clear hq hz hpv zz
                go_wp2_with fail
                (with_reducible refine (HI.out _).mono ?_)
                rintro e w1 ⟨rfl, hw1⟩
                have hw1' := hw1.symm
                subst hw1'
                go_wp2_with fail
                go_quiet (fail)
                go_wp2
                go_roundw
                case rel => exact ⟨j + 1 + 1, by go_num, by omega, HN.out.trans HCD.out, below_drewN HB2.out _⟩
                case measure => simp [intOf]; omega
          · have HV := Lib.hid (HBAD.out hok)
            have HNK := Lib.hid hok
            clear hq hok
            go_wp2_with fail
            (with_reducible refine (HI.out _).mono ?_)
            rintro e w1 ⟨rfl, hw1⟩
            have hw1' := hw1.symm
            subst hw1'
            by_cases p0 : q.2.2 < 0
            · go_wp2
              go_ret
              exact ⟨by rw [HV.out]; rfl, HB2.out⟩
            · by_cases p1 : q.2.1 < q.2.2
              · go_wp2
                go_ret
                exact ⟨by rw [HV.out]; rfl, HB2.out⟩
              · by_cases p2 : (1000000 : Int) < q.2.1
                · go_wp2
                  go_ret
                  exact ⟨by rw [HV.out]; rfl, HB2.out⟩
                · exact absurd (show OkPt q from ⟨i0, i1, by omega, by omega, by omega⟩) HNK.out
        · have HV := Lib.hid (HBAD.out (fun h => hin ⟨h.1, h.2.1⟩))
          rw [show (decide (0 ≤ q.1) && decide (q.1 ≤ 1000000000000)) = false by simp; omega] at HI
          clear hq hin
          go_wp2_with fail
          (with_reducible refine (HI.out _).mono ?_)
          rintro e w1 ⟨rfl, hw1⟩
          have hw1' := hw1.symm
          subst hw1'
          go_wp2
          go_ret
          exact ⟨by rw [HV.out]; rfl, HB2.out⟩
      · obtain rfl : k = l.length := by omega
        have HCZ := Lib.hid (show codeP l = 0 by rw [← HCD.out]; exact cdPt_end l)
        have HCR2 := Lib.hid (HCR.out HCZ.out)
        have hkz : ¬ ((l.length : Nat) : Int) < (l.length : Int) := by omega
        by_cases h1 : 10 < rs.length
        · have h1z : (10 : Int) < (rs.length : Int) := by omega
          have HV := Lib.hid (show V = 3 by
            rw [HCR2.out]; unfold codeR; rw [if_pos h1])
          go_wp2
          go_ret
          exact ⟨by rw [HV.out]; rfl, HBW.out⟩
        · have h1z : ¬ (10 : Int) < (rs.length : Int) := by omega
          have HR0 := Lib.hid (codeR_eq h1)
          go_wp2_with fail
          go_loopw [61] (fun jv wr => ∃ j : Nat, jv = .int .i64 (j : Int) ∧ j ≤ rs.length ∧ cdRu rs (rs.length - j) j = codeR rs ∧ Below w.heap.size w wr) (fun jv _ => rs.length - (intOf jv).toNat)
          case atStart => exact ⟨0, rfl, Nat.zero_le _, HR0.out.symm, HBW.out⟩
          case round =>
            obtain ⟨j, rfl, hj, hcd, hbw⟩ := hrel
            obtain ⟨wj, rfl⟩ : ∃ W : World, W = wr := ⟨_, rfl⟩
            have HRD := Lib.hid hcd
            have HBX := Lib.hid hbw
            have hsz2 := hbw.size
            clear hcd hbw
            by_cases hlt2 : j < rs.length
            · obtain ⟨b2, o2, r, rfl, -, hb2, hr, t0, t1, t2, t3⟩ := (HR2.out.old HBX.out).atR hlt2
              have HRR := Lib.hid hr
              have hjz : (j : Int) < (rs.length : Int) := by omega
              have HB3 := Lib.hid (show Below w.heap.size w (wj.alloc (.cells #[.int .i64 r.1, .int .i64 r.2.1, .int .i64 r.2.2.1, .int .i64 r.2.2.2] 99)) from HBX.out.alloc hsz2 _)
              have HBAD2 := Lib.hid (fun h => show V = 9 by
                have e : codeR rs = 9 := by rw [← HRD.out]; exact cdRu_bad HRR.out h
                rw [HCR2.out, e])
              have HI1 := Lib.hid (fun W => jInside_any r.2.2.1 0 1000000 W)
              have HI2 := Lib.hid (fun W => jInside_any r.2.2.2 1 1000000 W)
              clear hr
              by_cases s0 : r.1 < 1
              · have HV := Lib.hid (HBAD2.out (fun h => by have := h.1; omega))
                go_wp2
                go_ret
                exact ⟨by rw [HV.out]; rfl, HB3.out⟩
              · by_cases s1 : r.2.1 < r.1
                · have HV := Lib.hid (HBAD2.out (fun h => by have := h.2.1; omega))
                  go_wp2
                  go_ret
                  exact ⟨by rw [HV.out]; rfl, HB3.out⟩
                · by_cases s2 : (1000000000000 : Int) < r.2.1
                  · have HV := Lib.hid (HBAD2.out (fun h => by have := h.2.2.1; omega))
                    go_wp2
                    go_ret
                    exact ⟨by rw [HV.out]; rfl, HB3.out⟩
                  · by_cases s3 : 0 ≤ r.2.2.1 ∧ r.2.2.1 ≤ 1000000
                    · rw [show (decide (0 ≤ r.2.2.1) && decide (r.2.2.1 ≤ 1000000)) = true by simp [s3.1, s3.2]] at HI1
                      by_cases s4 : 1 ≤ r.2.2.2 ∧ r.2.2.2 ≤ 1000000
                      · rw [show (decide (1 ≤ r.2.2.2) && decide (r.2.2.2 ≤ 1000000)) = true by simp [s4.1, s4.2]] at HI2
                        have HN := Lib.hid (cdRu_next HRR.out ⟨by omega, by omega, by omega, s3.1, s3.2, s4.1, s4.2⟩)
                        go_wp2_with fail
                        (with_reducible refine (HI1.out _).mono ?_)
                        rintro e w1 ⟨rfl, hw1⟩
                        have hw1' := hw1.symm
                        subst hw1'
                        go_wp2_with fail
                        (with_reducible refine (HI2.out _).mono ?_)
                        rintro e w1 ⟨rfl, hw1⟩
                        have hw1' := hw1.symm
                        subst hw1'
                        go_wp2
                        go_roundw
                        case rel => exact ⟨j + 1, by go_num, by omega, HN.out.trans HRD.out, HB3.out⟩
                        case measure => simp [intOf]; omega
                      · have HV := Lib.hid (HBAD2.out (fun h => s4 h.2.2.2.2.2))
                        rw [show (decide (1 ≤ r.2.2.2) && decide (r.2.2.2 ≤ 1000000)) = false by simp; omega] at HI2
                        go_wp2_with fail
                        (with_reducible refine (HI1.out _).mono ?_)
                        rintro e w1 ⟨rfl, hw1⟩
                        have hw1' := hw1.symm
                        subst hw1'
                        go_wp2_with fail
                        (with_reducible refine (HI2.out _).mono ?_)
                        rintro e w1 ⟨rfl, hw1⟩
                        have hw1' := hw1.symm
                        subst hw1'
                        go_wp2
                        go_ret
                        exact ⟨by rw [HV.out]; rfl, HB3.out⟩
                    · have HV := Lib.hid (HBAD2.out (fun h => s3 ⟨h.2.2.2.1, h.2.2.2.2.1⟩))
                      rw [show (decide (0 ≤ r.2.2.1) && decide (r.2.2.1 ≤ 1000000)) = false by simp; omega] at HI1
                      go_wp2_with fail
                      (with_reducible refine (HI1.out _).mono ?_)
                      rintro e w1 ⟨rfl, hw1⟩
                      have hw1' := hw1.symm
                      subst hw1'
                      go_wp2
                      go_ret
                      exact ⟨by rw [HV.out]; rfl, HB3.out⟩
            · obtain rfl : j = rs.length := by omega
              have HV := Lib.hid (show V = 0 by rw [HCR2.out, ← HRD.out]; exact cdRu_end rs)
              have hjz : ¬ ((rs.length : Nat) : Int) < (rs.length : Int) := by omega
              go_wp2
              go_ret
              exact ⟨by rw [HV.out]; rfl, HBX.out⟩
end Go.Proofs.YtnpfdelklolchaaGreatDoor
