/- Package judge: the line that is nearest to points. Printed by gen_jline.py. -/
import Derived.Test.YtpmnhdgajkickaaGreatDoorJPts
import Derived.Test.YtpmnhdgajkickaaGreatDoorL1
import Derived.Test.YtpmnhdgajkickaaGreatDoorL0
import Derived.Test.YtpmnhdgajkickaaGreatDoorL2
import Derived.Test.YtpmnhdgajkickaaGreatDoorJRatio
import Derived.Test.YtpmnhdgajkickaaGreatDoorTx
namespace Go.Proofs.YtpmnhdgajkickaaGreatDoor
open Go Go.RowKit Go.Proofs

set_option maxHeartbeats 8000000 in
set_option maxRecDepth 100000 in
theorem jLine_any (A B : Option Addr) (ca cb : Nat) (xs ys : List Int) (w : World) (hr1 : Rd w 0 w.heap.size 1 A xs.length (ints xs)) (hr2 : Rd w 0 w.heap.size 1 B ys.length (ints ys)) (htab : Tab w.heap.size w) :
    Calls Tryz.prog 25 #[.slice A xs.length ca, .slice B ys.length cb] w fun e w' => e = .returned (.tuple #[ratOf (lnA xs ys), ratOf (lnB xs ys), .int .i64 (lnC xs ys)]) ∧ Below w.heap.size w w' := by
  obtain ⟨W0, hW0⟩ : ∃ W0, W0 = (w.alloc (.cells #[.string ⟨#[]⟩, .string ⟨#[]⟩] 23)).alloc (.cells #[.string ⟨#[]⟩, .string ⟨#[]⟩] 23) := ⟨_, rfl⟩
  have HST0 := Lib.hid (show St w W0 [(w.heap.size, .cells #[.string ⟨#[]⟩, .string ⟨#[]⟩] 23 (0, 0)), (w.heap.size + 1, .cells #[.string ⟨#[]⟩, .string ⟨#[]⟩] 23 (0, 0))] by rw [hW0]; exact ((St.start w).alloc _ _ rfl).alloc _ _ (by simp))
  have HSL := Lib.hid (show Txt2 W0 w.heap.size ⟨#[]⟩ ⟨#[]⟩ from HST0.out.at 0 rfl)
  have HOF := Lib.hid (show Txt2 W0 (w.heap.size + 1) ⟨#[]⟩ ⟨#[]⟩ from HST0.out.at 1 rfl)
  have HR1 := Lib.hid (fun W (hW : Below w.heap.size w W) => hr1.old hW)
  have HR2 := Lib.hid (fun W (hW : Below w.heap.size w W) => hr2.old hW)
  have HCK := Lib.hid (jChkPts_any A B ca cb xs ys W0 (hr1.old HST0.out.below) (hr2.old HST0.out.below))
  have hs0 : W0.heap.size = w.heap.size + 1 + 1 := by rw [hW0]; simp
  by_cases hp : ptC xs ys = 0
  · obtain ⟨hl, hn, hok⟩ := ptC_ok hp
    have hA := lnC_a hp
    have hB := lnC_b hp
    have hX := lnC_xx hp
    have hbad := ln_bad (xs := xs) (ys := ys)
    have hgood := ln_good (xs := xs) (ys := ys)
    obtain ⟨l, hlz⟩ : ∃ l, l = xs.zip ys := ⟨_, rfl⟩
    rw [← hlz] at hok hA hB hX hgood
    have hll : l.length = xs.length := by rw [hlz, List.length_zip]; omega
    have hget : ∀ k x y, xs[k]? = some x → ys[k]? = some y → l[k]? = some (x, y) := fun k x y h1 h2 => by rw [hlz]; exact zip_get h1 h2
    have hbd := bndP hok (by omega)
    rw [hp] at HCK
    obtain ⟨LC, hLC⟩ : ∃ z, z = lnC xs ys := ⟨_, rfl⟩
    obtain ⟨LA, hLA⟩ : ∃ z, z = lnA xs ys := ⟨_, rfl⟩
    obtain ⟨LB, hLB⟩ : ∃ z, z = lnB xs ys := ⟨_, rfl⟩
    rw [← hLC] at hA hB hX hbad hgood
    rw [← hLA, ← hLB] at hbad hgood
    rw [← hLC, ← hLA, ← hLB]
    have HLL := Lib.hid hll
    have HLY := Lib.hid hl
    have HNX := Lib.hid (show ∀ k x y v0 v1 v2 v3 v4 v5, xs[k]? = some x → ys[k]? = some y → MomIs (l.take k) v0 v1 v2 v3 v4 v5 → _ from fun k x y v0 v1 v2 v3 v4 v5 h1 h2 hm => jMomNext hok (by omega) (hget k x y h1 h2) hm)
    have HSPR := Lib.hid (fun v0 v1 v2 v3 v4 v5 (hm : MomIs l v0 v1 v2 v3 v4 v5) W => jMomSpr hbd hm W)
    obtain ⟨⟨q1, q2⟩, ⟨q3, q4⟩, -, -⟩ := hbd.spr
    have q5 := vXX_len (l := l)
    have HBD := Lib.hid hbd
    rw [← hl]
    rw [← hl] at HCK
    obtain ⟨n, hnn⟩ : ∃ n, n = xs.length := ⟨_, rfl⟩
    have HN := Lib.hid hnn
    rw [← hnn] at HCK hn ⊢
    have HTB := Lib.hid (fun W (hW : Below w.heap.size w W) => (htab.on hW).mono hW.size)
    clear hr1 hr2 htab hp hl hok hlz hll hget hbd hLC hLA hLB hnn
    go_enter Tryz.func25, Tryz.ntmps25
    go_wp2_with fail
    rw [← hW0]
    clear hW0
    (with_reducible refine (HCK.out).mono ?_)
    rintro e w1 ⟨rfl, hb1⟩
    have HB1 := Lib.hid hb1
    clear hb1
    obtain ⟨W2, hW2⟩ : ∃ W2, W2 = w1.alloc (.cells #[.int .i64 0, .int .i64 0, .int .i64 0, .int .i64 0, .int .i64 0, .int .i64 0] 89) := ⟨_, rfl⟩
    have HM2 := Lib.hid (show MBox W2 w1.heap.size (l.take 0) from ⟨0, 0, 0, 0, 0, 0, by rw [hW2]; exact alloc_at _ _ _ rfl, mom_nil⟩)
    have HB2 := Lib.hid (show Below W0.heap.size W0 W2 by rw [hW2]; exact HB1.out.alloc HB1.out.size _)
    have HL1 := Lib.hid (show W0.heap.size ≤ w1.heap.size from HB1.out.size)
    go_wp2
    rw [← hW2]
    clear hW2
    go_loopw [9, 26] (fun _ kv wr => ∃ k : Nat, kv = .int .i64 (k : Nat) ∧ k ≤ n ∧ MBox wr w1.heap.size (l.take k) ∧ Below W0.heap.size W0 wr) (fun _ kv _ => n - (intOf kv).toNat)
    case atStart => exact ⟨0, rfl, Nat.zero_le _, HM2.out, HB2.out⟩
    case round =>
      obtain ⟨k, rfl, hk, ⟨v0, v1, v2, v3, v4, v5, hem, hmi⟩, hbw⟩ := hrel
      have HBW := Lib.hid hbw
      have HEM := Lib.hid hem
      by_cases hlt : k < n
      · obtain ⟨bx, ox, ux, hAx, hbx, hux, qx⟩ := (HR1.out wr (below_next HST0.out.below hbw)).at1 (show k < xs.length by rw [← HN.out]; exact hlt)
        obtain ⟨x, hx, rfl⟩ := ints_get hux
        obtain ⟨bY, oY, uY, hBy, hby, huy, qy⟩ := (HR2.out wr (below_next HST0.out.below hbw)).at1 (show k < ys.length by rw [← HLY.out, ← HN.out]; exact hlt)
        obtain ⟨y, hy, rfl⟩ := ints_get huy
        subst hAx
        subst hBy
        obtain ⟨u0, u1, u2, u3, u4, u5, hui, had⟩ := HNX.out k x y v0 v1 v2 v3 v4 v5 hx hy hmi
        have HUI := Lib.hid hui
        have HAD := Lib.hid had
        have HKS := Lib.hid (show ∀ X, Below wr.heap.size wr X → (fun X => Below wr.heap.size wr X ∧ X.cell? ⟨w1.heap.size, 0, none⟩ = some (.int .i64 v0) ∧ X.cell? ⟨w1.heap.size, 1, none⟩ = some (.int .i64 v1) ∧ X.cell? ⟨w1.heap.size, 2, none⟩ = some (.int .i64 v2) ∧ X.cell? ⟨w1.heap.size, 3, none⟩ = some (.int .i64 v3) ∧ X.cell? ⟨w1.heap.size, 4, none⟩ = some (.int .i64 v4) ∧ X.cell? ⟨w1.heap.size, 5, none⟩ = some (.int .i64 v5) ∧ X.cell? ⟨bx, ox + k, none⟩ = some (.int .i64 x) ∧ X.cell? ⟨bY, oY + k, none⟩ = some (.int .i64 y)) X from fun X hX => by
          obtain ⟨e0, e1, e2, e3, e4, e5, -⟩ := mcells ((hX.block _ (heap_lt HEM.out)).trans HEM.out)
          exact ⟨hX, e0, e1, e2, e3, e4, e5, (hX.cell (p := ⟨bx, ox + k, none⟩) hbx).trans qx, (hX.cell (p := ⟨bY, oY + k, none⟩) hby).trans qy⟩)
        clear hem hmi hbw hux hx huy hy hui had qx qy
        go_wp2_with fail
        refine wp_region_last (init := #[_, _, _, _, _, _, _, _, _, _]) (last := _) rfl (by kernel_rfl) (by kernel_rfl) (by kernel_rfl) ?_
        show wpAny _ _ _ _ 10 (Array.replicate 10 false) _ wr.drew
        refine wpAny_of_held (S := (fun X => Below wr.heap.size wr X ∧ X.cell? ⟨w1.heap.size, 0, none⟩ = some (.int .i64 v0) ∧ X.cell? ⟨w1.heap.size, 1, none⟩ = some (.int .i64 v1) ∧ X.cell? ⟨w1.heap.size, 2, none⟩ = some (.int .i64 v2) ∧ X.cell? ⟨w1.heap.size, 3, none⟩ = some (.int .i64 v3) ∧ X.cell? ⟨w1.heap.size, 4, none⟩ = some (.int .i64 v4) ∧ X.cell? ⟨w1.heap.size, 5, none⟩ = some (.int .i64 v5) ∧ X.cell? ⟨bx, ox + k, none⟩ = some (.int .i64 x) ∧ X.cell? ⟨bY, oY + k, none⟩ = some (.int .i64 y))) _ _ _ _ ?_
        have HS0 := HKS.out _ (Below.refl _ wr).drew
        have hbx0 : Below wr.heap.size wr wr.drew := (Below.refl _ _).drew
        obtain ⟨Xx0, hXx0⟩ : ∃ X, X = wr.drew := ⟨_, rfl⟩
        rw [← hXx0] at hbx0 HS0 ⊢
        have HBx0 := Lib.hid hbx0
        clear hbx0 hXx0
        refine wpAnyH_take (i := 0) (v := ?_) rfl (by kernel_rfl) (by kernel_rfl) (by kernel_rfl) (fun _ _ _ h => h) (Or.inl ⟨by rfl, ?_⟩) HS0 ?_
        rotate_left
        · intro W hW; (try dsimp only at hW); go_simp; try (with_reducible rfl)
        (try simp only [List.getElem_toArray, List.getElem_cons_succ, List.getElem_cons_zero, Act.put, List.setIfInBounds_toArray, List.set_cons_zero, List.set_cons_succ])
        refine wpAnyH_take (i := 1) (v := ?_) rfl (by kernel_rfl) (by kernel_rfl) (by kernel_rfl) (fun _ _ _ h => h) (Or.inl ⟨by rfl, ?_⟩) HS0 ?_
        rotate_left
        · intro W hW; (try dsimp only at hW); go_simp; try (with_reducible rfl)
        (try simp only [List.getElem_toArray, List.getElem_cons_succ, List.getElem_cons_zero, Act.put, List.setIfInBounds_toArray, List.set_cons_zero, List.set_cons_succ])
        refine wpAnyH_take (i := 2) (v := ?_) rfl (by kernel_rfl) (by kernel_rfl) (by kernel_rfl) (fun _ _ _ h => h) (Or.inl ⟨by rfl, ?_⟩) HS0 ?_
        rotate_left
        · intro W hW; (try dsimp only at hW); go_simp; try (with_reducible rfl)
        (try simp only [List.getElem_toArray, List.getElem_cons_succ, List.getElem_cons_zero, Act.put, List.setIfInBounds_toArray, List.set_cons_zero, List.set_cons_succ])
        refine wpAnyH_take (i := 3) (v := ?_) rfl (by kernel_rfl) (by kernel_rfl) (by kernel_rfl) (fun _ _ _ h => h) (Or.inl ⟨by rfl, ?_⟩) HS0 ?_
        rotate_left
        · intro W hW; (try dsimp only at hW); go_simp; try (with_reducible rfl)
        (try simp only [List.getElem_toArray, List.getElem_cons_succ, List.getElem_cons_zero, Act.put, List.setIfInBounds_toArray, List.set_cons_zero, List.set_cons_succ])
        refine wpAnyH_take (i := 4) (v := ?_) rfl (by kernel_rfl) (by kernel_rfl) (by kernel_rfl) (fun _ _ _ h => h) (Or.inl ⟨by rfl, ?_⟩) HS0 ?_
        rotate_left
        · intro W hW; (try dsimp only at hW); go_simp; try (with_reducible rfl)
        (try simp only [List.getElem_toArray, List.getElem_cons_succ, List.getElem_cons_zero, Act.put, List.setIfInBounds_toArray, List.set_cons_zero, List.set_cons_succ])
        refine wpAnyH_take (i := 5) (v := ?_) rfl (by kernel_rfl) (by kernel_rfl) (by kernel_rfl) (fun _ _ _ h => h) (Or.inl ⟨by rfl, ?_⟩) HS0 ?_
        rotate_left
        · intro W hW; (try dsimp only at hW); go_simp; try (with_reducible rfl)
        (try simp only [List.getElem_toArray, List.getElem_cons_succ, List.getElem_cons_zero, Act.put, List.setIfInBounds_toArray, List.set_cons_zero, List.set_cons_succ])
        refine wpAnyH_take (i := 6) (v := ?_) rfl (by kernel_rfl) (by kernel_rfl) (by kernel_rfl) (fun _ _ _ h => h) (Or.inl ⟨by rfl, ?_⟩) HS0 ?_
        rotate_left
        · intro W hW; (try dsimp only at hW); go_simp; try (with_reducible rfl)
        (try simp only [List.getElem_toArray, List.getElem_cons_succ, List.getElem_cons_zero, Act.put, List.setIfInBounds_toArray, List.set_cons_zero, List.set_cons_succ])
        refine wpAnyH_take (i := 7) (v := ?_) rfl (by kernel_rfl) (by kernel_rfl) (by kernel_rfl) (fun _ _ _ h => h) (Or.inl ⟨by rfl, ?_⟩) HS0 ?_
        rotate_left
        · intro W hW; (try dsimp only at hW); go_simp; try (with_reducible rfl)
        (try simp only [List.getElem_toArray, List.getElem_cons_succ, List.getElem_cons_zero, Act.put, List.setIfInBounds_toArray, List.set_cons_zero, List.set_cons_succ])
        refine wpAnyH_take (i := 8) (v := ?_) rfl (by kernel_rfl) (by kernel_rfl) (by kernel_rfl) (fun _ _ _ h => h) (Or.inl ⟨by rfl, ?_⟩) HS0 ?_
        rotate_left
        · intro W hW; (try dsimp only at hW); go_simp; try (with_reducible rfl)
        (try simp only [List.getElem_toArray, List.getElem_cons_succ, List.getElem_cons_zero, Act.put, List.setIfInBounds_toArray, List.set_cons_zero, List.set_cons_succ])
        clear HS0
        refine run_one (i := 9) (by kernel_rfl) rfl rfl ?_
        intro K hK
        go_simp
        (with_reducible refine (HAD.out Xx0).mono ?_)
        rintro e Xx1 ⟨rfl, hbx1⟩
        have HBx1 := Lib.hid (below_next (HBx0.out) hbx1)
        refine hK.out _ _ (HKS.out _ HBx1.out) ?_
        clear hK K
        intro _
        (try simp only [List.getElem_toArray, List.getElem_cons_succ, List.getElem_cons_zero, Act.put, List.setIfInBounds_toArray, List.set_cons_zero, List.set_cons_succ])
        refine wpAnyH_done (by kernel_rfl) ?_ _
        simp only [LastQ]
        have HBK := Lib.hid (HBx1.out)
        obtain ⟨W9, hW9⟩ : ∃ W9, W9 = mset Xx1 w1.heap.size (.int .i64 u0) (.int .i64 u1) (.int .i64 u2) (.int .i64 u3) (.int .i64 u4) (.int .i64 u5) := ⟨_, rfl⟩
        have he := ((HBx1.out).block _ (heap_lt HEM.out)).trans HEM.out
        obtain ⟨-, -, -, -, -, -, z0, z1, z2, z3, z4, z5, hlz⟩ := mcells he
        have HM9 := Lib.hid (show MBox W9 w1.heap.size (l.take (k + 1)) from ⟨u0, u1, u2, u3, u4, u5, by rw [hW9]; exact mset_at he, HUI.out⟩)
        have HB9 := Lib.hid (show Below W0.heap.size W0 W9 by rw [hW9]; exact mset_below (below_next HBW.out (HBx1.out)) HL1.out)
        unfold mset at hW9
        clear he
        go_simp
        go_wp2
        rw [← hW9]
        clear hW9
        go_roundw
        case rel => exact ⟨k + 1, by go_num, by omega, HM9.out, HB9.out⟩
        case measure => simp [intOf]; omega
      · obtain rfl : k = n := by omega
        rw [List.take_of_length_le (by rw [HLL.out, ← HN.out]; exact Nat.le_refl _)] at hmi
        have HSP := Lib.hid (HSPR.out v0 v1 v2 v3 v4 v5 hmi wr)
        have HMI := Lib.hid hmi
        obtain ⟨vx, hvx⟩ : ∃ z, z = vXX l := ⟨_, rfl⟩
        obtain ⟨vz, hvz⟩ : ∃ z, z = vXY l := ⟨_, rfl⟩
        have HVX := Lib.hid hvx
        have HVZ := Lib.hid hvz
        rw [← hvx, ← hvz] at HSP
        rw [← hvx] at hA hB hX q1 q2 q5
        rw [← hvz] at q3 q4
        obtain ⟨e0, e1, e2, e3, e4, e5, -⟩ := mcells hem
        by_cases hxx : vx = 0
        · have HC := Lib.hid (hX hxx)
          have hb2 := hbad (by rw [HC.out]; decide)
          have HF := Lib.hid hb2
          have t1 : (vx == 0) = true := by rw [hxx]; rfl
          subst hxx
          clear hem hmi hbw hvx hvz hA hB hX hbad hgood hb2 q1 q2 q3 q4 q5
          go_wp2_with fail
          (with_reducible refine (HSP.out).mono ?_)
          rintro e w3 ⟨rfl, hb3⟩
          have HB3 := Lib.hid (below_next HBW.out hb3)
          obtain ⟨x0, x1, x2, x3, x4⟩ := (HSL.out.on HB3.out).facts
          obtain ⟨y0, y1, y2, y3, y4⟩ := (HOF.out.on HB3.out).facts
          have HFN := Lib.hid (fun a b c d => txt2_below (B := w.heap.size + 1) (txt2_below (B := w.heap.size) (below_next HST0.out.below HB3.out) (Nat.le_refl _) a b) (by omega) c d)
          clear hb3
          go_wp2
          refine bodyPost_ret (v := .tuple #[.agg #[.string ⟨#[]⟩, .string ⟨#[]⟩], .agg #[.string ⟨#[]⟩, .string ⟨#[]⟩], .int .i64 13]) (by simp [results, Tryz.results25, go_sem, x0, x1, y0, y1, x4, y4]) rfl ⟨by rw [HF.out.1, HF.out.2, HC.out]; rfl, by first | exact HFN.out _ _ _ _ | exact below_next HST0.out.below HB3.out⟩
        · have hne : vXX l ≠ 0 := by rw [← hvx]; exact hxx
          have t1 : (vx == 0) = false := by rw [beq_eq_false_iff_ne]; exact hxx
          have HA := Lib.hid (hA hxx)
          have HB' := Lib.hid (hB hxx)
          have HBAD := Lib.hid hbad
          have HGOOD := Lib.hid hgood
          have hln : 0 < l.length := q5 hxx
          have HWZ := Lib.hid (fun W => jWholeQ vz W (by omega) (by omega))
          have HWV := Lib.hid (fun W => jWholeQ vx W (by omega) (by omega))
          have HNX2 := Lib.hid (show (vx : Rat) ≠ 0 from intR_ne hxx)
          have HEA := Lib.hid (show (vz : Rat) / (vx : Rat) = linA l by rw [hvx, hvz]; rfl)
          have hb' := HBD.out
          have HWY := Lib.hid (fun W => jWholeQ v2 W (by rw [HMI.out.2.2.1]; have := hb'.y1; omega) (by rw [HMI.out.2.2.1]; have := hb'.y2; omega))
          have HWX := Lib.hid (fun W => jWholeQ v1 W (by rw [HMI.out.2.1]; have := hb'.x1; omega) (by rw [HMI.out.2.1]; have := hb'.x2; omega))
          have HWN := Lib.hid (fun W => jWholeQ v0 W (by rw [HMI.out.1]; omega) (by rw [HMI.out.1]; have := hb'.n; omega))
          have HNE := Lib.hid (show (v0 : Rat) ≠ 0 from intR_ne (by rw [HMI.out.1]; omega))
          have HEB := Lib.hid (show ((v2 : Rat) + -(linA l * (v1 : Rat))) / (v0 : Rat) = linB l by rw [HMI.out.1, HMI.out.2.1, HMI.out.2.2.1, ← Rat.sub_eq_add_neg]; rfl)
          clear hem hmi hbw hvx hvz hA hB hX hbad hgood q1 q2 q3 q4 q5 hne hb' hxx hln
          go_wp2_with fail
          (with_reducible refine (HSP.out).mono ?_)
          rintro e w3 ⟨rfl, hb3⟩
          have HB3 := Lib.hid (below_next HBW.out hb3)
          have HEM3 := Lib.hid ((hb3.block _ (heap_lt HEM.out)).trans HEM.out)
          clear hb3 e0 e1 e2 e3 e4 e5
          go_wp2_with fail
          (with_reducible refine (HWZ.out _).mono ?_)
          rintro e w5 ⟨v5', rfl, hv5, hb5⟩
          have HV5 := Lib.hid hv5
          have HB5 := Lib.hid hb5
          clear hv5 hb5
          go_wp2_with fail
          (with_reducible refine (HWV.out _).mono ?_)
          rintro e w6 ⟨v6', rfl, hv6, hb6⟩
          have HOV := Lib.hid (jOverQ 1 1 _ _ _ _ w6 (by omega) (by omega) (HV5.out.on hb6) hv6 HNX2.out)
          have HB6 := Lib.hid (below_next HB5.out hb6)
          rw [HEA.out] at HOV
          clear hv6 hb6
          go_wp2_with fail
          (with_reducible refine (HOV.out).mono ?_)
          rintro e w4 ⟨v4', rfl, hv4, hb4⟩
          obtain ⟨bA, A1, c1, l1, A2, c2, l2, rfl⟩ := hv4.shape
          obtain ⟨W5, hW5⟩ : ∃ W5, W5 = w4.alloc (.cells #[.bool bA, .slice A1 l1.length c1, .slice A2 l2.length c2] 53) := ⟨_, rfl⟩
          have hb45 : Below w4.heap.size w4 W5 := by rw [hW5]; exact (Below.refl _ w4).alloc (Nat.le_refl _) _
          have HA5 := Lib.hid (hv4.on hb45)
          have HEA5 := Lib.hid (show W5.heap[w4.heap.size]? = some (.cells #[.bool bA, .slice A1 l1.length c1, .slice A2 l2.length c2] 53 (0, 0)) by rw [hW5]; exact alloc_at _ _ _ rfl)
          have hb35 := below_next HB6.out (below_next hb4 hb45)
          have HBF := Lib.hid (below_next HB3.out hb35)
          have HEM5 := Lib.hid ((hb35.block _ (heap_lt HEM3.out)).trans HEM3.out)
          clear hv4 hb4 hb45 hb35 HOV
          go_wp2_with fail
          rw [← hW5]
          clear hW5
          have HKS := Lib.hid (show ∀ X, Below W5.heap.size W5 X → (fun X => Below W5.heap.size W5 X ∧ X.cell? ⟨w1.heap.size, 0, none⟩ = some (.int .i64 v0) ∧ X.cell? ⟨w1.heap.size, 1, none⟩ = some (.int .i64 v1) ∧ X.cell? ⟨w1.heap.size, 2, none⟩ = some (.int .i64 v2) ∧ X.cell? ⟨w4.heap.size, 0, none⟩ = some (.bool bA) ∧ X.cell? ⟨w4.heap.size, 1, none⟩ = some (.slice A1 l1.length c1) ∧ X.cell? ⟨w4.heap.size, 2, none⟩ = some (.slice A2 l2.length c2)) X from fun X hX => by
            obtain ⟨e0, e1, e2, -⟩ := mcells ((hX.block _ (heap_lt HEM5.out)).trans HEM5.out)
            have e := (hX.block _ (heap_lt HEA5.out)).trans HEA5.out
            exact ⟨hX, e0, e1, e2, by rw [cellsAt e]; rfl, by rw [cellsAt e]; rfl, by rw [cellsAt e]; rfl⟩)
          go_cut [14] (fun x wx => ∃ Bf, x = .pointer (some ⟨Bf, 0, none⟩) ∧ JVQ wx Bf (linB l) (1 + (2 + 1) + 3 + 1) ∧ Below W5.heap.size W5 wx)
          case first =>
            refine wp_region_noPanic ?_
            refine wp_region_held_drew (S := (fun X => Below W5.heap.size W5 X ∧ X.cell? ⟨w1.heap.size, 0, none⟩ = some (.int .i64 v0) ∧ X.cell? ⟨w1.heap.size, 1, none⟩ = some (.int .i64 v1) ∧ X.cell? ⟨w1.heap.size, 2, none⟩ = some (.int .i64 v2) ∧ X.cell? ⟨w4.heap.size, 0, none⟩ = some (.bool bA) ∧ X.cell? ⟨w4.heap.size, 1, none⟩ = some (.slice A1 l1.length c1) ∧ X.cell? ⟨w4.heap.size, 2, none⟩ = some (.slice A2 l2.length c2))) (by kernel_rfl) (HKS.out _ (Below.refl _ W5).drew) (fun HS0 => ?_)
            have hbx0 : Below W5.heap.size W5 W5.drew := (Below.refl _ _).drew
            obtain ⟨Xx0, hXx0⟩ : ∃ X, X = W5.drew := ⟨_, rfl⟩
            rw [← hXx0] at hbx0 HS0 ⊢
            have HBx0 := Lib.hid hbx0
            clear hbx0 hXx0
            refine wpAnyH_take (i := 0) (v := ?_) rfl (by kernel_rfl) (by kernel_rfl) (by kernel_rfl) (fun _ _ _ h => h) (Or.inl ⟨by rfl, ?_⟩) HS0 ?_
            rotate_left
            · intro W hW; (try dsimp only at hW); go_simp; try (with_reducible rfl)
            (try simp only [List.getElem_toArray, List.getElem_cons_succ, List.getElem_cons_zero, Act.put, List.setIfInBounds_toArray, List.set_cons_zero, List.set_cons_succ])
            refine wpAnyH_take (i := 1) (v := ?_) rfl (by kernel_rfl) (by kernel_rfl) (by kernel_rfl) (fun _ _ _ h => h) (Or.inl ⟨by rfl, ?_⟩) HS0 ?_
            rotate_left
            · intro W hW; (try dsimp only at hW); go_simp; try (with_reducible rfl)
            (try simp only [List.getElem_toArray, List.getElem_cons_succ, List.getElem_cons_zero, Act.put, List.setIfInBounds_toArray, List.set_cons_zero, List.set_cons_succ])
            refine wpAnyH_take (i := 3) (v := ?_) rfl (by kernel_rfl) (by kernel_rfl) (by kernel_rfl) (fun _ _ _ h => h) (Or.inl ⟨by rfl, ?_⟩) HS0 ?_
            rotate_left
            · intro W hW; (try dsimp only at hW); go_simp; try (with_reducible rfl)
            (try simp only [List.getElem_toArray, List.getElem_cons_succ, List.getElem_cons_zero, Act.put, List.setIfInBounds_toArray, List.set_cons_zero, List.set_cons_succ])
            refine wpAnyH_take (i := 4) (v := ?_) rfl (by kernel_rfl) (by kernel_rfl) (by kernel_rfl) (fun _ _ _ h => h) (Or.inl ⟨by rfl, ?_⟩) HS0 ?_
            rotate_left
            · intro W hW; (try dsimp only at hW); go_simp; try (with_reducible rfl)
            (try simp only [List.getElem_toArray, List.getElem_cons_succ, List.getElem_cons_zero, Act.put, List.setIfInBounds_toArray, List.set_cons_zero, List.set_cons_succ])
            refine wpAnyH_take (i := 5) (v := ?_) rfl (by kernel_rfl) (by kernel_rfl) (by kernel_rfl) (fun _ _ _ h => h) (Or.inl ⟨by rfl, ?_⟩) HS0 ?_
            rotate_left
            · intro W hW; (try dsimp only at hW); go_simp; try (with_reducible rfl)
            (try simp only [List.getElem_toArray, List.getElem_cons_succ, List.getElem_cons_zero, Act.put, List.setIfInBounds_toArray, List.set_cons_zero, List.set_cons_succ])
            refine wpAnyH_take (i := 11) (v := ?_) rfl (by kernel_rfl) (by kernel_rfl) (by kernel_rfl) (fun _ _ _ h => h) (Or.inl ⟨by rfl, ?_⟩) HS0 ?_
            rotate_left
            · intro W hW; (try dsimp only at hW); go_simp; try (with_reducible rfl)
            (try simp only [List.getElem_toArray, List.getElem_cons_succ, List.getElem_cons_zero, Act.put, List.setIfInBounds_toArray, List.set_cons_zero, List.set_cons_succ])
            refine wpAnyH_take (i := 12) (v := ?_) rfl (by kernel_rfl) (by kernel_rfl) (by kernel_rfl) (fun _ _ _ h => h) (Or.inl ⟨by rfl, ?_⟩) HS0 ?_
            rotate_left
            · intro W hW; (try dsimp only at hW); go_simp; try (with_reducible rfl)
            (try simp only [List.getElem_toArray, List.getElem_cons_succ, List.getElem_cons_zero, Act.put, List.setIfInBounds_toArray, List.set_cons_zero, List.set_cons_succ])
            clear HS0
            refine wpAnyH_ready (rs := [2, 15]) (by kernel_rfl) (by simp) ?_
            refine AllReadyH.cons rfl (fun K hK => ?_) ?_
            · go_simp
              (with_reducible refine (HWY.out Xx0).mono ?_)
              rintro e Xx1 ⟨v1, rfl, hvx1, hbx1⟩
              have HBx1 := Lib.hid (below_next (HBx0.out) hbx1)
              refine hK.out _ _ (HKS.out _ HBx1.out) ?_
              clear hK K
              intro _
              obtain ⟨bwy, Awy, cwy, lwy, Dwy, dwy, mwy, rfl⟩ := hvx1.shape
              (try simp only [List.getElem_toArray, List.getElem_cons_succ, List.getElem_cons_zero, Act.put, List.setIfInBounds_toArray, List.set_cons_zero, List.set_cons_succ])
              refine wpAnyH_ready (rs := [6, 15]) (by kernel_rfl) (by simp) ?_
              refine AllReadyH.cons rfl (fun K hK => ?_) ?_
              · go_simp
                (with_reducible refine (HWX.out Xx1).mono ?_)
                rintro e Xx2 ⟨v2, rfl, hvx2, hbx2⟩
                have HBx2 := Lib.hid (below_next (HBx1.out) hbx2)
                refine hK.out _ _ (HKS.out _ HBx2.out) ?_
                clear hK K
                intro _
                obtain ⟨bwx, Awx, cwx, lwx, Dwx, dwx, mwx, rfl⟩ := hvx2.shape
                (try simp only [List.getElem_toArray, List.getElem_cons_succ, List.getElem_cons_zero, Act.put, List.setIfInBounds_toArray, List.set_cons_zero, List.set_cons_succ])
                refine wpAnyH_ready (rs := [7, 15]) (by kernel_rfl) (by simp) ?_
                refine AllReadyH.cons rfl (fun K hK => ?_) ?_
                · go_simp
                  (with_reducible refine (jTimesQ 2 1 _ _ _ _ Xx2 (by omega) (by omega) (HA5.out.on (HBx2.out)) (hvx2)).mono ?_)
                  rintro e Xx3 ⟨v3, rfl, hvx3, hbx3⟩
                  have HBx3 := Lib.hid (below_next (HBx2.out) hbx3)
                  refine hK.out _ _ (HKS.out _ HBx3.out) ?_
                  clear hK K
                  intro _
                  obtain ⟨bax, Aax, cax, lax, Dax, dax, max, rfl⟩ := hvx3.shape
                  (try simp only [List.getElem_toArray, List.getElem_cons_succ, List.getElem_cons_zero, Act.put, List.setIfInBounds_toArray, List.set_cons_zero, List.set_cons_succ])
                  refine wpAnyH_ready (rs := [8, 15]) (by kernel_rfl) (by simp) ?_
                  refine AllReadyH.cons rfl (fun K hK => ?_) ?_
                  · go_simp
                    (with_reducible refine (jOppQ _ _ _ Xx3 (hvx3)).mono ?_)
                    rintro e Xx4 ⟨v4, rfl, hvx4, hbx4⟩
                    have HBx4 := Lib.hid (below_next (HBx3.out) hbx4)
                    refine hK.out _ _ (HKS.out _ HBx4.out) ?_
                    clear hK K
                    intro _
                    obtain ⟨bop, Aop, cop, lop, Dop, dop, mop, rfl⟩ := hvx4.shape
                    (try simp only [List.getElem_toArray, List.getElem_cons_succ, List.getElem_cons_zero, Act.put, List.setIfInBounds_toArray, List.set_cons_zero, List.set_cons_succ])
                    refine wpAnyH_ready (rs := [9, 15]) (by kernel_rfl) (by simp) ?_
                    refine AllReadyH.cons rfl (fun K hK => ?_) ?_
                    · go_simp
                      obtain ⟨Xx5, hXx5⟩ : ∃ X, X = Xx4.alloc (.cells #[.bool bwy, .slice Awy lwy.length cwy, .slice Dwy mwy.length dwy, .bool bop, .slice Aop lop.length cop, .slice Dop mop.length dop] 53) := ⟨_, rfl⟩
                      have hbx5 : Below Xx4.heap.size Xx4 Xx5 := by rw [hXx5]; exact (Below.refl _ _).alloc (Nat.le_refl _) _
                      have HBx5 := Lib.hid (below_next (HBx4.out) hbx5)
                      have hTx5 : JTwo Xx5 Xx4.heap.size (v2 : Rat) (-(linA l * (v1 : Rat))) 1 (2 + 1) := ⟨bwy, Awy, cwy, lwy, Dwy, dwy, mwy, bop, Aop, cop, lop, Dop, dop, mop, _, by rw [hXx5]; exact alloc_at _ _ _ rfl, ((((hvx1).on hbx2).on hbx3).on hbx4).on hbx5, (hvx4).on hbx5⟩
                      rw [← hXx5]
                      clear hXx5
                      refine hK.out _ _ (HKS.out _ HBx5.out) ?_
                      clear hK K
                      intro _
                      (try simp only [List.getElem_toArray, List.getElem_cons_succ, List.getElem_cons_zero, Act.put, List.setIfInBounds_toArray, List.set_cons_zero, List.set_cons_succ])
                      refine wpAnyH_ready (rs := [10, 15]) (by kernel_rfl) (by simp) ?_
                      refine AllReadyH.cons rfl (fun K hK => ?_) ?_
                      · go_simp
                        (with_reducible refine (jSum_any _ 1 (2 + 1) _ _ Xx5 (by omega) (by omega) (hTx5)).mono ?_)
                        rintro e Xx6 ⟨v6, rfl, hvx6, hbx6⟩
                        have HBx6 := Lib.hid (below_next (HBx5.out) hbx6)
                        refine hK.out _ _ (HKS.out _ HBx6.out) ?_
                        clear hK K
                        intro _
                        obtain ⟨bsm, Asm, csm, lsm, Dsm, dsm, msm, rfl⟩ := hvx6.shape
                        (try simp only [List.getElem_toArray, List.getElem_cons_succ, List.getElem_cons_zero, Act.put, List.setIfInBounds_toArray, List.set_cons_zero, List.set_cons_succ])
                        refine wpAnyH_ready (rs := [13, 15]) (by kernel_rfl) (by simp) ?_
                        refine AllReadyH.cons rfl (fun K hK => ?_) ?_
                        · go_simp
                          (with_reducible refine (HWN.out Xx6).mono ?_)
                          rintro e Xx7 ⟨v7, rfl, hvx7, hbx7⟩
                          have HBx7 := Lib.hid (below_next (HBx6.out) hbx7)
                          refine hK.out _ _ (HKS.out _ HBx7.out) ?_
                          clear hK K
                          intro _
                          obtain ⟨bwn, Awn, cwn, lwn, Dwn, dwn, mwn, rfl⟩ := hvx7.shape
                          (try simp only [List.getElem_toArray, List.getElem_cons_succ, List.getElem_cons_zero, Act.put, List.setIfInBounds_toArray, List.set_cons_zero, List.set_cons_succ])
                          refine wpAnyH_ready (rs := [14, 15]) (by kernel_rfl) (by simp) ?_
                          refine AllReadyH.cons rfl (fun K hK => ?_) ?_
                          · go_simp
                            (with_reducible refine (jOverQ (1 + (2 + 1) + 3) 1 _ _ _ _ Xx7 (by omega) (by omega) ((hvx6).on hbx7) (hvx7) HNE.out).mono ?_)
                            rintro e Xx8 ⟨v8, rfl, hvx8, hbx8⟩
                            have HBx8 := Lib.hid (below_next (HBx7.out) hbx8)
                            refine hK.out _ _ (HKS.out _ HBx8.out) ?_
                            clear hK K
                            intro _
                            obtain ⟨bov, Aov, cov, lov, Dov, dov, mov, rfl⟩ := hvx8.shape
                            (try simp only [List.getElem_toArray, List.getElem_cons_succ, List.getElem_cons_zero, Act.put, List.setIfInBounds_toArray, List.set_cons_zero, List.set_cons_succ])
                            refine run_one (i := 15) (by kernel_rfl) rfl rfl ?_
                            intro K hK
                            obtain ⟨Xx9, hXx9⟩ : ∃ X, X = Xx8.alloc (.cells #[.bool false, .slice none 0 0, .slice none 0 0] 53) := ⟨_, rfl⟩
                            have hbx9 : Below Xx8.heap.size Xx8 Xx9 := by rw [hXx9]; exact (Below.refl _ _).alloc (Nat.le_refl _) _
                            have hxx9 : JBox Xx9 Xx8.heap.size := by rw [hXx9]; exact alloc_at _ _ _ rfl
                            have HBx9 := Lib.hid (below_next (HBx8.out) hbx9)
                            have hwx9 : W5.heap.size ≤ Xx8.heap.size := (HBx8.out).size
                            go_simp
                            rw [← hXx9]
                            clear hXx9
                            refine hK.out _ _ (HKS.out _ HBx9.out) ?_
                            clear hK K
                            intro _
                            (try simp only [List.getElem_toArray, List.getElem_cons_succ, List.getElem_cons_zero, Act.put, List.setIfInBounds_toArray, List.set_cons_zero, List.set_cons_succ])
                            obtain ⟨k0, k1, k2, z0, z1, z2, hlt⟩ := JBox.facts (hxx9)
                            obtain ⟨Xx10, hXx10⟩ : ∃ X, X = ((Xx9.setCell ⟨Xx8.heap.size, 0, none⟩ (.bool bov)).setCell ⟨Xx8.heap.size, 1, none⟩ (.slice Aov lov.length cov)).setCell ⟨Xx8.heap.size, 2, none⟩ (.slice Dov mov.length dov) := ⟨_, rfl⟩
                            have HVx10 := Lib.hid (show JVQ Xx10 Xx8.heap.size _ _ by rw [hXx10]; exact JVQ.set (hxx9) ((hvx8).on hbx9))
                            have HBx10 := Lib.hid (show Below W5.heap.size W5 Xx10 by rw [hXx10]; exact (((HBx9.out).setCell (p := ⟨Xx8.heap.size, 0, none⟩) hwx9 _).setCell (p := ⟨Xx8.heap.size, 1, none⟩) hwx9 _).setCell (p := ⟨Xx8.heap.size, 2, none⟩) hwx9 _)
                            refine run_one (i := 16) (by kernel_rfl) rfl rfl ?_
                            intro K hK
                            go_simp
                            rw [← hXx10]
                            refine hK.out _ _ (HKS.out _ HBx10.out) ?_
                            clear hK K k0 k1 k2 z0 z1 z2 hlt hXx10
                            intro _
                            (try simp only [List.getElem_toArray, List.getElem_cons_succ, List.getElem_cons_zero, Act.put, List.setIfInBounds_toArray, List.set_cons_zero, List.set_cons_succ])
                            refine wpAnyH_done (by kernel_rfl) ?_ _
                            refine NoPanic.normal ?_
                            go_wp2_with fail
                            go_meet
                            exact ⟨Xx8.heap.size, rfl, by rw [← HEB.out]; exact HVx10.out, HBx10.out⟩
                          refine AllReadyH.cons rfl (fun K hK => ?_) ?_
                          · obtain ⟨Xx11, hXx11⟩ : ∃ X, X = Xx7.alloc (.cells #[.bool false, .slice none 0 0, .slice none 0 0] 53) := ⟨_, rfl⟩
                            have hbx11 : Below Xx7.heap.size Xx7 Xx11 := by rw [hXx11]; exact (Below.refl _ _).alloc (Nat.le_refl _) _
                            have hxx11 : JBox Xx11 Xx7.heap.size := by rw [hXx11]; exact alloc_at _ _ _ rfl
                            have HBx11 := Lib.hid (below_next (HBx7.out) hbx11)
                            have hwx11 : W5.heap.size ≤ Xx7.heap.size := (HBx7.out).size
                            go_simp
                            rw [← hXx11]
                            clear hXx11
                            refine hK.out _ _ (HKS.out _ HBx11.out) ?_
                            clear hK K
                            intro _
                            (try simp only [List.getElem_toArray, List.getElem_cons_succ, List.getElem_cons_zero, Act.put, List.setIfInBounds_toArray, List.set_cons_zero, List.set_cons_succ])
                            refine run_one (i := 14) (by kernel_rfl) rfl rfl ?_
                            intro K hK
                            go_simp
                            (with_reducible refine (jOverQ (1 + (2 + 1) + 3) 1 _ _ _ _ Xx11 (by omega) (by omega) (((hvx6).on hbx7).on hbx11) ((hvx7).on hbx11) HNE.out).mono ?_)
                            rintro e Xx12 ⟨v12, rfl, hvx12, hbx12⟩
                            have HBx12 := Lib.hid (below_next (HBx11.out) hbx12)
                            refine hK.out _ _ (HKS.out _ HBx12.out) ?_
                            clear hK K
                            intro _
                            obtain ⟨bov, Aov, cov, lov, Dov, dov, mov, rfl⟩ := hvx12.shape
                            (try simp only [List.getElem_toArray, List.getElem_cons_succ, List.getElem_cons_zero, Act.put, List.setIfInBounds_toArray, List.set_cons_zero, List.set_cons_succ])
                            obtain ⟨k0, k1, k2, z0, z1, z2, hlt⟩ := JBox.facts ((JBox.on hxx11 hbx12))
                            obtain ⟨Xx13, hXx13⟩ : ∃ X, X = ((Xx12.setCell ⟨Xx7.heap.size, 0, none⟩ (.bool bov)).setCell ⟨Xx7.heap.size, 1, none⟩ (.slice Aov lov.length cov)).setCell ⟨Xx7.heap.size, 2, none⟩ (.slice Dov mov.length dov) := ⟨_, rfl⟩
                            have HVx13 := Lib.hid (show JVQ Xx13 Xx7.heap.size _ _ by rw [hXx13]; exact JVQ.set ((JBox.on hxx11 hbx12)) (hvx12))
                            have HBx13 := Lib.hid (show Below W5.heap.size W5 Xx13 by rw [hXx13]; exact (((HBx12.out).setCell (p := ⟨Xx7.heap.size, 0, none⟩) hwx11 _).setCell (p := ⟨Xx7.heap.size, 1, none⟩) hwx11 _).setCell (p := ⟨Xx7.heap.size, 2, none⟩) hwx11 _)
                            refine run_one (i := 16) (by kernel_rfl) rfl rfl ?_
                            intro K hK
                            go_simp
                            rw [← hXx13]
                            refine hK.out _ _ (HKS.out _ HBx13.out) ?_
                            clear hK K k0 k1 k2 z0 z1 z2 hlt hXx13
                            intro _
                            (try simp only [List.getElem_toArray, List.getElem_cons_succ, List.getElem_cons_zero, Act.put, List.setIfInBounds_toArray, List.set_cons_zero, List.set_cons_succ])
                            refine wpAnyH_done (by kernel_rfl) ?_ _
                            refine NoPanic.normal ?_
                            go_wp2_with fail
                            go_meet
                            exact ⟨Xx7.heap.size, rfl, by rw [← HEB.out]; exact HVx13.out, HBx13.out⟩
                          exact AllReadyH.nil
                        refine AllReadyH.cons rfl (fun K hK => ?_) ?_
                        · obtain ⟨Xx14, hXx14⟩ : ∃ X, X = Xx6.alloc (.cells #[.bool false, .slice none 0 0, .slice none 0 0] 53) := ⟨_, rfl⟩
                          have hbx14 : Below Xx6.heap.size Xx6 Xx14 := by rw [hXx14]; exact (Below.refl _ _).alloc (Nat.le_refl _) _
                          have hxx14 : JBox Xx14 Xx6.heap.size := by rw [hXx14]; exact alloc_at _ _ _ rfl
                          have HBx14 := Lib.hid (below_next (HBx6.out) hbx14)
                          have hwx14 : W5.heap.size ≤ Xx6.heap.size := (HBx6.out).size
                          go_simp
                          rw [← hXx14]
                          clear hXx14
                          refine hK.out _ _ (HKS.out _ HBx14.out) ?_
                          clear hK K
                          intro _
                          (try simp only [List.getElem_toArray, List.getElem_cons_succ, List.getElem_cons_zero, Act.put, List.setIfInBounds_toArray, List.set_cons_zero, List.set_cons_succ])
                          refine run_one (i := 13) (by kernel_rfl) rfl rfl ?_
                          intro K hK
                          go_simp
                          (with_reducible refine (HWN.out Xx14).mono ?_)
                          rintro e Xx15 ⟨v15, rfl, hvx15, hbx15⟩
                          have HBx15 := Lib.hid (below_next (HBx14.out) hbx15)
                          refine hK.out _ _ (HKS.out _ HBx15.out) ?_
                          clear hK K
                          intro _
                          obtain ⟨bwn, Awn, cwn, lwn, Dwn, dwn, mwn, rfl⟩ := hvx15.shape
                          (try simp only [List.getElem_toArray, List.getElem_cons_succ, List.getElem_cons_zero, Act.put, List.setIfInBounds_toArray, List.set_cons_zero, List.set_cons_succ])
                          refine run_one (i := 14) (by kernel_rfl) rfl rfl ?_
                          intro K hK
                          go_simp
                          (with_reducible refine (jOverQ (1 + (2 + 1) + 3) 1 _ _ _ _ Xx15 (by omega) (by omega) (((hvx6).on hbx14).on hbx15) (hvx15) HNE.out).mono ?_)
                          rintro e Xx16 ⟨v16, rfl, hvx16, hbx16⟩
                          have HBx16 := Lib.hid (below_next (HBx15.out) hbx16)
                          refine hK.out _ _ (HKS.out _ HBx16.out) ?_
                          clear hK K
                          intro _
                          obtain ⟨bov, Aov, cov, lov, Dov, dov, mov, rfl⟩ := hvx16.shape
                          (try simp only [List.getElem_toArray, List.getElem_cons_succ, List.getElem_cons_zero, Act.put, List.setIfInBounds_toArray, List.set_cons_zero, List.set_cons_succ])
                          obtain ⟨k0, k1, k2, z0, z1, z2, hlt⟩ := JBox.facts ((JBox.on (JBox.on hxx14 hbx15) hbx16))
                          obtain ⟨Xx17, hXx17⟩ : ∃ X, X = ((Xx16.setCell ⟨Xx6.heap.size, 0, none⟩ (.bool bov)).setCell ⟨Xx6.heap.size, 1, none⟩ (.slice Aov lov.length cov)).setCell ⟨Xx6.heap.size, 2, none⟩ (.slice Dov mov.length dov) := ⟨_, rfl⟩
                          have HVx17 := Lib.hid (show JVQ Xx17 Xx6.heap.size _ _ by rw [hXx17]; exact JVQ.set ((JBox.on (JBox.on hxx14 hbx15) hbx16)) (hvx16))
                          have HBx17 := Lib.hid (show Below W5.heap.size W5 Xx17 by rw [hXx17]; exact (((HBx16.out).setCell (p := ⟨Xx6.heap.size, 0, none⟩) hwx14 _).setCell (p := ⟨Xx6.heap.size, 1, none⟩) hwx14 _).setCell (p := ⟨Xx6.heap.size, 2, none⟩) hwx14 _)
                          refine run_one (i := 16) (by kernel_rfl) rfl rfl ?_
                          intro K hK
                          go_simp
                          rw [← hXx17]
                          refine hK.out _ _ (HKS.out _ HBx17.out) ?_
                          clear hK K k0 k1 k2 z0 z1 z2 hlt hXx17
                          intro _
                          (try simp only [List.getElem_toArray, List.getElem_cons_succ, List.getElem_cons_zero, Act.put, List.setIfInBounds_toArray, List.set_cons_zero, List.set_cons_succ])
                          refine wpAnyH_done (by kernel_rfl) ?_ _
                          refine NoPanic.normal ?_
                          go_wp2_with fail
                          go_meet
                          exact ⟨Xx6.heap.size, rfl, by rw [← HEB.out]; exact HVx17.out, HBx17.out⟩
                        exact AllReadyH.nil
                      refine AllReadyH.cons rfl (fun K hK => ?_) ?_
                      · obtain ⟨Xx18, hXx18⟩ : ∃ X, X = Xx5.alloc (.cells #[.bool false, .slice none 0 0, .slice none 0 0] 53) := ⟨_, rfl⟩
                        have hbx18 : Below Xx5.heap.size Xx5 Xx18 := by rw [hXx18]; exact (Below.refl _ _).alloc (Nat.le_refl _) _
                        have hxx18 : JBox Xx18 Xx5.heap.size := by rw [hXx18]; exact alloc_at _ _ _ rfl
                        have HBx18 := Lib.hid (below_next (HBx5.out) hbx18)
                        have hwx18 : W5.heap.size ≤ Xx5.heap.size := (HBx5.out).size
                        go_simp
                        rw [← hXx18]
                        clear hXx18
                        refine hK.out _ _ (HKS.out _ HBx18.out) ?_
                        clear hK K
                        intro _
                        (try simp only [List.getElem_toArray, List.getElem_cons_succ, List.getElem_cons_zero, Act.put, List.setIfInBounds_toArray, List.set_cons_zero, List.set_cons_succ])
                        refine run_one (i := 10) (by kernel_rfl) rfl rfl ?_
                        intro K hK
                        go_simp
                        (with_reducible refine (jSum_any _ 1 (2 + 1) _ _ Xx18 (by omega) (by omega) ((hTx5).on hbx18)).mono ?_)
                        rintro e Xx19 ⟨v19, rfl, hvx19, hbx19⟩
                        have HBx19 := Lib.hid (below_next (HBx18.out) hbx19)
                        refine hK.out _ _ (HKS.out _ HBx19.out) ?_
                        clear hK K
                        intro _
                        obtain ⟨bsm, Asm, csm, lsm, Dsm, dsm, msm, rfl⟩ := hvx19.shape
                        (try simp only [List.getElem_toArray, List.getElem_cons_succ, List.getElem_cons_zero, Act.put, List.setIfInBounds_toArray, List.set_cons_zero, List.set_cons_succ])
                        refine run_one (i := 13) (by kernel_rfl) rfl rfl ?_
                        intro K hK
                        go_simp
                        (with_reducible refine (HWN.out Xx19).mono ?_)
                        rintro e Xx20 ⟨v20, rfl, hvx20, hbx20⟩
                        have HBx20 := Lib.hid (below_next (HBx19.out) hbx20)
                        refine hK.out _ _ (HKS.out _ HBx20.out) ?_
                        clear hK K
                        intro _
                        obtain ⟨bwn, Awn, cwn, lwn, Dwn, dwn, mwn, rfl⟩ := hvx20.shape
                        (try simp only [List.getElem_toArray, List.getElem_cons_succ, List.getElem_cons_zero, Act.put, List.setIfInBounds_toArray, List.set_cons_zero, List.set_cons_succ])
                        refine run_one (i := 14) (by kernel_rfl) rfl rfl ?_
                        intro K hK
                        go_simp
                        (with_reducible refine (jOverQ (1 + (2 + 1) + 3) 1 _ _ _ _ Xx20 (by omega) (by omega) ((hvx19).on hbx20) (hvx20) HNE.out).mono ?_)
                        rintro e Xx21 ⟨v21, rfl, hvx21, hbx21⟩
                        have HBx21 := Lib.hid (below_next (HBx20.out) hbx21)
                        refine hK.out _ _ (HKS.out _ HBx21.out) ?_
                        clear hK K
                        intro _
                        obtain ⟨bov, Aov, cov, lov, Dov, dov, mov, rfl⟩ := hvx21.shape
                        (try simp only [List.getElem_toArray, List.getElem_cons_succ, List.getElem_cons_zero, Act.put, List.setIfInBounds_toArray, List.set_cons_zero, List.set_cons_succ])
                        obtain ⟨k0, k1, k2, z0, z1, z2, hlt⟩ := JBox.facts ((JBox.on (JBox.on (JBox.on hxx18 hbx19) hbx20) hbx21))
                        obtain ⟨Xx22, hXx22⟩ : ∃ X, X = ((Xx21.setCell ⟨Xx5.heap.size, 0, none⟩ (.bool bov)).setCell ⟨Xx5.heap.size, 1, none⟩ (.slice Aov lov.length cov)).setCell ⟨Xx5.heap.size, 2, none⟩ (.slice Dov mov.length dov) := ⟨_, rfl⟩
                        have HVx22 := Lib.hid (show JVQ Xx22 Xx5.heap.size _ _ by rw [hXx22]; exact JVQ.set ((JBox.on (JBox.on (JBox.on hxx18 hbx19) hbx20) hbx21)) (hvx21))
                        have HBx22 := Lib.hid (show Below W5.heap.size W5 Xx22 by rw [hXx22]; exact (((HBx21.out).setCell (p := ⟨Xx5.heap.size, 0, none⟩) hwx18 _).setCell (p := ⟨Xx5.heap.size, 1, none⟩) hwx18 _).setCell (p := ⟨Xx5.heap.size, 2, none⟩) hwx18 _)
                        refine run_one (i := 16) (by kernel_rfl) rfl rfl ?_
                        intro K hK
                        go_simp
                        rw [← hXx22]
                        refine hK.out _ _ (HKS.out _ HBx22.out) ?_
                        clear hK K k0 k1 k2 z0 z1 z2 hlt hXx22
                        intro _
                        (try simp only [List.getElem_toArray, List.getElem_cons_succ, List.getElem_cons_zero, Act.put, List.setIfInBounds_toArray, List.set_cons_zero, List.set_cons_succ])
                        refine wpAnyH_done (by kernel_rfl) ?_ _
                        refine NoPanic.normal ?_
                        go_wp2_with fail
                        go_meet
                        exact ⟨Xx5.heap.size, rfl, by rw [← HEB.out]; exact HVx22.out, HBx22.out⟩
                      exact AllReadyH.nil
                    refine AllReadyH.cons rfl (fun K hK => ?_) ?_
                    · obtain ⟨Xx23, hXx23⟩ : ∃ X, X = Xx4.alloc (.cells #[.bool false, .slice none 0 0, .slice none 0 0] 53) := ⟨_, rfl⟩
                      have hbx23 : Below Xx4.heap.size Xx4 Xx23 := by rw [hXx23]; exact (Below.refl _ _).alloc (Nat.le_refl _) _
                      have hxx23 : JBox Xx23 Xx4.heap.size := by rw [hXx23]; exact alloc_at _ _ _ rfl
                      have HBx23 := Lib.hid (below_next (HBx4.out) hbx23)
                      have hwx23 : W5.heap.size ≤ Xx4.heap.size := (HBx4.out).size
                      go_simp
                      rw [← hXx23]
                      clear hXx23
                      refine hK.out _ _ (HKS.out _ HBx23.out) ?_
                      clear hK K
                      intro _
                      (try simp only [List.getElem_toArray, List.getElem_cons_succ, List.getElem_cons_zero, Act.put, List.setIfInBounds_toArray, List.set_cons_zero, List.set_cons_succ])
                      refine run_one (i := 9) (by kernel_rfl) rfl rfl ?_
                      intro K hK
                      go_simp
                      obtain ⟨Xx24, hXx24⟩ : ∃ X, X = Xx23.alloc (.cells #[.bool bwy, .slice Awy lwy.length cwy, .slice Dwy mwy.length dwy, .bool bop, .slice Aop lop.length cop, .slice Dop mop.length dop] 53) := ⟨_, rfl⟩
                      have hbx24 : Below Xx23.heap.size Xx23 Xx24 := by rw [hXx24]; exact (Below.refl _ _).alloc (Nat.le_refl _) _
                      have HBx24 := Lib.hid (below_next (HBx23.out) hbx24)
                      have hTx24 : JTwo Xx24 Xx23.heap.size (v2 : Rat) (-(linA l * (v1 : Rat))) 1 (2 + 1) := ⟨bwy, Awy, cwy, lwy, Dwy, dwy, mwy, bop, Aop, cop, lop, Dop, dop, mop, _, by rw [hXx24]; exact alloc_at _ _ _ rfl, (((((hvx1).on hbx2).on hbx3).on hbx4).on hbx23).on hbx24, ((hvx4).on hbx23).on hbx24⟩
                      rw [← hXx24]
                      clear hXx24
                      refine hK.out _ _ (HKS.out _ HBx24.out) ?_
                      clear hK K
                      intro _
                      (try simp only [List.getElem_toArray, List.getElem_cons_succ, List.getElem_cons_zero, Act.put, List.setIfInBounds_toArray, List.set_cons_zero, List.set_cons_succ])
                      refine run_one (i := 10) (by kernel_rfl) rfl rfl ?_
                      intro K hK
                      go_simp
                      (with_reducible refine (jSum_any _ 1 (2 + 1) _ _ Xx24 (by omega) (by omega) (hTx24)).mono ?_)
                      rintro e Xx25 ⟨v25, rfl, hvx25, hbx25⟩
                      have HBx25 := Lib.hid (below_next (HBx24.out) hbx25)
                      refine hK.out _ _ (HKS.out _ HBx25.out) ?_
                      clear hK K
                      intro _
                      obtain ⟨bsm, Asm, csm, lsm, Dsm, dsm, msm, rfl⟩ := hvx25.shape
                      (try simp only [List.getElem_toArray, List.getElem_cons_succ, List.getElem_cons_zero, Act.put, List.setIfInBounds_toArray, List.set_cons_zero, List.set_cons_succ])
                      refine run_one (i := 13) (by kernel_rfl) rfl rfl ?_
                      intro K hK
                      go_simp
                      (with_reducible refine (HWN.out Xx25).mono ?_)
                      rintro e Xx26 ⟨v26, rfl, hvx26, hbx26⟩
                      have HBx26 := Lib.hid (below_next (HBx25.out) hbx26)
                      refine hK.out _ _ (HKS.out _ HBx26.out) ?_
                      clear hK K
                      intro _
                      obtain ⟨bwn, Awn, cwn, lwn, Dwn, dwn, mwn, rfl⟩ := hvx26.shape
                      (try simp only [List.getElem_toArray, List.getElem_cons_succ, List.getElem_cons_zero, Act.put, List.setIfInBounds_toArray, List.set_cons_zero, List.set_cons_succ])
                      refine run_one (i := 14) (by kernel_rfl) rfl rfl ?_
                      intro K hK
                      go_simp
                      (with_reducible refine (jOverQ (1 + (2 + 1) + 3) 1 _ _ _ _ Xx26 (by omega) (by omega) ((hvx25).on hbx26) (hvx26) HNE.out).mono ?_)
                      rintro e Xx27 ⟨v27, rfl, hvx27, hbx27⟩
                      have HBx27 := Lib.hid (below_next (HBx26.out) hbx27)
                      refine hK.out _ _ (HKS.out _ HBx27.out) ?_
                      clear hK K
                      intro _
                      obtain ⟨bov, Aov, cov, lov, Dov, dov, mov, rfl⟩ := hvx27.shape
                      (try simp only [List.getElem_toArray, List.getElem_cons_succ, List.getElem_cons_zero, Act.put, List.setIfInBounds_toArray, List.set_cons_zero, List.set_cons_succ])
                      obtain ⟨k0, k1, k2, z0, z1, z2, hlt⟩ := JBox.facts ((JBox.on (JBox.on (JBox.on (JBox.on hxx23 hbx24) hbx25) hbx26) hbx27))
                      obtain ⟨Xx28, hXx28⟩ : ∃ X, X = ((Xx27.setCell ⟨Xx4.heap.size, 0, none⟩ (.bool bov)).setCell ⟨Xx4.heap.size, 1, none⟩ (.slice Aov lov.length cov)).setCell ⟨Xx4.heap.size, 2, none⟩ (.slice Dov mov.length dov) := ⟨_, rfl⟩
                      have HVx28 := Lib.hid (show JVQ Xx28 Xx4.heap.size _ _ by rw [hXx28]; exact JVQ.set ((JBox.on (JBox.on (JBox.on (JBox.on hxx23 hbx24) hbx25) hbx26) hbx27)) (hvx27))
                      have HBx28 := Lib.hid (show Below W5.heap.size W5 Xx28 by rw [hXx28]; exact (((HBx27.out).setCell (p := ⟨Xx4.heap.size, 0, none⟩) hwx23 _).setCell (p := ⟨Xx4.heap.size, 1, none⟩) hwx23 _).setCell (p := ⟨Xx4.heap.size, 2, none⟩) hwx23 _)
                      refine run_one (i := 16) (by kernel_rfl) rfl rfl ?_
                      intro K hK
                      go_simp
                      rw [← hXx28]
                      refine hK.out _ _ (HKS.out _ HBx28.out) ?_
                      clear hK K k0 k1 k2 z0 z1 z2 hlt hXx28
                      intro _
                      (try simp only [List.getElem_toArray, List.getElem_cons_succ, List.getElem_cons_zero, Act.put, List.setIfInBounds_toArray, List.set_cons_zero, List.set_cons_succ])
                      refine wpAnyH_done (by kernel_rfl) ?_ _
                      refine NoPanic.normal ?_
                      go_wp2_with fail
                      go_meet
                      exact ⟨Xx4.heap.size, rfl, by rw [← HEB.out]; exact HVx28.out, HBx28.out⟩
                    exact AllReadyH.nil
                  refine AllReadyH.cons rfl (fun K hK => ?_) ?_
                  · obtain ⟨Xx29, hXx29⟩ : ∃ X, X = Xx3.alloc (.cells #[.bool false, .slice none 0 0, .slice none 0 0] 53) := ⟨_, rfl⟩
                    have hbx29 : Below Xx3.heap.size Xx3 Xx29 := by rw [hXx29]; exact (Below.refl _ _).alloc (Nat.le_refl _) _
                    have hxx29 : JBox Xx29 Xx3.heap.size := by rw [hXx29]; exact alloc_at _ _ _ rfl
                    have HBx29 := Lib.hid (below_next (HBx3.out) hbx29)
                    have hwx29 : W5.heap.size ≤ Xx3.heap.size := (HBx3.out).size
                    go_simp
                    rw [← hXx29]
                    clear hXx29
                    refine hK.out _ _ (HKS.out _ HBx29.out) ?_
                    clear hK K
                    intro _
                    (try simp only [List.getElem_toArray, List.getElem_cons_succ, List.getElem_cons_zero, Act.put, List.setIfInBounds_toArray, List.set_cons_zero, List.set_cons_succ])
                    refine run_one (i := 8) (by kernel_rfl) rfl rfl ?_
                    intro K hK
                    go_simp
                    (with_reducible refine (jOppQ _ _ _ Xx29 ((hvx3).on hbx29)).mono ?_)
                    rintro e Xx30 ⟨v30, rfl, hvx30, hbx30⟩
                    have HBx30 := Lib.hid (below_next (HBx29.out) hbx30)
                    refine hK.out _ _ (HKS.out _ HBx30.out) ?_
                    clear hK K
                    intro _
                    obtain ⟨bop, Aop, cop, lop, Dop, dop, mop, rfl⟩ := hvx30.shape
                    (try simp only [List.getElem_toArray, List.getElem_cons_succ, List.getElem_cons_zero, Act.put, List.setIfInBounds_toArray, List.set_cons_zero, List.set_cons_succ])
                    refine run_one (i := 9) (by kernel_rfl) rfl rfl ?_
                    intro K hK
                    go_simp
                    obtain ⟨Xx31, hXx31⟩ : ∃ X, X = Xx30.alloc (.cells #[.bool bwy, .slice Awy lwy.length cwy, .slice Dwy mwy.length dwy, .bool bop, .slice Aop lop.length cop, .slice Dop mop.length dop] 53) := ⟨_, rfl⟩
                    have hbx31 : Below Xx30.heap.size Xx30 Xx31 := by rw [hXx31]; exact (Below.refl _ _).alloc (Nat.le_refl _) _
                    have HBx31 := Lib.hid (below_next (HBx30.out) hbx31)
                    have hTx31 : JTwo Xx31 Xx30.heap.size (v2 : Rat) (-(linA l * (v1 : Rat))) 1 (2 + 1) := ⟨bwy, Awy, cwy, lwy, Dwy, dwy, mwy, bop, Aop, cop, lop, Dop, dop, mop, _, by rw [hXx31]; exact alloc_at _ _ _ rfl, (((((hvx1).on hbx2).on hbx3).on hbx29).on hbx30).on hbx31, (hvx30).on hbx31⟩
                    rw [← hXx31]
                    clear hXx31
                    refine hK.out _ _ (HKS.out _ HBx31.out) ?_
                    clear hK K
                    intro _
                    (try simp only [List.getElem_toArray, List.getElem_cons_succ, List.getElem_cons_zero, Act.put, List.setIfInBounds_toArray, List.set_cons_zero, List.set_cons_succ])
                    refine run_one (i := 10) (by kernel_rfl) rfl rfl ?_
                    intro K hK
                    go_simp
                    (with_reducible refine (jSum_any _ 1 (2 + 1) _ _ Xx31 (by omega) (by omega) (hTx31)).mono ?_)
                    rintro e Xx32 ⟨v32, rfl, hvx32, hbx32⟩
                    have HBx32 := Lib.hid (below_next (HBx31.out) hbx32)
                    refine hK.out _ _ (HKS.out _ HBx32.out) ?_
                    clear hK K
                    intro _
                    obtain ⟨bsm, Asm, csm, lsm, Dsm, dsm, msm, rfl⟩ := hvx32.shape
                    (try simp only [List.getElem_toArray, List.getElem_cons_succ, List.getElem_cons_zero, Act.put, List.setIfInBounds_toArray, List.set_cons_zero, List.set_cons_succ])
                    refine run_one (i := 13) (by kernel_rfl) rfl rfl ?_
                    intro K hK
                    go_simp
                    (with_reducible refine (HWN.out Xx32).mono ?_)
                    rintro e Xx33 ⟨v33, rfl, hvx33, hbx33⟩
                    have HBx33 := Lib.hid (below_next (HBx32.out) hbx33)
                    refine hK.out _ _ (HKS.out _ HBx33.out) ?_
                    clear hK K
                    intro _
                    obtain ⟨bwn, Awn, cwn, lwn, Dwn, dwn, mwn, rfl⟩ := hvx33.shape
                    (try simp only [List.getElem_toArray, List.getElem_cons_succ, List.getElem_cons_zero, Act.put, List.setIfInBounds_toArray, List.set_cons_zero, List.set_cons_succ])
                    refine run_one (i := 14) (by kernel_rfl) rfl rfl ?_
                    intro K hK
                    go_simp
                    (with_reducible refine (jOverQ (1 + (2 + 1) + 3) 1 _ _ _ _ Xx33 (by omega) (by omega) ((hvx32).on hbx33) (hvx33) HNE.out).mono ?_)
                    rintro e Xx34 ⟨v34, rfl, hvx34, hbx34⟩
                    have HBx34 := Lib.hid (below_next (HBx33.out) hbx34)
                    refine hK.out _ _ (HKS.out _ HBx34.out) ?_
                    clear hK K
                    intro _
                    obtain ⟨bov, Aov, cov, lov, Dov, dov, mov, rfl⟩ := hvx34.shape
                    (try simp only [List.getElem_toArray, List.getElem_cons_succ, List.getElem_cons_zero, Act.put, List.setIfInBounds_toArray, List.set_cons_zero, List.set_cons_succ])
                    obtain ⟨k0, k1, k2, z0, z1, z2, hlt⟩ := JBox.facts ((JBox.on (JBox.on (JBox.on (JBox.on (JBox.on hxx29 hbx30) hbx31) hbx32) hbx33) hbx34))
                    obtain ⟨Xx35, hXx35⟩ : ∃ X, X = ((Xx34.setCell ⟨Xx3.heap.size, 0, none⟩ (.bool bov)).setCell ⟨Xx3.heap.size, 1, none⟩ (.slice Aov lov.length cov)).setCell ⟨Xx3.heap.size, 2, none⟩ (.slice Dov mov.length dov) := ⟨_, rfl⟩
                    have HVx35 := Lib.hid (show JVQ Xx35 Xx3.heap.size _ _ by rw [hXx35]; exact JVQ.set ((JBox.on (JBox.on (JBox.on (JBox.on (JBox.on hxx29 hbx30) hbx31) hbx32) hbx33) hbx34)) (hvx34))
                    have HBx35 := Lib.hid (show Below W5.heap.size W5 Xx35 by rw [hXx35]; exact (((HBx34.out).setCell (p := ⟨Xx3.heap.size, 0, none⟩) hwx29 _).setCell (p := ⟨Xx3.heap.size, 1, none⟩) hwx29 _).setCell (p := ⟨Xx3.heap.size, 2, none⟩) hwx29 _)
                    refine run_one (i := 16) (by kernel_rfl) rfl rfl ?_
                    intro K hK
                    go_simp
                    rw [← hXx35]
                    refine hK.out _ _ (HKS.out _ HBx35.out) ?_
                    clear hK K k0 k1 k2 z0 z1 z2 hlt hXx35
                    intro _
                    (try simp only [List.getElem_toArray, List.getElem_cons_succ, List.getElem_cons_zero, Act.put, List.setIfInBounds_toArray, List.set_cons_zero, List.set_cons_succ])
                    refine wpAnyH_done (by kernel_rfl) ?_ _
                    refine NoPanic.normal ?_
                    go_wp2_with fail
                    go_meet
                    exact ⟨Xx3.heap.size, rfl, by rw [← HEB.out]; exact HVx35.out, HBx35.out⟩
                  exact AllReadyH.nil
                refine AllReadyH.cons rfl (fun K hK => ?_) ?_
                · obtain ⟨Xx36, hXx36⟩ : ∃ X, X = Xx2.alloc (.cells #[.bool false, .slice none 0 0, .slice none 0 0] 53) := ⟨_, rfl⟩
                  have hbx36 : Below Xx2.heap.size Xx2 Xx36 := by rw [hXx36]; exact (Below.refl _ _).alloc (Nat.le_refl _) _
                  have hxx36 : JBox Xx36 Xx2.heap.size := by rw [hXx36]; exact alloc_at _ _ _ rfl
                  have HBx36 := Lib.hid (below_next (HBx2.out) hbx36)
                  have hwx36 : W5.heap.size ≤ Xx2.heap.size := (HBx2.out).size
                  go_simp
                  rw [← hXx36]
                  clear hXx36
                  refine hK.out _ _ (HKS.out _ HBx36.out) ?_
                  clear hK K
                  intro _
                  (try simp only [List.getElem_toArray, List.getElem_cons_succ, List.getElem_cons_zero, Act.put, List.setIfInBounds_toArray, List.set_cons_zero, List.set_cons_succ])
                  refine run_one (i := 7) (by kernel_rfl) rfl rfl ?_
                  intro K hK
                  go_simp
                  (with_reducible refine (jTimesQ 2 1 _ _ _ _ Xx36 (by omega) (by omega) (HA5.out.on (HBx36.out)) ((hvx2).on hbx36)).mono ?_)
                  rintro e Xx37 ⟨v37, rfl, hvx37, hbx37⟩
                  have HBx37 := Lib.hid (below_next (HBx36.out) hbx37)
                  refine hK.out _ _ (HKS.out _ HBx37.out) ?_
                  clear hK K
                  intro _
                  obtain ⟨bax, Aax, cax, lax, Dax, dax, max, rfl⟩ := hvx37.shape
                  (try simp only [List.getElem_toArray, List.getElem_cons_succ, List.getElem_cons_zero, Act.put, List.setIfInBounds_toArray, List.set_cons_zero, List.set_cons_succ])
                  refine run_one (i := 8) (by kernel_rfl) rfl rfl ?_
                  intro K hK
                  go_simp
                  (with_reducible refine (jOppQ _ _ _ Xx37 (hvx37)).mono ?_)
                  rintro e Xx38 ⟨v38, rfl, hvx38, hbx38⟩
                  have HBx38 := Lib.hid (below_next (HBx37.out) hbx38)
                  refine hK.out _ _ (HKS.out _ HBx38.out) ?_
                  clear hK K
                  intro _
                  obtain ⟨bop, Aop, cop, lop, Dop, dop, mop, rfl⟩ := hvx38.shape
                  (try simp only [List.getElem_toArray, List.getElem_cons_succ, List.getElem_cons_zero, Act.put, List.setIfInBounds_toArray, List.set_cons_zero, List.set_cons_succ])
                  refine run_one (i := 9) (by kernel_rfl) rfl rfl ?_
                  intro K hK
                  go_simp
                  obtain ⟨Xx39, hXx39⟩ : ∃ X, X = Xx38.alloc (.cells #[.bool bwy, .slice Awy lwy.length cwy, .slice Dwy mwy.length dwy, .bool bop, .slice Aop lop.length cop, .slice Dop mop.length dop] 53) := ⟨_, rfl⟩
                  have hbx39 : Below Xx38.heap.size Xx38 Xx39 := by rw [hXx39]; exact (Below.refl _ _).alloc (Nat.le_refl _) _
                  have HBx39 := Lib.hid (below_next (HBx38.out) hbx39)
                  have hTx39 : JTwo Xx39 Xx38.heap.size (v2 : Rat) (-(linA l * (v1 : Rat))) 1 (2 + 1) := ⟨bwy, Awy, cwy, lwy, Dwy, dwy, mwy, bop, Aop, cop, lop, Dop, dop, mop, _, by rw [hXx39]; exact alloc_at _ _ _ rfl, (((((hvx1).on hbx2).on hbx36).on hbx37).on hbx38).on hbx39, (hvx38).on hbx39⟩
                  rw [← hXx39]
                  clear hXx39
                  refine hK.out _ _ (HKS.out _ HBx39.out) ?_
                  clear hK K
                  intro _
                  (try simp only [List.getElem_toArray, List.getElem_cons_succ, List.getElem_cons_zero, Act.put, List.setIfInBounds_toArray, List.set_cons_zero, List.set_cons_succ])
                  refine run_one (i := 10) (by kernel_rfl) rfl rfl ?_
                  intro K hK
                  go_simp
                  (with_reducible refine (jSum_any _ 1 (2 + 1) _ _ Xx39 (by omega) (by omega) (hTx39)).mono ?_)
                  rintro e Xx40 ⟨v40, rfl, hvx40, hbx40⟩
                  have HBx40 := Lib.hid (below_next (HBx39.out) hbx40)
                  refine hK.out _ _ (HKS.out _ HBx40.out) ?_
                  clear hK K
                  intro _
                  obtain ⟨bsm, Asm, csm, lsm, Dsm, dsm, msm, rfl⟩ := hvx40.shape
                  (try simp only [List.getElem_toArray, List.getElem_cons_succ, List.getElem_cons_zero, Act.put, List.setIfInBounds_toArray, List.set_cons_zero, List.set_cons_succ])
                  refine run_one (i := 13) (by kernel_rfl) rfl rfl ?_
                  intro K hK
                  go_simp
                  (with_reducible refine (HWN.out Xx40).mono ?_)
                  rintro e Xx41 ⟨v41, rfl, hvx41, hbx41⟩
                  have HBx41 := Lib.hid (below_next (HBx40.out) hbx41)
                  refine hK.out _ _ (HKS.out _ HBx41.out) ?_
                  clear hK K
                  intro _
                  obtain ⟨bwn, Awn, cwn, lwn, Dwn, dwn, mwn, rfl⟩ := hvx41.shape
                  (try simp only [List.getElem_toArray, List.getElem_cons_succ, List.getElem_cons_zero, Act.put, List.setIfInBounds_toArray, List.set_cons_zero, List.set_cons_succ])
                  refine run_one (i := 14) (by kernel_rfl) rfl rfl ?_
                  intro K hK
                  go_simp
                  (with_reducible refine (jOverQ (1 + (2 + 1) + 3) 1 _ _ _ _ Xx41 (by omega) (by omega) ((hvx40).on hbx41) (hvx41) HNE.out).mono ?_)
                  rintro e Xx42 ⟨v42, rfl, hvx42, hbx42⟩
                  have HBx42 := Lib.hid (below_next (HBx41.out) hbx42)
                  refine hK.out _ _ (HKS.out _ HBx42.out) ?_
                  clear hK K
                  intro _
                  obtain ⟨bov, Aov, cov, lov, Dov, dov, mov, rfl⟩ := hvx42.shape
                  (try simp only [List.getElem_toArray, List.getElem_cons_succ, List.getElem_cons_zero, Act.put, List.setIfInBounds_toArray, List.set_cons_zero, List.set_cons_succ])
                  obtain ⟨k0, k1, k2, z0, z1, z2, hlt⟩ := JBox.facts ((JBox.on (JBox.on (JBox.on (JBox.on (JBox.on (JBox.on hxx36 hbx37) hbx38) hbx39) hbx40) hbx41) hbx42))
                  obtain ⟨Xx43, hXx43⟩ : ∃ X, X = ((Xx42.setCell ⟨Xx2.heap.size, 0, none⟩ (.bool bov)).setCell ⟨Xx2.heap.size, 1, none⟩ (.slice Aov lov.length cov)).setCell ⟨Xx2.heap.size, 2, none⟩ (.slice Dov mov.length dov) := ⟨_, rfl⟩
                  have HVx43 := Lib.hid (show JVQ Xx43 Xx2.heap.size _ _ by rw [hXx43]; exact JVQ.set ((JBox.on (JBox.on (JBox.on (JBox.on (JBox.on (JBox.on hxx36 hbx37) hbx38) hbx39) hbx40) hbx41) hbx42)) (hvx42))
                  have HBx43 := Lib.hid (show Below W5.heap.size W5 Xx43 by rw [hXx43]; exact (((HBx42.out).setCell (p := ⟨Xx2.heap.size, 0, none⟩) hwx36 _).setCell (p := ⟨Xx2.heap.size, 1, none⟩) hwx36 _).setCell (p := ⟨Xx2.heap.size, 2, none⟩) hwx36 _)
                  refine run_one (i := 16) (by kernel_rfl) rfl rfl ?_
                  intro K hK
                  go_simp
                  rw [← hXx43]
                  refine hK.out _ _ (HKS.out _ HBx43.out) ?_
                  clear hK K k0 k1 k2 z0 z1 z2 hlt hXx43
                  intro _
                  (try simp only [List.getElem_toArray, List.getElem_cons_succ, List.getElem_cons_zero, Act.put, List.setIfInBounds_toArray, List.set_cons_zero, List.set_cons_succ])
                  refine wpAnyH_done (by kernel_rfl) ?_ _
                  refine NoPanic.normal ?_
                  go_wp2_with fail
                  go_meet
                  exact ⟨Xx2.heap.size, rfl, by rw [← HEB.out]; exact HVx43.out, HBx43.out⟩
                exact AllReadyH.nil
              refine AllReadyH.cons rfl (fun K hK => ?_) ?_
              · obtain ⟨Xx44, hXx44⟩ : ∃ X, X = Xx1.alloc (.cells #[.bool false, .slice none 0 0, .slice none 0 0] 53) := ⟨_, rfl⟩
                have hbx44 : Below Xx1.heap.size Xx1 Xx44 := by rw [hXx44]; exact (Below.refl _ _).alloc (Nat.le_refl _) _
                have hxx44 : JBox Xx44 Xx1.heap.size := by rw [hXx44]; exact alloc_at _ _ _ rfl
                have HBx44 := Lib.hid (below_next (HBx1.out) hbx44)
                have hwx44 : W5.heap.size ≤ Xx1.heap.size := (HBx1.out).size
                go_simp
                rw [← hXx44]
                clear hXx44
                refine hK.out _ _ (HKS.out _ HBx44.out) ?_
                clear hK K
                intro _
                (try simp only [List.getElem_toArray, List.getElem_cons_succ, List.getElem_cons_zero, Act.put, List.setIfInBounds_toArray, List.set_cons_zero, List.set_cons_succ])
                refine run_one (i := 6) (by kernel_rfl) rfl rfl ?_
                intro K hK
                go_simp
                (with_reducible refine (HWX.out Xx44).mono ?_)
                rintro e Xx45 ⟨v45, rfl, hvx45, hbx45⟩
                have HBx45 := Lib.hid (below_next (HBx44.out) hbx45)
                refine hK.out _ _ (HKS.out _ HBx45.out) ?_
                clear hK K
                intro _
                obtain ⟨bwx, Awx, cwx, lwx, Dwx, dwx, mwx, rfl⟩ := hvx45.shape
                (try simp only [List.getElem_toArray, List.getElem_cons_succ, List.getElem_cons_zero, Act.put, List.setIfInBounds_toArray, List.set_cons_zero, List.set_cons_succ])
                refine run_one (i := 7) (by kernel_rfl) rfl rfl ?_
                intro K hK
                go_simp
                (with_reducible refine (jTimesQ 2 1 _ _ _ _ Xx45 (by omega) (by omega) (HA5.out.on (HBx45.out)) (hvx45)).mono ?_)
                rintro e Xx46 ⟨v46, rfl, hvx46, hbx46⟩
                have HBx46 := Lib.hid (below_next (HBx45.out) hbx46)
                refine hK.out _ _ (HKS.out _ HBx46.out) ?_
                clear hK K
                intro _
                obtain ⟨bax, Aax, cax, lax, Dax, dax, max, rfl⟩ := hvx46.shape
                (try simp only [List.getElem_toArray, List.getElem_cons_succ, List.getElem_cons_zero, Act.put, List.setIfInBounds_toArray, List.set_cons_zero, List.set_cons_succ])
                refine run_one (i := 8) (by kernel_rfl) rfl rfl ?_
                intro K hK
                go_simp
                (with_reducible refine (jOppQ _ _ _ Xx46 (hvx46)).mono ?_)
                rintro e Xx47 ⟨v47, rfl, hvx47, hbx47⟩
                have HBx47 := Lib.hid (below_next (HBx46.out) hbx47)
                refine hK.out _ _ (HKS.out _ HBx47.out) ?_
                clear hK K
                intro _
                obtain ⟨bop, Aop, cop, lop, Dop, dop, mop, rfl⟩ := hvx47.shape
                (try simp only [List.getElem_toArray, List.getElem_cons_succ, List.getElem_cons_zero, Act.put, List.setIfInBounds_toArray, List.set_cons_zero, List.set_cons_succ])
                refine run_one (i := 9) (by kernel_rfl) rfl rfl ?_
                intro K hK
                go_simp
                obtain ⟨Xx48, hXx48⟩ : ∃ X, X = Xx47.alloc (.cells #[.bool bwy, .slice Awy lwy.length cwy, .slice Dwy mwy.length dwy, .bool bop, .slice Aop lop.length cop, .slice Dop mop.length dop] 53) := ⟨_, rfl⟩
                have hbx48 : Below Xx47.heap.size Xx47 Xx48 := by rw [hXx48]; exact (Below.refl _ _).alloc (Nat.le_refl _) _
                have HBx48 := Lib.hid (below_next (HBx47.out) hbx48)
                have hTx48 : JTwo Xx48 Xx47.heap.size (v2 : Rat) (-(linA l * (v1 : Rat))) 1 (2 + 1) := ⟨bwy, Awy, cwy, lwy, Dwy, dwy, mwy, bop, Aop, cop, lop, Dop, dop, mop, _, by rw [hXx48]; exact alloc_at _ _ _ rfl, (((((hvx1).on hbx44).on hbx45).on hbx46).on hbx47).on hbx48, (hvx47).on hbx48⟩
                rw [← hXx48]
                clear hXx48
                refine hK.out _ _ (HKS.out _ HBx48.out) ?_
                clear hK K
                intro _
                (try simp only [List.getElem_toArray, List.getElem_cons_succ, List.getElem_cons_zero, Act.put, List.setIfInBounds_toArray, List.set_cons_zero, List.set_cons_succ])
                refine run_one (i := 10) (by kernel_rfl) rfl rfl ?_
                intro K hK
                go_simp
                (with_reducible refine (jSum_any _ 1 (2 + 1) _ _ Xx48 (by omega) (by omega) (hTx48)).mono ?_)
                rintro e Xx49 ⟨v49, rfl, hvx49, hbx49⟩
                have HBx49 := Lib.hid (below_next (HBx48.out) hbx49)
                refine hK.out _ _ (HKS.out _ HBx49.out) ?_
                clear hK K
                intro _
                obtain ⟨bsm, Asm, csm, lsm, Dsm, dsm, msm, rfl⟩ := hvx49.shape
                (try simp only [List.getElem_toArray, List.getElem_cons_succ, List.getElem_cons_zero, Act.put, List.setIfInBounds_toArray, List.set_cons_zero, List.set_cons_succ])
                refine run_one (i := 13) (by kernel_rfl) rfl rfl ?_
                intro K hK
                go_simp
                (with_reducible refine (HWN.out Xx49).mono ?_)
                rintro e Xx50 ⟨v50, rfl, hvx50, hbx50⟩
                have HBx50 := Lib.hid (below_next (HBx49.out) hbx50)
                refine hK.out _ _ (HKS.out _ HBx50.out) ?_
                clear hK K
                intro _
                obtain ⟨bwn, Awn, cwn, lwn, Dwn, dwn, mwn, rfl⟩ := hvx50.shape
                (try simp only [List.getElem_toArray, List.getElem_cons_succ, List.getElem_cons_zero, Act.put, List.setIfInBounds_toArray, List.set_cons_zero, List.set_cons_succ])
                refine run_one (i := 14) (by kernel_rfl) rfl rfl ?_
                intro K hK
                go_simp
                (with_reducible refine (jOverQ (1 + (2 + 1) + 3) 1 _ _ _ _ Xx50 (by omega) (by omega) ((hvx49).on hbx50) (hvx50) HNE.out).mono ?_)
                rintro e Xx51 ⟨v51, rfl, hvx51, hbx51⟩
                have HBx51 := Lib.hid (below_next (HBx50.out) hbx51)
                refine hK.out _ _ (HKS.out _ HBx51.out) ?_
                clear hK K
                intro _
                obtain ⟨bov, Aov, cov, lov, Dov, dov, mov, rfl⟩ := hvx51.shape
                (try simp only [List.getElem_toArray, List.getElem_cons_succ, List.getElem_cons_zero, Act.put, List.setIfInBounds_toArray, List.set_cons_zero, List.set_cons_succ])
                obtain ⟨k0, k1, k2, z0, z1, z2, hlt⟩ := JBox.facts ((JBox.on (JBox.on (JBox.on (JBox.on (JBox.on (JBox.on (JBox.on hxx44 hbx45) hbx46) hbx47) hbx48) hbx49) hbx50) hbx51))
                obtain ⟨Xx52, hXx52⟩ : ∃ X, X = ((Xx51.setCell ⟨Xx1.heap.size, 0, none⟩ (.bool bov)).setCell ⟨Xx1.heap.size, 1, none⟩ (.slice Aov lov.length cov)).setCell ⟨Xx1.heap.size, 2, none⟩ (.slice Dov mov.length dov) := ⟨_, rfl⟩
                have HVx52 := Lib.hid (show JVQ Xx52 Xx1.heap.size _ _ by rw [hXx52]; exact JVQ.set ((JBox.on (JBox.on (JBox.on (JBox.on (JBox.on (JBox.on (JBox.on hxx44 hbx45) hbx46) hbx47) hbx48) hbx49) hbx50) hbx51)) (hvx51))
                have HBx52 := Lib.hid (show Below W5.heap.size W5 Xx52 by rw [hXx52]; exact (((HBx51.out).setCell (p := ⟨Xx1.heap.size, 0, none⟩) hwx44 _).setCell (p := ⟨Xx1.heap.size, 1, none⟩) hwx44 _).setCell (p := ⟨Xx1.heap.size, 2, none⟩) hwx44 _)
                refine run_one (i := 16) (by kernel_rfl) rfl rfl ?_
                intro K hK
                go_simp
                rw [← hXx52]
                refine hK.out _ _ (HKS.out _ HBx52.out) ?_
                clear hK K k0 k1 k2 z0 z1 z2 hlt hXx52
                intro _
                (try simp only [List.getElem_toArray, List.getElem_cons_succ, List.getElem_cons_zero, Act.put, List.setIfInBounds_toArray, List.set_cons_zero, List.set_cons_succ])
                refine wpAnyH_done (by kernel_rfl) ?_ _
                refine NoPanic.normal ?_
                go_wp2_with fail
                go_meet
                exact ⟨Xx1.heap.size, rfl, by rw [← HEB.out]; exact HVx52.out, HBx52.out⟩
              exact AllReadyH.nil
            refine AllReadyH.cons rfl (fun K hK => ?_) ?_
            · obtain ⟨Xx53, hXx53⟩ : ∃ X, X = Xx0.alloc (.cells #[.bool false, .slice none 0 0, .slice none 0 0] 53) := ⟨_, rfl⟩
              have hbx53 : Below Xx0.heap.size Xx0 Xx53 := by rw [hXx53]; exact (Below.refl _ _).alloc (Nat.le_refl _) _
              have hxx53 : JBox Xx53 Xx0.heap.size := by rw [hXx53]; exact alloc_at _ _ _ rfl
              have HBx53 := Lib.hid (below_next (HBx0.out) hbx53)
              have hwx53 : W5.heap.size ≤ Xx0.heap.size := (HBx0.out).size
              go_simp
              rw [← hXx53]
              clear hXx53
              refine hK.out _ _ (HKS.out _ HBx53.out) ?_
              clear hK K
              intro _
              (try simp only [List.getElem_toArray, List.getElem_cons_succ, List.getElem_cons_zero, Act.put, List.setIfInBounds_toArray, List.set_cons_zero, List.set_cons_succ])
              refine run_one (i := 2) (by kernel_rfl) rfl rfl ?_
              intro K hK
              go_simp
              (with_reducible refine (HWY.out Xx53).mono ?_)
              rintro e Xx54 ⟨v54, rfl, hvx54, hbx54⟩
              have HBx54 := Lib.hid (below_next (HBx53.out) hbx54)
              refine hK.out _ _ (HKS.out _ HBx54.out) ?_
              clear hK K
              intro _
              obtain ⟨bwy, Awy, cwy, lwy, Dwy, dwy, mwy, rfl⟩ := hvx54.shape
              (try simp only [List.getElem_toArray, List.getElem_cons_succ, List.getElem_cons_zero, Act.put, List.setIfInBounds_toArray, List.set_cons_zero, List.set_cons_succ])
              refine run_one (i := 6) (by kernel_rfl) rfl rfl ?_
              intro K hK
              go_simp
              (with_reducible refine (HWX.out Xx54).mono ?_)
              rintro e Xx55 ⟨v55, rfl, hvx55, hbx55⟩
              have HBx55 := Lib.hid (below_next (HBx54.out) hbx55)
              refine hK.out _ _ (HKS.out _ HBx55.out) ?_
              clear hK K
              intro _
              obtain ⟨bwx, Awx, cwx, lwx, Dwx, dwx, mwx, rfl⟩ := hvx55.shape
              (try simp only [List.getElem_toArray, List.getElem_cons_succ, List.getElem_cons_zero, Act.put, List.setIfInBounds_toArray, List.set_cons_zero, List.set_cons_succ])
              refine run_one (i := 7) (by kernel_rfl) rfl rfl ?_
              intro K hK
              go_simp
              (with_reducible refine (jTimesQ 2 1 _ _ _ _ Xx55 (by omega) (by omega) (HA5.out.on (HBx55.out)) (hvx55)).mono ?_)
              rintro e Xx56 ⟨v56, rfl, hvx56, hbx56⟩
              have HBx56 := Lib.hid (below_next (HBx55.out) hbx56)
              refine hK.out _ _ (HKS.out _ HBx56.out) ?_
              clear hK K
              intro _
              obtain ⟨bax, Aax, cax, lax, Dax, dax, max, rfl⟩ := hvx56.shape
              (try simp only [List.getElem_toArray, List.getElem_cons_succ, List.getElem_cons_zero, Act.put, List.setIfInBounds_toArray, List.set_cons_zero, List.set_cons_succ])
              refine run_one (i := 8) (by kernel_rfl) rfl rfl ?_
              intro K hK
              go_simp
              (with_reducible refine (jOppQ _ _ _ Xx56 (hvx56)).mono ?_)
              rintro e Xx57 ⟨v57, rfl, hvx57, hbx57⟩
              have HBx57 := Lib.hid (below_next (HBx56.out) hbx57)
              refine hK.out _ _ (HKS.out _ HBx57.out) ?_
              clear hK K
              intro _
              obtain ⟨bop, Aop, cop, lop, Dop, dop, mop, rfl⟩ := hvx57.shape
              (try simp only [List.getElem_toArray, List.getElem_cons_succ, List.getElem_cons_zero, Act.put, List.setIfInBounds_toArray, List.set_cons_zero, List.set_cons_succ])
              refine run_one (i := 9) (by kernel_rfl) rfl rfl ?_
              intro K hK
              go_simp
              obtain ⟨Xx58, hXx58⟩ : ∃ X, X = Xx57.alloc (.cells #[.bool bwy, .slice Awy lwy.length cwy, .slice Dwy mwy.length dwy, .bool bop, .slice Aop lop.length cop, .slice Dop mop.length dop] 53) := ⟨_, rfl⟩
              have hbx58 : Below Xx57.heap.size Xx57 Xx58 := by rw [hXx58]; exact (Below.refl _ _).alloc (Nat.le_refl _) _
              have HBx58 := Lib.hid (below_next (HBx57.out) hbx58)
              have hTx58 : JTwo Xx58 Xx57.heap.size (v2 : Rat) (-(linA l * (v1 : Rat))) 1 (2 + 1) := ⟨bwy, Awy, cwy, lwy, Dwy, dwy, mwy, bop, Aop, cop, lop, Dop, dop, mop, _, by rw [hXx58]; exact alloc_at _ _ _ rfl, ((((hvx54).on hbx55).on hbx56).on hbx57).on hbx58, (hvx57).on hbx58⟩
              rw [← hXx58]
              clear hXx58
              refine hK.out _ _ (HKS.out _ HBx58.out) ?_
              clear hK K
              intro _
              (try simp only [List.getElem_toArray, List.getElem_cons_succ, List.getElem_cons_zero, Act.put, List.setIfInBounds_toArray, List.set_cons_zero, List.set_cons_succ])
              refine run_one (i := 10) (by kernel_rfl) rfl rfl ?_
              intro K hK
              go_simp
              (with_reducible refine (jSum_any _ 1 (2 + 1) _ _ Xx58 (by omega) (by omega) (hTx58)).mono ?_)
              rintro e Xx59 ⟨v59, rfl, hvx59, hbx59⟩
              have HBx59 := Lib.hid (below_next (HBx58.out) hbx59)
              refine hK.out _ _ (HKS.out _ HBx59.out) ?_
              clear hK K
              intro _
              obtain ⟨bsm, Asm, csm, lsm, Dsm, dsm, msm, rfl⟩ := hvx59.shape
              (try simp only [List.getElem_toArray, List.getElem_cons_succ, List.getElem_cons_zero, Act.put, List.setIfInBounds_toArray, List.set_cons_zero, List.set_cons_succ])
              refine run_one (i := 13) (by kernel_rfl) rfl rfl ?_
              intro K hK
              go_simp
              (with_reducible refine (HWN.out Xx59).mono ?_)
              rintro e Xx60 ⟨v60, rfl, hvx60, hbx60⟩
              have HBx60 := Lib.hid (below_next (HBx59.out) hbx60)
              refine hK.out _ _ (HKS.out _ HBx60.out) ?_
              clear hK K
              intro _
              obtain ⟨bwn, Awn, cwn, lwn, Dwn, dwn, mwn, rfl⟩ := hvx60.shape
              (try simp only [List.getElem_toArray, List.getElem_cons_succ, List.getElem_cons_zero, Act.put, List.setIfInBounds_toArray, List.set_cons_zero, List.set_cons_succ])
              refine run_one (i := 14) (by kernel_rfl) rfl rfl ?_
              intro K hK
              go_simp
              (with_reducible refine (jOverQ (1 + (2 + 1) + 3) 1 _ _ _ _ Xx60 (by omega) (by omega) ((hvx59).on hbx60) (hvx60) HNE.out).mono ?_)
              rintro e Xx61 ⟨v61, rfl, hvx61, hbx61⟩
              have HBx61 := Lib.hid (below_next (HBx60.out) hbx61)
              refine hK.out _ _ (HKS.out _ HBx61.out) ?_
              clear hK K
              intro _
              obtain ⟨bov, Aov, cov, lov, Dov, dov, mov, rfl⟩ := hvx61.shape
              (try simp only [List.getElem_toArray, List.getElem_cons_succ, List.getElem_cons_zero, Act.put, List.setIfInBounds_toArray, List.set_cons_zero, List.set_cons_succ])
              obtain ⟨k0, k1, k2, z0, z1, z2, hlt⟩ := JBox.facts ((JBox.on (JBox.on (JBox.on (JBox.on (JBox.on (JBox.on (JBox.on (JBox.on hxx53 hbx54) hbx55) hbx56) hbx57) hbx58) hbx59) hbx60) hbx61))
              obtain ⟨Xx62, hXx62⟩ : ∃ X, X = ((Xx61.setCell ⟨Xx0.heap.size, 0, none⟩ (.bool bov)).setCell ⟨Xx0.heap.size, 1, none⟩ (.slice Aov lov.length cov)).setCell ⟨Xx0.heap.size, 2, none⟩ (.slice Dov mov.length dov) := ⟨_, rfl⟩
              have HVx62 := Lib.hid (show JVQ Xx62 Xx0.heap.size _ _ by rw [hXx62]; exact JVQ.set ((JBox.on (JBox.on (JBox.on (JBox.on (JBox.on (JBox.on (JBox.on (JBox.on hxx53 hbx54) hbx55) hbx56) hbx57) hbx58) hbx59) hbx60) hbx61)) (hvx61))
              have HBx62 := Lib.hid (show Below W5.heap.size W5 Xx62 by rw [hXx62]; exact (((HBx61.out).setCell (p := ⟨Xx0.heap.size, 0, none⟩) hwx53 _).setCell (p := ⟨Xx0.heap.size, 1, none⟩) hwx53 _).setCell (p := ⟨Xx0.heap.size, 2, none⟩) hwx53 _)
              refine run_one (i := 16) (by kernel_rfl) rfl rfl ?_
              intro K hK
              go_simp
              rw [← hXx62]
              refine hK.out _ _ (HKS.out _ HBx62.out) ?_
              clear hK K k0 k1 k2 z0 z1 z2 hlt hXx62
              intro _
              (try simp only [List.getElem_toArray, List.getElem_cons_succ, List.getElem_cons_zero, Act.put, List.setIfInBounds_toArray, List.set_cons_zero, List.set_cons_succ])
              refine wpAnyH_done (by kernel_rfl) ?_ _
              refine NoPanic.normal ?_
              go_wp2_with fail
              go_meet
              exact ⟨Xx0.heap.size, rfl, by rw [← HEB.out]; exact HVx62.out, HBx62.out⟩
            exact AllReadyH.nil
          case rest =>
            obtain ⟨Bf, rfl, hvf, hbc⟩ := hcut
            have HBC := Lib.hid (below_next HBF.out hbc)
            have HRA := Lib.hid (jRatioQ 2 _ (linA l) wc (by omega) (HA5.out.on hbc) (HTB.out wc (below_next HST0.out.below HBC.out)))
            have ea := (hbc.block _ (heap_lt HEA5.out)).trans HEA5.out
            have g0 : wc.cell? ⟨w4.heap.size, 0, none⟩ = some (.bool bA) := by rw [cellsAt ea]; rfl
            have g1 : wc.cell? ⟨w4.heap.size, 1, none⟩ = some (.slice A1 l1.length c1) := by rw [cellsAt ea]; rfl
            have g2 : wc.cell? ⟨w4.heap.size, 2, none⟩ = some (.slice A2 l2.length c2) := by rw [cellsAt ea]; rfl
            have HNEB := Lib.hid (show Bf ≠ w.heap.size by
              rintro rfl
              obtain ⟨b, A1, c1, l1, A2, c2, l2, e2, -⟩ := hvf
              have e1 : wc.heap[w.heap.size]? = _ := HSL.out.on HBC.out
              rw [e1] at e2
              simp at e2)
            have HVF := Lib.hid hvf
            have hrtA : ratOf (rtT (linA l)) = .agg #[.string ⟨(rtT (linA l)).1.toArray⟩, .string ⟨(rtT (linA l)).2.toArray⟩] := rfl
            obtain ⟨R1, hR1⟩ : ∃ R : ByteArray, R = ⟨(rtT (linA l)).1.toArray⟩ := ⟨_, rfl⟩
            obtain ⟨R2, hR2⟩ : ∃ R : ByteArray, R = ⟨(rtT (linA l)).2.toArray⟩ := ⟨_, rfl⟩
            rw [← hR1, ← hR2] at hrtA
            have hrtB : ratOf (rtT (linB l)) = .agg #[.string ⟨(rtT (linB l)).1.toArray⟩, .string ⟨(rtT (linB l)).2.toArray⟩] := rfl
            obtain ⟨R3, hR3⟩ : ∃ R : ByteArray, R = ⟨(rtT (linB l)).1.toArray⟩ := ⟨_, rfl⟩
            obtain ⟨R4, hR4⟩ : ∃ R : ByteArray, R = ⟨(rtT (linB l)).2.toArray⟩ := ⟨_, rfl⟩
            rw [← hR3, ← hR4] at hrtB
            rw [hrtA] at HRA
            have HRTA := Lib.hid hrtA
            have HRTB := Lib.hid hrtB
            obtain ⟨ra, hra⟩ : ∃ z, z = rtC (linA l) := ⟨_, rfl⟩
            obtain ⟨rb, hrb⟩ : ∃ z, z = rtC (linB l) := ⟨_, rfl⟩
            have HBV := Lib.hid (fun (W : World) (hW : Below w.heap.size w W) v (hv : JQ W v (linB l) (1 + (2 + 1) + 3 + 1)) => jRatioQ (1 + (2 + 1) + 3 + 1) v (linB l) W (by omega) hv (HTB.out W hW))
            rw [← hra] at HRA HA HB'
            rw [← hrb] at HB' HBV
            rw [hrtB] at HBV
            clear hvf hbc ea hrtA hrtB hR1 hR2 hR3 hR4
            go_wp2_with fail
            (with_reducible refine (HRA.out).mono ?_)
            rintro e w6b ⟨rfl, hb6⟩
            have HB6b := Lib.hid (below_next HBC.out hb6)
            have hvf6 := HVF.out.on hb6
            obtain ⟨x0, x1, x2, x3, x4⟩ := (HSL.out.on HB6b.out).facts
            obtain ⟨W7, hW7⟩ : ∃ W, W = (w6b.setCell ⟨w.heap.size, 0, none⟩ (.string R1)).setCell ⟨w.heap.size, 1, none⟩ (.string R2) := ⟨_, rfl⟩
            have HS7 := Lib.hid (show Txt2 W7 w.heap.size R1 R2 by rw [hW7]; exact txt2_set (HSL.out.on HB6b.out))
            have HO7 := Lib.hid (show Txt2 W7 (w.heap.size + 1) ⟨#[]⟩ ⟨#[]⟩ by rw [hW7]; exact (txt2_far (by omega)).trans (HOF.out.on HB6b.out))
            have HB7 := Lib.hid (show Below w.heap.size w W7 by rw [hW7]; exact txt2_below (below_next HST0.out.below HB6b.out) (Nat.le_refl _) _ _)
            obtain ⟨bF, F1, z5, t5, F2, z6, t6, efr, hjf⟩ := hvf6
            have HJ7 := Lib.hid (show JQ W7 (.agg #[.bool bF, .slice F1 t5.length z5, .slice F2 t6.length z6]) (linB l) (1 + (2 + 1) + 3 + 1) by rw [hW7]; exact hjf.keep (HSL.out.on HB6b.out) (by intro v hv z; simp at hv; rcases hv with rfl | rfl <;> simp) (fr2 _ _))
            have HE7 := Lib.hid (show W7.heap[Bf]? = some (.cells #[.bool bF, .slice F1 t5.length z5, .slice F2 t6.length z6] 53 (0, 0)) by rw [hW7]; exact (txt2_far HNEB.out).trans efr)
            clear hb6 efr hjf g0 g1 g2
            obtain ⟨s0, s1, s2, s3, s4⟩ := HS7.out.facts
            obtain ⟨o0, o1, o2, o3, o4⟩ := HO7.out.facts
            have f0 : W7.cell? ⟨Bf, 0, none⟩ = some (.bool bF) := by rw [cellsAt HE7.out]; rfl
            have f1 : W7.cell? ⟨Bf, 1, none⟩ = some (.slice F1 t5.length z5) := by rw [cellsAt HE7.out]; rfl
            have f2 : W7.cell? ⟨Bf, 2, none⟩ = some (.slice F2 t6.length z6) := by rw [cellsAt HE7.out]; rfl
            rw [hW7] at s0 s1 s2 s3 s4 o0 o1 o2 o3 o4 f0 f1 f2
            by_cases hra0 : ra = 0
            · have HCB := Lib.hid (HB'.out (by rw [hra0]))
              have HRV := Lib.hid (HBV.out W7 HB7.out _ HJ7.out)
              have t2 : (ra == 0) = true := by rw [hra0]; rfl
              subst hra0
              clear hra
              go_wp2_with fail
              rw [← hW7]
              clear hW7 x0 x1 x2 x3 x4 s0 s1 s2 s3 s4 o0 o1 o2 o3 o4 f0 f1 f2
              (with_reducible refine (HRV.out).mono ?_)
              rintro e w8 ⟨rfl, hb8⟩
              have HB8 := Lib.hid (below_next HB7.out hb8)
              have HS8 := Lib.hid (HS7.out.on hb8)
              have HO8 := Lib.hid (HO7.out.on hb8)
              obtain ⟨s0, s1, s2, s3, s4⟩ := HS8.out.facts
              obtain ⟨o0, o1, o2, o3, o4⟩ := HO8.out.facts
              clear hb8
              by_cases hrb0 : rb = 0
              · have HC := Lib.hid (HCB.out.trans hrb0)
                have HG := Lib.hid (HGOOD.out HC.out)
                have t3 : (rb != 0) = false := by rw [hrb0]; rfl
                subst hrb0
                have HKS := Lib.hid (show ∀ X, Below w.heap.size w X → Txt2 X w.heap.size R1 R2 → Txt2 X (w.heap.size + 1) R3 R4 → (fun X => Below w.heap.size w X ∧ X.cell? ⟨w.heap.size, 0, none⟩ = some (.string R1) ∧ X.cell? ⟨w.heap.size, 1, none⟩ = some (.string R2) ∧ X.cell? ⟨w.heap.size + 1, 0, none⟩ = some (.string R3) ∧ X.cell? ⟨w.heap.size + 1, 1, none⟩ = some (.string R4) ∧ Txt2 X w.heap.size R1 R2 ∧ Txt2 X (w.heap.size + 1) R3 R4) X from fun X h1 h2 h3 => by
                  obtain ⟨s0, s1, -, -, -⟩ := h2.facts
                  obtain ⟨o0, o1, -, -, -⟩ := h3.facts
                  exact ⟨h1, s0, s1, o0, o1, h2, h3⟩)
                obtain ⟨W9, hW9⟩ : ∃ W, W = (w8.setCell ⟨w.heap.size + 1, 0, none⟩ (.string R3)).setCell ⟨w.heap.size + 1, 1, none⟩ (.string R4) := ⟨_, rfl⟩
                have HS9 := Lib.hid (HKS.out W9 (by rw [hW9]; exact txt2_below HB8.out (by omega) _ _) (by rw [hW9]; exact (txt2_far (by omega)).trans HS8.out) (by rw [hW9]; exact txt2_set HO8.out))
                have hsz9 : W9.heap.size = w8.heap.size := by rw [hW9]; simp [World.setCell]
                clear hrb
                go_wp2_with fail
                rw [← hW9]
                clear hW9 s0 s1 s2 s3 s4 o0 o1 o2 o3 o4
                refine wp_region_noPanic ?_
                refine wp_region_held_drew (S := (fun X => Below w.heap.size w X ∧ X.cell? ⟨w.heap.size, 0, none⟩ = some (.string R1) ∧ X.cell? ⟨w.heap.size, 1, none⟩ = some (.string R2) ∧ X.cell? ⟨w.heap.size + 1, 0, none⟩ = some (.string R3) ∧ X.cell? ⟨w.heap.size + 1, 1, none⟩ = some (.string R4) ∧ Txt2 X w.heap.size R1 R2 ∧ Txt2 X (w.heap.size + 1) R3 R4)) (by kernel_rfl) (HKS.out _ HS9.out.1.drew HS9.out.2.2.2.2.2.1 HS9.out.2.2.2.2.2.2) (fun HS0 => ?_)
                obtain ⟨X0, hX0⟩ : ∃ X, X = W9.drew := ⟨_, rfl⟩
                rw [← hX0] at HS0 ⊢
                clear hX0
                refine wpAnyH_take (i := 0) (v := ?_) rfl (by kernel_rfl) (by kernel_rfl) (by kernel_rfl) (fun _ _ _ h => h) (Or.inl ⟨by rfl, ?_⟩) HS0 ?_
                rotate_left
                · intro W hW; (try dsimp only at hW); go_simp; try (with_reducible rfl)
                (try simp only [List.getElem_toArray, List.getElem_cons_succ, List.getElem_cons_zero, Act.put, List.setIfInBounds_toArray, List.set_cons_zero, List.set_cons_succ])
                refine wpAnyH_take (i := 1) (v := ?_) rfl (by kernel_rfl) (by kernel_rfl) (by kernel_rfl) (fun _ _ _ h => h) (Or.inl ⟨by rfl, ?_⟩) HS0 ?_
                rotate_left
                · intro W hW; (try dsimp only at hW); go_simp; try (with_reducible rfl)
                (try simp only [List.getElem_toArray, List.getElem_cons_succ, List.getElem_cons_zero, Act.put, List.setIfInBounds_toArray, List.set_cons_zero, List.set_cons_succ])
                have HSX := Lib.hid HS0
                obtain ⟨s0, s1, s2, s3, s4⟩ := HSX.out.2.2.2.2.2.1.facts
                obtain ⟨X1, hY⟩ : ∃ Y, Y = (X0.setCell ⟨w.heap.size, 0, none⟩ (.string R1)).setCell ⟨w.heap.size, 1, none⟩ (.string R2) := ⟨_, rfl⟩
                have HSY := HKS.out X1 (by rw [hY]; exact txt2_below HSX.out.1 (by omega) _ _) (by rw [hY]; exact txt2_set HSX.out.2.2.2.2.2.1) (by rw [hY]; exact (txt2_far (by omega)).trans HSX.out.2.2.2.2.2.2)
                clear HS0
                refine run_one (i := 2) (by kernel_rfl) rfl rfl ?_
                intro K hK
                go_simp
                rw [← hY]
                refine hK.out _ _ HSY ?_
                clear hK K hY HSX HSY s0 s1 s2 s3 s4
                intro HS0
                (try simp only [List.getElem_toArray, List.getElem_cons_succ, List.getElem_cons_zero, Act.put, List.setIfInBounds_toArray, List.set_cons_zero, List.set_cons_succ])
                have HSX := Lib.hid HS0
                obtain ⟨s0, s1, s2, s3, s4⟩ := HSX.out.2.2.2.2.2.2.facts
                obtain ⟨X2, hY⟩ : ∃ Y, Y = (X1.setCell ⟨(w.heap.size + 1), 0, none⟩ (.string R3)).setCell ⟨(w.heap.size + 1), 1, none⟩ (.string R4) := ⟨_, rfl⟩
                have HSY := HKS.out X2 (by rw [hY]; exact txt2_below HSX.out.1 (by omega) _ _) (by rw [hY]; exact (txt2_far (by omega)).trans HSX.out.2.2.2.2.2.1) (by rw [hY]; exact txt2_set HSX.out.2.2.2.2.2.2)
                clear HS0
                refine run_one (i := 3) (by kernel_rfl) rfl rfl ?_
                intro K hK
                go_simp
                rw [← hY]
                refine hK.out _ _ HSY ?_
                clear hK K hY HSX HSY s0 s1 s2 s3 s4
                intro HS0
                (try simp only [List.getElem_toArray, List.getElem_cons_succ, List.getElem_cons_zero, Act.put, List.setIfInBounds_toArray, List.set_cons_zero, List.set_cons_succ])
                refine wpAnyH_take (i := 4) (v := ?_) rfl (by kernel_rfl) (by kernel_rfl) (by kernel_rfl) (fun _ _ _ h => h) (Or.inl ⟨by rfl, ?_⟩) HS0 ?_
                rotate_left
                · intro W hW; (try dsimp only at hW); go_simp; try (with_reducible rfl)
                (try simp only [List.getElem_toArray, List.getElem_cons_succ, List.getElem_cons_zero, Act.put, List.setIfInBounds_toArray, List.set_cons_zero, List.set_cons_succ])
                refine wpAnyH_done (by kernel_rfl) ?_ _
                refine NoPanic.normal ?_
                obtain ⟨s0, s1, s2, s3, s4⟩ := HS0.2.2.2.2.2.1.facts
                obtain ⟨o0, o1, o2, o3, o4⟩ := HS0.2.2.2.2.2.2.facts
                have HBL := Lib.hid HS0.1
                clear HS0
                go_wp2
                refine bodyPost_ret (v := .tuple #[.agg #[.string R1, .string R2], .agg #[.string R3, .string R4], .int .i64 0]) (by simp [results, Tryz.results25, go_sem, s0, s1, o0, o1, s4, o4]) rfl ⟨by rw [HG.out.1, HG.out.2, HC.out, HRTA.out, HRTB.out], HBL.out⟩
              · have t3 : (rb != 0) = true := by rw [bne_iff_ne]; exact hrb0
                have HC := Lib.hid HCB.out
                have HF := Lib.hid (HBAD.out (by rw [HC.out]; exact hrb0))
                obtain ⟨W9, hW9⟩ : ∃ W, W = (w8.setCell ⟨w.heap.size + 1, 0, none⟩ (.string R3)).setCell ⟨w.heap.size + 1, 1, none⟩ (.string R4) := ⟨_, rfl⟩
                have HB9 := Lib.hid (show Below w.heap.size w W9 by rw [hW9]; exact txt2_below HB8.out (by omega) _ _)
                have HO9 := Lib.hid (show Txt2 W9 (w.heap.size + 1) R3 R4 by rw [hW9]; exact txt2_set HO8.out)
                have HS9 := Lib.hid (show Txt2 W9 w.heap.size R1 R2 by rw [hW9]; exact (txt2_far (by omega)).trans HS8.out)
                have HFN := Lib.hid (fun a b c d => txt2_below (B := w.heap.size + 1) (txt2_below (B := w.heap.size) HB9.out (Nat.le_refl _) a b) (by omega) c d)
                obtain ⟨p0, p1, p2, p3, p4⟩ := HS9.out.facts
                obtain ⟨q0, q1, q2, q3, q4⟩ := HO9.out.facts
                rw [hW9] at p0 p1 p2 p3 p4 q0 q1 q2 q3 q4
                clear hrb hrb0
                go_wp2
                rw [← hW9]
                rw [← hW9] at p0 p1 p2 p3 p4 q0 q1 q2 q3 q4
                refine bodyPost_ret (v := .tuple #[.agg #[.string ⟨#[]⟩, .string ⟨#[]⟩], .agg #[.string ⟨#[]⟩, .string ⟨#[]⟩], .int .i64 rb]) (by simp [results, Tryz.results25, go_sem, p0, p1, q0, q1, p4, q4]) rfl ⟨by rw [HF.out.1, HF.out.2, HC.out]; rfl, HFN.out _ _ _ _⟩
            · have t2 : (ra == 0) = false := by rw [beq_eq_false_iff_ne]; exact hra0
              have t3 : (ra != 0) = true := by rw [bne_iff_ne]; exact hra0
              have HC := Lib.hid (HA.out hra0)
              have HF := Lib.hid (HBAD.out (by rw [HC.out]; exact hra0))
              have HFN := Lib.hid (fun a b c d => txt2_below (B := w.heap.size + 1) (txt2_below (B := w.heap.size) HB7.out (Nat.le_refl _) a b) (by omega) c d)
              clear hra0 hra
              go_wp2
              rw [← hW7]
              rw [← hW7] at s0 s1 s2 s3 s4 o0 o1 o2 o3 o4
              refine bodyPost_ret (v := .tuple #[.agg #[.string ⟨#[]⟩, .string ⟨#[]⟩], .agg #[.string ⟨#[]⟩, .string ⟨#[]⟩], .int .i64 ra]) (by simp [results, Tryz.results25, go_sem, s0, s1, o0, o1, s4, o4]) rfl ⟨by rw [HF.out.1, HF.out.2, HC.out]; rfl, HFN.out _ _ _ _⟩
  · have HC := Lib.hid (lnC_pt hp)
    have HF := Lib.hid (ln_bad (xs := xs) (ys := ys) (by rw [lnC_pt hp]; exact hp))
    obtain ⟨cc, hcc⟩ : ∃ z, z = ptC xs ys := ⟨_, rfl⟩
    rw [← hcc] at HCK HC hp
    have t1 : (cc != 0) = true := by rw [bne_iff_ne]; exact hp
    clear hr1 hr2 htab hp hcc
    go_enter Tryz.func25, Tryz.ntmps25
    go_wp2_with fail
    rw [← hW0]
    clear hW0
    (with_reducible refine (HCK.out).mono ?_)
    rintro e w1 ⟨rfl, hb1⟩
    have HB1 := Lib.hid hb1
    clear hb1
    obtain ⟨x0, x1, x2, x3, x4⟩ := (HSL.out.on HB1.out).facts
    obtain ⟨y0, y1, y2, y3, y4⟩ := (HOF.out.on HB1.out).facts
    have HFN := Lib.hid (fun a b c d => txt2_below (B := w.heap.size + 1) (txt2_below (B := w.heap.size) (below_next HST0.out.below HB1.out) (Nat.le_refl _) a b) (by omega) c d)
    go_wp2
    refine bodyPost_ret (v := .tuple #[.agg #[.string ⟨#[]⟩, .string ⟨#[]⟩], .agg #[.string ⟨#[]⟩, .string ⟨#[]⟩], .int .i64 cc]) (by simp [results, Tryz.results25, go_sem, x0, x1, y0, y1, x4, y4]) rfl ⟨by rw [HF.out.1, HF.out.2, HC.out]; rfl, by first | exact HFN.out _ _ _ _ | exact below_next HST0.out.below HB1.out⟩
end Go.Proofs.YtpmnhdgajkickaaGreatDoor
