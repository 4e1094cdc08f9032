/- Package judge: where one line becomes another one. Printed by gen_jknee.py. -/
import Derived.Test.YtpmnhdgajkickaaGreatDoorJFar
import Derived.Test.YtpmnhdgajkickaaGreatDoorRunK
import Derived.Test.YtpmnhdgajkickaaGreatDoorL1
import Derived.Test.YtpmnhdgajkickaaGreatDoorL0
import Derived.Test.YtpmnhdgajkickaaGreatDoorL2
import Derived.Test.YtpmnhdgajkickaaGreatDoorLawRt
import Derived.BigQuiet
import Derived.Deep.QuietTactic
namespace Go.Proofs.YtpmnhdgajkickaaGreatDoor
open Go Go.RowKit Go.Proofs

theorem fr6 {w : World} {B : Nat} (u0 u1 u2 u3 u4 u5 : Value) : Fr (fun i => i = B) w ((((((w.setCell ⟨B, 0, none⟩ u0).setCell ⟨B, 1, none⟩ u1).setCell ⟨B, 2, none⟩ u2).setCell ⟨B, 3, none⟩ u3).setCell ⟨B, 4, none⟩ u4).setCell ⟨B, 5, none⟩ u5) :=
  ((((((Fr.refl (fun i => i = B) w).setCell (fun _ => rfl) _).setCell (fun _ => rfl) _).setCell (fun _ => rfl) _).setCell (fun _ => rfl) _).setCell (fun _ => rfl) _).setCell (fun _ => rfl) _
theorem JQ.keepM {w : World} {v : Value} {p : Rat} {n B : Nat} {v0 v1 v2 v3 v4 v5 : Int} {u0 u1 u2 u3 u4 u5 : Value} (h : JQ w v p n) (hB : w.heap[B]? = some (.cells #[.int .i64 v0, .int .i64 v1, .int .i64 v2, .int .i64 v3, .int .i64 v4, .int .i64 v5] 89 (0, 0))) : JQ ((((((w.setCell ⟨B, 0, none⟩ u0).setCell ⟨B, 1, none⟩ u1).setCell ⟨B, 2, none⟩ u2).setCell ⟨B, 3, none⟩ u3).setCell ⟨B, 4, none⟩ u4).setCell ⟨B, 5, none⟩ u5) v p n :=
  h.keep hB (by intro v hv z; simp at hv; rcases hv with rfl | rfl | rfl | rfl | rfl | rfl <;> simp) (fr6 _ _ _ _ _ _)
theorem jMinus {l : List (Int × Int)} {i : Nat} {a0 a1 a2 a3 a4 a5 u0 u1 u2 u3 u4 u5 : Int} (hok : OkP l) (hn : l.length ≤ 300) (ha : MomIs l a0 a1 a2 a3 a4 a5) (hu : MomIs (l.take i) u0 u1 u2 u3 u4 u5) : ∃ t0 t1 t2 t3 t4 t5 : Int, MomIs (l.drop i) t0 t1 t2 t3 t4 t5 ∧ ∀ w : World,
    Calls Tryz.prog 80 #[.agg #[.int .i64 a0, .int .i64 a1, .int .i64 a2, .int .i64 a3, .int .i64 a4, .int .i64 a5], .agg #[.int .i64 u0, .int .i64 u1, .int .i64 u2, .int .i64 u3, .int .i64 u4, .int .i64 u5]] w fun e w' => e = .returned (.agg #[.int .i64 t0, .int .i64 t1, .int .i64 t2, .int .i64 t3, .int .i64 t4, .int .i64 t5]) ∧ Below w.heap.size w w' := by
  obtain ⟨rfl, rfl, rfl, rfl, rfl, rfl⟩ := ha
  obtain ⟨rfl, rfl, rfl, rfl, rfl, rfl⟩ := hu
  obtain ⟨s1, s2, s3, s4, s5⟩ := sums_rest l i
  have hb := bndP hok hn
  have hc := bndP (hok.take i) (show (l.take i).length ≤ 300 by rw [List.length_take]; omega)
  have hlen : (((l.drop i).length : Nat) : Int) = (l.length : Nat) - ((l.take i).length : Nat) := by rw [List.length_drop, List.length_take]; omega
  refine ⟨_, _, _, _, _, _, ⟨rfl, rfl, rfl, rfl, rfl, rfl⟩, fun w => ?_⟩
  rw [hlen, s1, s2, s3, s4, s5]
  have n1 := hb.n
  have n2 := hc.n
  exact jMomMinus_any _ _ _ _ _ _ _ _ _ _ _ _ w (by omega) (by omega) (by have := hb.x1; omega) (by have := hb.x2; omega) (by have := hb.y1; omega) (by have := hb.y2; omega) (by have := hb.xx1; omega) (by have := hb.xx2; omega) (by have := hb.xy1; omega) (by have := hb.xy2; omega) (by have := hb.yy1; omega) (by have := hb.yy2; omega) (by omega) (by omega) (by have := hc.x1; omega) (by have := hc.x2; omega) (by have := hc.y1; omega) (by have := hc.y2; omega) (by have := hc.xx1; omega) (by have := hc.xx2; omega) (by have := hc.xy1; omega) (by have := hc.xy2; omega) (by have := hc.yy1; omega) (by have := hc.yy2; omega)
theorem jFar_mom {l : List (Int × Int)} {v0 v1 v2 v3 v4 v5 : Int} (hm : MomIs l v0 v1 v2 v3 v4 v5) (hb : BndP l) (hx : 0 < vXX l) (w : World) : Calls Tryz.prog 79 #[.agg #[.int .i64 v0, .int .i64 v1, .int .i64 v2, .int .i64 v3, .int .i64 v4, .int .i64 v5]] w (JQPost (linF l) 2 w) := by
  obtain ⟨rfl, rfl, rfl, rfl, rfl, rfl⟩ := hm
  exact jFar_any l w hb hx (vXX_len (by omega))
set_option maxHeartbeats 8000000 in
set_option maxRecDepth 100000 in
theorem jKnee_any (A B : Option Addr) (ca cb : Nat) (xs ys : List Int) (w : World) (hr1 : Rd w 0 w.heap.size 1 A xs.length (ints xs)) (hr2 : Rd w 0 w.heap.size 1 B ys.length (ints ys)) :
    Calls Tryz.prog 27 #[.slice A xs.length ca, .slice B ys.length cb] w fun e w' => e = .returned (.tuple #[.int .i64 (kneeV xs ys), .int .i64 (kneeC xs ys)]) ∧ Below w.heap.size w w' := by
  have HR1 := Lib.hid (fun W (hW : Below w.heap.size w W) => hr1.old hW)
  have HR2 := Lib.hid (fun W (hW : Below w.heap.size w W) => hr2.old hW)
  have HCK := Lib.hid (jChkPts_any A B ca cb xs ys w hr1 hr2)
  by_cases hp : ptC xs ys = 0
  · obtain ⟨hl, hn, hok⟩ := ptC_ok hp
    have hORD := knee_order hp
    have hFEW := knee_few hp
    have hOK := knee_ok hp
    have hTK := fun hr i => knee_take (i := i) hr hl
    have hDR := fun hr i => knee_drop (i := i) hr hl
    obtain ⟨KC, hKC⟩ : ∃ z, z = kneeC xs ys := ⟨_, rfl⟩
    obtain ⟨KV, hKV⟩ : ∃ z, z = kneeV xs ys := ⟨_, rfl⟩
    rw [← hKC, ← hKV] at hORD hFEW hOK
    rw [← hKC, ← hKV]
    obtain ⟨l, hlz⟩ : ∃ l, l = xs.zip ys := ⟨_, rfl⟩
    rw [← hlz] at hok hOK hTK hDR
    have hll : l.length = xs.length := by rw [hlz, List.length_zip]; omega
    have hget : ∀ k x y, xs[k]? = some x → ys[k]? = some y → l[k]? = some (x, y) := fun k x y h1 h2 => by rw [hlz]; exact zip_get h1 h2
    have hbd := bndP hok (by omega)
    rw [hp] at HCK
    have HLY := Lib.hid hl
    have HNX := Lib.hid (show ∀ k x y v0 v1 v2 v3 v4 v5, xs[k]? = some x → ys[k]? = some y → MomIs (l.take k) v0 v1 v2 v3 v4 v5 → _ from fun k x y v0 v1 v2 v3 v4 v5 h1 h2 hm => jMomNext hok (by omega) (hget k x y h1 h2) hm)
    have HMIN := Lib.hid (fun i a0 a1 a2 a3 a4 a5 u0 u1 u2 u3 u4 u5 (ha : MomIs l a0 a1 a2 a3 a4 a5) (hu : MomIs (l.take i) u0 u1 u2 u3 u4 u5) => jMinus hok (by omega) ha hu)
    have HBT := Lib.hid (fun i => bndP (hok.take i) (show (l.take i).length ≤ 300 by rw [List.length_take]; omega))
    have HBDR := Lib.hid (fun i => bndP (hok.drop i) (show (l.drop i).length ≤ 300 by rw [List.length_drop]; omega))
    rw [← hl]
    rw [← hl] at HCK
    obtain ⟨n, hnn⟩ : ∃ n, n = xs.length := ⟨_, rfl⟩
    have HN := Lib.hid hnn
    have HLL := Lib.hid (show l.length = n by rw [hll, hnn])
    rw [← hnn] at HCK hn hFEW hOK hTK hDR ⊢
    have HORD := Lib.hid hORD
    have HFEW := Lib.hid hFEW
    have HOKK := Lib.hid hOK
    have HTK := Lib.hid hTK
    have HDR := Lib.hid hDR
    clear hr1 hr2 hp hl hok hlz hll hget hbd hKC hKV hnn hORD hFEW hOK hTK hDR
    go_enter Tryz.func27, Tryz.ntmps27
    go_wp2_with fail
    (with_reducible refine (HCK.out).mono ?_)
    rintro e w1 ⟨rfl, hb1⟩
    have HB1 := Lib.hid hb1
    clear hb1
    go_wp2
    go_loopw [7] (fun kv wr => ∃ k : Nat, kv = .int .i64 (k : Nat) ∧ 1 ≤ k ∧ (k ≤ n ∨ k = 1) ∧ Hid (∀ j x y, j + 1 < k → xs[j]? = some x → xs[j + 1]? = some y → x < y) ∧ Below w.heap.size w wr) (fun kv _ => n + 1 - (intOf kv).toNat)
    case atStart => exact ⟨1, rfl, by omega, .inr rfl, Lib.hid (fun j x y h => by omega), HB1.out⟩
    case round =>
      obtain ⟨k, rfl, hk1, hk2, HRS, hbw⟩ := hrel
      have HBW := Lib.hid hbw
      by_cases hlt : k < n
      · obtain ⟨j, hj⟩ : ∃ j : Nat, (k : Int) - 1 = (j : Int) := ⟨k - 1, by omega⟩
        have HJ := Lib.hid (show k = j + 1 by omega)
        have hjl : j < n := by omega
        obtain ⟨b, o, u, hA, hb, hu, qk⟩ := (HR1.out wr hbw).at1 (show k < xs.length by rw [← HN.out]; exact hlt)
        obtain ⟨y, hy, rfl⟩ := ints_get hu
        obtain ⟨b', o', u', hA', hb', hu', qj⟩ := (HR1.out wr hbw).at1 (show j < xs.length by rw [← HN.out]; exact hjl)
        obtain ⟨x, hx, rfl⟩ := ints_get hu'
        subst hA
        simp only [Option.some.injEq, Addr.mk.injEq, and_true] at hA'
        obtain ⟨rfl, rfl⟩ := hA'
        have HX := Lib.hid hx
        have HY := Lib.hid hy
        clear hbw hu hu' hx hy
        by_cases hle : y ≤ x
        · have t1 : decide (y ≤ x) = true := decide_eq_true hle
          have HV := Lib.hid (HORD.out (fun hr => by have := hr j x y HX.out (by rw [← HJ.out]; exact HY.out); omega))
          go_wp2_with fail
          go_quiet (fail)
          go_wp2
          refine bodyPost_ret (v := .tuple #[.int .i64 0, .int .i64 10]) (by simp [results, Tryz.results27, go_sem]) rfl ⟨by rw [HV.out.1, HV.out.2], by first | exact HBW.out | exact below_drewN HBW.out _⟩
        · have t1 : decide (y ≤ x) = false := decide_eq_false hle
          have HRS2 := Lib.hid (show ∀ j' x' y', j' + 1 < k + 1 → xs[j']? = some x' → xs[j' + 1]? = some y' → x' < y' from fun j' x' y' h h1 h2 => by
            rcases Nat.lt_or_ge (j' + 1) k with g | g
            · exact HRS.out j' x' y' g h1 h2
            · obtain rfl : j' = j := by have := HJ.out; omega
              rw [HX.out] at h1
              rw [← HJ.out, HY.out] at h2
              obtain rfl := Option.some.inj h1
              obtain rfl := Option.some.inj h2
              omega)
          go_wp2_with fail
          go_quiet (fail)
          go_wp2
          go_roundw
          case rel => exact ⟨k + 1, by go_num, by omega, .inl (by omega), HRS2, by first | exact HBW.out | exact below_drewN HBW.out _⟩
          case measure => simp [intOf]; omega
      · have HRI := Lib.hid (show Rise xs from fun j x y h1 h2 => HRS.out j x y (by have := (List.getElem?_eq_some_iff.1 h2).1; have := HN.out; omega) h1 h2)
        clear hbw
        by_cases h4 : n < 4
        · have t2 : decide ((n : Int) < 4) = true := decide_eq_true (by omega)
          have HV := Lib.hid (HFEW.out HRI.out h4)
          go_wp2
          refine bodyPost_ret (v := .tuple #[.int .i64 0, .int .i64 13]) (by simp [results, Tryz.results27, go_sem]) rfl ⟨by rw [HV.out.1, HV.out.2], HBW.out⟩
        · have t2 : decide ((n : Int) < 4) = false := decide_eq_false (by omega)
          have HV := Lib.hid (HOKK.out HRI.out h4)
          have HTKK := Lib.hid (HTK.out HRI.out)
          have HDRR := Lib.hid (HDR.out HRI.out)
          obtain rfl : k = n := by omega
          obtain ⟨W2, hW2⟩ : ∃ W2, W2 = (wr.alloc (.cells #[.int .i64 0, .int .i64 0, .int .i64 0, .int .i64 0, .int .i64 0, .int .i64 0] 89)).alloc (.cells #[.int .i64 0, .int .i64 0, .int .i64 0, .int .i64 0, .int .i64 0, .int .i64 0] 89) := ⟨_, rfl⟩
          have HST2 := Lib.hid (show St wr W2 [(wr.heap.size, .cells #[.int .i64 0, .int .i64 0, .int .i64 0, .int .i64 0, .int .i64 0, .int .i64 0] 89 (0, 0)), (wr.heap.size + 1, .cells #[.int .i64 0, .int .i64 0, .int .i64 0, .int .i64 0, .int .i64 0, .int .i64 0] 89 (0, 0))] by rw [hW2]; exact ((St.start wr).alloc _ _ rfl).alloc _ _ (by simp))
          obtain ⟨B1, hB1⟩ : ∃ B, B = wr.heap.size := ⟨_, rfl⟩
          obtain ⟨B2, hB2⟩ : ∃ B, B = wr.heap.size + 1 := ⟨_, rfl⟩
          have HM1 := Lib.hid (show MBox W2 B1 (l.take 0) from ⟨0, 0, 0, 0, 0, 0, by rw [hB1]; exact HST2.out.at 0 rfl, mom_nil⟩)
          have HZ2 := Lib.hid (show W2.heap[B2]? = some (.cells #[.int .i64 0, .int .i64 0, .int .i64 0, .int .i64 0, .int .i64 0, .int .i64 0] 89 (0, 0)) by rw [hB2]; exact HST2.out.at 1 rfl)
          have HNE := Lib.hid (show B1 ≠ B2 by omega)
          have HLB1 := Lib.hid (show w.heap.size ≤ B1 by rw [hB1]; exact HBW.out.size)
          have HLB2 := Lib.hid (show w.heap.size ≤ B2 by rw [hB2]; exact Nat.le_succ_of_le HBW.out.size)
          have HB2 := Lib.hid (below_next HBW.out HST2.out.below)
          have HQ1 := Lib.hid hB1
          have HQ2 := Lib.hid hB2
          clear hB1 hB2
          go_wp2
          rw [← hW2, ← HQ1.out, show B1 + 1 = B2 by rw [HQ1.out, HQ2.out]]
          clear hW2
          go_loopw [10, 42] (fun _ kv wr => ∃ k' : Nat, kv = .int .i64 (k' : Nat) ∧ k' ≤ k ∧ MBox wr B1 (l.take k') ∧ wr.heap[B2]? = some (.cells #[.int .i64 0, .int .i64 0, .int .i64 0, .int .i64 0, .int .i64 0, .int .i64 0] 89 (0, 0)) ∧ Below w.heap.size w wr) (fun _ kv _ => k - (intOf kv).toNat)
          case atStart => exact ⟨0, rfl, Nat.zero_le _, HM1.out, HZ2.out, HB2.out⟩
          case round =>
            clear HBW
            obtain ⟨n', hn'⟩ : ∃ n', n' = k := ⟨_, rfl⟩
            subst hn'
            obtain ⟨k, rfl, hk, ⟨v0, v1, v2, v3, v4, v5, hem, hmi⟩, he2, hbw⟩ := hrel
            have HBW := Lib.hid hbw
            have HEM := Lib.hid hem
            have HE2 := Lib.hid he2
            by_cases hlt2 : k < n'
            · skip
              obtain ⟨bx, ox, ux, hAx, hbx, hux, qx⟩ := (HR1.out wr hbw).at1 (show k < xs.length by rw [← HN.out]; omega)
              obtain ⟨x, hx, rfl⟩ := ints_get hux
              obtain ⟨bY, oY, uY, hBy, hby, huy, qy⟩ := (HR2.out wr hbw).at1 (show k < ys.length by rw [← HLY.out, ← HN.out]; omega)
              obtain ⟨y, hy, rfl⟩ := ints_get huy
              subst hAx
              subst hBy
              obtain ⟨u0, u1, u2, u3, u4, u5, hui, had⟩ := HNX.out k x y v0 v1 v2 v3 v4 v5 hx hy hmi
              have HUI := Lib.hid hui
              have HAD := Lib.hid had
              have HKS := Lib.hid (show ∀ X, Below wr.heap.size wr X → (fun X => Below wr.heap.size wr X ∧ X.cell? ⟨B1, 0, none⟩ = some (.int .i64 v0) ∧ X.cell? ⟨B1, 1, none⟩ = some (.int .i64 v1) ∧ X.cell? ⟨B1, 2, none⟩ = some (.int .i64 v2) ∧ X.cell? ⟨B1, 3, none⟩ = some (.int .i64 v3) ∧ X.cell? ⟨B1, 4, none⟩ = some (.int .i64 v4) ∧ X.cell? ⟨B1, 5, none⟩ = some (.int .i64 v5) ∧ X.cell? ⟨bx, ox + k, none⟩ = some (.int .i64 x) ∧ X.cell? ⟨bY, oY + k, none⟩ = some (.int .i64 y)) X from fun X hX => by
                obtain ⟨e0, e1, e2, e3, e4, e5, -⟩ := mcells ((hX.block _ (heap_lt HEM.out)).trans HEM.out)
                exact ⟨hX, e0, e1, e2, e3, e4, e5, (hX.cell (p := ⟨bx, ox + k, none⟩) hbx).trans qx, (hX.cell (p := ⟨bY, oY + k, none⟩) hby).trans qy⟩)
              clear hem he2 hmi hbw hux hx huy hy hui had qx qy
              go_wp2_with fail
              {
 refine wp_region_last (init := #[_, _, _, _, _, _, _, _, _, _]) (last := _) rfl (by kernel_rfl) (by kernel_rfl) (by kernel_rfl) ?_
 show wpAny _ _ _ _ 10 (Array.replicate 10 false) _ wr.drew
 refine wpAny_of_held (S := (fun X => Below wr.heap.size wr X ∧ X.cell? ⟨B1, 0, none⟩ = some (.int .i64 v0) ∧ X.cell? ⟨B1, 1, none⟩ = some (.int .i64 v1) ∧ X.cell? ⟨B1, 2, none⟩ = some (.int .i64 v2) ∧ X.cell? ⟨B1, 3, none⟩ = some (.int .i64 v3) ∧ X.cell? ⟨B1, 4, none⟩ = some (.int .i64 v4) ∧ X.cell? ⟨B1, 5, none⟩ = some (.int .i64 v5) ∧ X.cell? ⟨bx, ox + k, none⟩ = some (.int .i64 x) ∧ X.cell? ⟨bY, oY + k, none⟩ = some (.int .i64 y))) _ _ _ _ ?_
 have HS0 := HKS.out _ (Below.refl _ wr).drew
 have hbx0 : Below wr.heap.size wr wr.drew := (Below.refl _ _).drew
 obtain ⟨Xx0, hXx0⟩ : ∃ X, X = wr.drew := ⟨_, rfl⟩
 rw [← hXx0] at hbx0 HS0 ⊢
 have HBx0 := Lib.hid hbx0
 clear hbx0 hXx0
 refine wpAnyH_take (i := 0) (v := ?_) rfl (by kernel_rfl) (by kernel_rfl) (by kernel_rfl) (fun _ _ _ h => h) (Or.inl ⟨by rfl, ?_⟩) HS0 ?_
 rotate_left
 · intro W hW; (try dsimp only at hW); go_simp; try (with_reducible rfl)
 refine wpAnyH_take (i := 1) (v := ?_) rfl (by kernel_rfl) (by kernel_rfl) (by kernel_rfl) (fun _ _ _ h => h) (Or.inl ⟨by rfl, ?_⟩) HS0 ?_
 rotate_left
 · intro W hW; (try dsimp only at hW); go_simp; try (with_reducible rfl)
 refine wpAnyH_take (i := 2) (v := ?_) rfl (by kernel_rfl) (by kernel_rfl) (by kernel_rfl) (fun _ _ _ h => h) (Or.inl ⟨by rfl, ?_⟩) HS0 ?_
 rotate_left
 · intro W hW; (try dsimp only at hW); go_simp; try (with_reducible rfl)
 refine wpAnyH_take (i := 3) (v := ?_) rfl (by kernel_rfl) (by kernel_rfl) (by kernel_rfl) (fun _ _ _ h => h) (Or.inl ⟨by rfl, ?_⟩) HS0 ?_
 rotate_left
 · intro W hW; (try dsimp only at hW); go_simp; try (with_reducible rfl)
 refine wpAnyH_take (i := 4) (v := ?_) rfl (by kernel_rfl) (by kernel_rfl) (by kernel_rfl) (fun _ _ _ h => h) (Or.inl ⟨by rfl, ?_⟩) HS0 ?_
 rotate_left
 · intro W hW; (try dsimp only at hW); go_simp; try (with_reducible rfl)
 refine wpAnyH_take (i := 5) (v := ?_) rfl (by kernel_rfl) (by kernel_rfl) (by kernel_rfl) (fun _ _ _ h => h) (Or.inl ⟨by rfl, ?_⟩) HS0 ?_
 rotate_left
 · intro W hW; (try dsimp only at hW); go_simp; try (with_reducible rfl)
 refine wpAnyH_take (i := 6) (v := ?_) rfl (by kernel_rfl) (by kernel_rfl) (by kernel_rfl) (fun _ _ _ h => h) (Or.inl ⟨by rfl, ?_⟩) HS0 ?_
 rotate_left
 · intro W hW; (try dsimp only at hW); go_simp; try (with_reducible rfl)
 refine wpAnyH_take (i := 7) (v := ?_) rfl (by kernel_rfl) (by kernel_rfl) (by kernel_rfl) (fun _ _ _ h => h) (Or.inl ⟨by rfl, ?_⟩) HS0 ?_
 rotate_left
 · intro W hW; (try dsimp only at hW); go_simp; try (with_reducible rfl)
 refine wpAnyH_take (i := 8) (v := ?_) rfl (by kernel_rfl) (by kernel_rfl) (by kernel_rfl) (fun _ _ _ h => h) (Or.inl ⟨by rfl, ?_⟩) HS0 ?_
 rotate_left
 · intro W hW; (try dsimp only at hW); go_simp; try (with_reducible rfl)
 clear HS0
 refine run_one (i := 9) (by kernel_rfl) rfl rfl ?_
 intro K hK
 go_simp
 (with_reducible refine (HAD.out Xx0).mono ?_)
 rintro e Xx1 ⟨rfl, hbx1⟩
 have HBx1 := Lib.hid (below_next (HBx0.out) hbx1)
 refine hK.out _ _ (HKS.out _ HBx1.out) ?_
 clear hK K
 intro _
 refine wpAnyH_done (by kernel_rfl) ?_ _
 simp only [LastQ]
 have HBK := Lib.hid (HBx1.out)
 obtain ⟨W9, hW9⟩ : ∃ W9, W9 = mset Xx1 B1 (.int .i64 u0) (.int .i64 u1) (.int .i64 u2) (.int .i64 u3) (.int .i64 u4) (.int .i64 u5) := ⟨_, rfl⟩
 have he := ((HBx1.out).block _ (heap_lt HEM.out)).trans HEM.out
 obtain ⟨-, -, -, -, -, -, z0, z1, z2, z3, z4, z5, hlz⟩ := mcells he
 have HM9 := Lib.hid (show MBox W9 B1 (l.take (k + 1)) from ⟨u0, u1, u2, u3, u4, u5, by rw [hW9]; exact mset_at he, HUI.out⟩)
 have HFAR := Lib.hid (show ∀ i, i < wr.heap.size → i ≠ B1 → W9.heap[i]? = wr.heap[i]? from fun i hi hne => by rw [hW9, mset_far hne]; exact (HBx1.out).block i hi)
 have HB9 := Lib.hid (show Below w.heap.size w W9 by rw [hW9]; exact mset_below (below_next HBW.out (HBx1.out)) HLB1.out)
 have HE9 := Lib.hid (show W9.heap[B1]? = some (.cells #[.int .i64 u0, .int .i64 u1, .int .i64 u2, .int .i64 u3, .int .i64 u4, .int .i64 u5] 89 (0, 0)) by rw [hW9]; exact mset_at he)
 unfold mset at hW9
 clear he
 go_simp
 go_wp2
 rw [← hW9]
 clear hW9
 go_roundw
 case rel => exact ⟨k + 1, by go_num, by omega, HM9.out, (HFAR.out B2 (heap_lt HE2.out) (fun h => HNE.out h.symm)).trans HE2.out, HB9.out⟩
 case measure => simp [intOf]; omega
              }
            · obtain rfl : k = n' := by omega
              rw [List.take_of_length_le (by rw [HLL.out]; exact Nat.le_refl _)] at hmi
              have HMA := Lib.hid hmi
              obtain ⟨W3, hW3⟩ : ∃ W, W = wr.alloc (.cells #[.bool false, .slice none 0 0, .slice none 0 0] 53) := ⟨_, rfl⟩
              obtain ⟨B3, hB3⟩ : ∃ B, B = wr.heap.size := ⟨_, rfl⟩
              have hb3 : Below wr.heap.size wr W3 := by rw [hW3]; exact (Below.refl _ wr).alloc (Nat.le_refl _) _
              have HS1 := Lib.hid ((hb3.block _ (heap_lt hem)).trans hem)
              have HS2 := Lib.hid ((hb3.block _ (heap_lt he2)).trans he2)
              have HS3 := Lib.hid (show W3.heap[B3]? = some (.cells #[.bool false, .slice none 0 0, .slice none 0 0] 53 (0, 0)) by rw [hB3, hW3]; exact alloc_at _ _ _ rfl)
              have HNE12 := Lib.hid HNE.out
              have HNE32 := Lib.hid (show B3 ≠ B2 by have := heap_lt he2; omega)
              have HNE31 := Lib.hid (show B3 ≠ B1 by have := heap_lt hem; omega)
              have HLB3 := Lib.hid (show w.heap.size ≤ B3 by rw [hB3]; exact hbw.size)
              have HB3 := Lib.hid (below_next hbw hb3)
              have HQ3 := Lib.hid hB3
              have hn2 : (2 : Int) ≤ (k : Int) := by omega
              obtain ⟨m, hm⟩ : ∃ m : Nat, (k : Int) - 2 = (m : Int) := ⟨k - 2, by omega⟩
              have HM := Lib.hid (show k = m + 2 by omega)
              have hm1 : 2 ≤ m := by omega
              clear hem he2 hmi hbw hb3 hB3
              go_wp2
              rw [← hW3, ← HQ3.out]
              clear hW3
              go_loopw [11, 13, 14, 59] (fun bv _ _ kv wr => ∃ i : Nat, kv = .int .i64 (i : Nat) ∧ i ≤ m ∧ bv = .int .i64 ((knB l (i - 1)).1 : Nat) ∧ MBox wr B2 (l.take i) ∧ MBox wr B1 l ∧ (∃ b A1 d1 e1 A2 d2 e2, wr.heap[B3]? = some (.cells #[.bool b, .slice A1 d1 e1, .slice A2 d2 e2] 53 (0, 0))) ∧ ((knB l (i - 1)).1 ≠ 0 → JVQ wr B3 (knB l (i - 1)).2 7) ∧ Below w.heap.size w wr) (fun _ _ _ kv _ => m - (intOf kv).toNat)
              case atStart => exact ⟨0, rfl, Nat.zero_le _, rfl, ⟨0, 0, 0, 0, 0, 0, HS2.out, mom_nil⟩, ⟨v0, v1, v2, v3, v4, v5, HS1.out, HMA.out⟩, ⟨false, none, 0, 0, none, 0, 0, HS3.out⟩, fun h => absurd rfl h, HB3.out⟩
              case round =>
                clear HMA
                obtain ⟨nk, hnk⟩ : ∃ n', n' = k := ⟨_, rfl⟩
                subst hnk
                obtain ⟨k, rfl, hk, rfl, ⟨v0, v1, v2, v3, v4, v5, hem, hmi⟩, ⟨a0, a1, a2, a3, a4, a5, he1, hma⟩, ⟨b0, A3, d3, e3, A4, d4, e4, he3⟩, hleast, hbw⟩ := hrel
                have HBW := Lib.hid hbw
                have HEM := Lib.hid hem
                have HE1 := Lib.hid he1
                have HE3 := Lib.hid he3
                have HMA := Lib.hid hma
                obtain ⟨bst, hbst⟩ : ∃ z, z = (knB l (k - 1)).1 := ⟨_, rfl⟩
                obtain ⟨lst, hlst⟩ : ∃ z, z = (knB l (k - 1)).2 := ⟨_, rfl⟩
                rw [← hbst, ← hlst] at hleast
                rw [← hbst]
                have HBST := Lib.hid hbst
                have HLST := Lib.hid hlst
                have HLEAST := Lib.hid hleast
                clear hbst hlst hleast
                by_cases hlt3 : k < m
                · have hkn : k < nk := by have := HM.out; omega
                  obtain ⟨bx, ox, ux, hAx, hbx, hux, qx⟩ := (HR1.out wr hbw).at1 (show k < xs.length by rw [← HN.out, HM.out]; omega)
                  obtain ⟨x, hx, rfl⟩ := ints_get hux
                  obtain ⟨bY, oY, uY, hBy, hby, huy, qy⟩ := (HR2.out wr hbw).at1 (show k < ys.length by rw [← HLY.out, ← HN.out, HM.out]; omega)
                  obtain ⟨y, hy, rfl⟩ := ints_get huy
                  subst hAx
                  subst hBy
                  obtain ⟨u0, u1, u2, u3, u4, u5, hui, had⟩ := HNX.out k x y v0 v1 v2 v3 v4 v5 hx hy hmi
                  have HUI := Lib.hid hui
                  have HAD := Lib.hid had
                  have HKS := Lib.hid (show ∀ X, Below wr.heap.size wr X → (fun X => Below wr.heap.size wr X ∧ X.cell? ⟨B2, 0, none⟩ = some (.int .i64 v0) ∧ X.cell? ⟨B2, 1, none⟩ = some (.int .i64 v1) ∧ X.cell? ⟨B2, 2, none⟩ = some (.int .i64 v2) ∧ X.cell? ⟨B2, 3, none⟩ = some (.int .i64 v3) ∧ X.cell? ⟨B2, 4, none⟩ = some (.int .i64 v4) ∧ X.cell? ⟨B2, 5, none⟩ = some (.int .i64 v5) ∧ X.cell? ⟨bx, ox + k, none⟩ = some (.int .i64 x) ∧ X.cell? ⟨bY, oY + k, none⟩ = some (.int .i64 y)) X from fun X hX => by
                    obtain ⟨e0, e1, e2, e3, e4, e5, -⟩ := mcells ((hX.block _ (heap_lt HEM.out)).trans HEM.out)
                    exact ⟨hX, e0, e1, e2, e3, e4, e5, (hX.cell (p := ⟨bx, ox + k, none⟩) hbx).trans qx, (hX.cell (p := ⟨bY, oY + k, none⟩) hby).trans qy⟩)
                  clear hem he1 he3 hma hmi hbw hux hx huy hy hui had qx qy
                  go_wp2_with fail
                  {
 refine wp_region_last (init := #[_, _, _, _, _, _, _, _, _, _]) (last := _) rfl (by kernel_rfl) (by kernel_rfl) (by kernel_rfl) ?_
 show wpAny _ _ _ _ 10 (Array.replicate 10 false) _ wr.drew
 refine wpAny_of_held (S := (fun X => Below wr.heap.size wr X ∧ X.cell? ⟨B2, 0, none⟩ = some (.int .i64 v0) ∧ X.cell? ⟨B2, 1, none⟩ = some (.int .i64 v1) ∧ X.cell? ⟨B2, 2, none⟩ = some (.int .i64 v2) ∧ X.cell? ⟨B2, 3, none⟩ = some (.int .i64 v3) ∧ X.cell? ⟨B2, 4, none⟩ = some (.int .i64 v4) ∧ X.cell? ⟨B2, 5, none⟩ = some (.int .i64 v5) ∧ X.cell? ⟨bx, ox + k, none⟩ = some (.int .i64 x) ∧ X.cell? ⟨bY, oY + k, none⟩ = some (.int .i64 y))) _ _ _ _ ?_
 have HS0 := HKS.out _ (Below.refl _ wr).drew
 have hbx0 : Below wr.heap.size wr wr.drew := (Below.refl _ _).drew
 obtain ⟨Xx0, hXx0⟩ : ∃ X, X = wr.drew := ⟨_, rfl⟩
 rw [← hXx0] at hbx0 HS0 ⊢
 have HBx0 := Lib.hid hbx0
 clear hbx0 hXx0
 refine wpAnyH_take (i := 0) (v := ?_) rfl (by kernel_rfl) (by kernel_rfl) (by kernel_rfl) (fun _ _ _ h => h) (Or.inl ⟨by rfl, ?_⟩) HS0 ?_
 rotate_left
 · intro W hW; (try dsimp only at hW); go_simp; try (with_reducible rfl)
 refine wpAnyH_take (i := 1) (v := ?_) rfl (by kernel_rfl) (by kernel_rfl) (by kernel_rfl) (fun _ _ _ h => h) (Or.inl ⟨by rfl, ?_⟩) HS0 ?_
 rotate_left
 · intro W hW; (try dsimp only at hW); go_simp; try (with_reducible rfl)
 refine wpAnyH_take (i := 2) (v := ?_) rfl (by kernel_rfl) (by kernel_rfl) (by kernel_rfl) (fun _ _ _ h => h) (Or.inl ⟨by rfl, ?_⟩) HS0 ?_
 rotate_left
 · intro W hW; (try dsimp only at hW); go_simp; try (with_reducible rfl)
 refine wpAnyH_take (i := 3) (v := ?_) rfl (by kernel_rfl) (by kernel_rfl) (by kernel_rfl) (fun _ _ _ h => h) (Or.inl ⟨by rfl, ?_⟩) HS0 ?_
 rotate_left
 · intro W hW; (try dsimp only at hW); go_simp; try (with_reducible rfl)
 refine wpAnyH_take (i := 4) (v := ?_) rfl (by kernel_rfl) (by kernel_rfl) (by kernel_rfl) (fun _ _ _ h => h) (Or.inl ⟨by rfl, ?_⟩) HS0 ?_
 rotate_left
 · intro W hW; (try dsimp only at hW); go_simp; try (with_reducible rfl)
 refine wpAnyH_take (i := 5) (v := ?_) rfl (by kernel_rfl) (by kernel_rfl) (by kernel_rfl) (fun _ _ _ h => h) (Or.inl ⟨by rfl, ?_⟩) HS0 ?_
 rotate_left
 · intro W hW; (try dsimp only at hW); go_simp; try (with_reducible rfl)
 refine wpAnyH_take (i := 6) (v := ?_) rfl (by kernel_rfl) (by kernel_rfl) (by kernel_rfl) (fun _ _ _ h => h) (Or.inl ⟨by rfl, ?_⟩) HS0 ?_
 rotate_left
 · intro W hW; (try dsimp only at hW); go_simp; try (with_reducible rfl)
 refine wpAnyH_take (i := 7) (v := ?_) rfl (by kernel_rfl) (by kernel_rfl) (by kernel_rfl) (fun _ _ _ h => h) (Or.inl ⟨by rfl, ?_⟩) HS0 ?_
 rotate_left
 · intro W hW; (try dsimp only at hW); go_simp; try (with_reducible rfl)
 refine wpAnyH_take (i := 8) (v := ?_) rfl (by kernel_rfl) (by kernel_rfl) (by kernel_rfl) (fun _ _ _ h => h) (Or.inl ⟨by rfl, ?_⟩) HS0 ?_
 rotate_left
 · intro W hW; (try dsimp only at hW); go_simp; try (with_reducible rfl)
 clear HS0
 refine run_one (i := 9) (by kernel_rfl) rfl rfl ?_
 intro K hK
 go_simp
 (with_reducible refine (HAD.out Xx0).mono ?_)
 rintro e Xx1 ⟨rfl, hbx1⟩
 have HBx1 := Lib.hid (below_next (HBx0.out) hbx1)
 refine hK.out _ _ (HKS.out _ HBx1.out) ?_
 clear hK K
 intro _
 refine wpAnyH_done (by kernel_rfl) ?_ _
 simp only [LastQ]
 have HBK := Lib.hid (HBx1.out)
 obtain ⟨W9, hW9⟩ : ∃ W9, W9 = mset Xx1 B2 (.int .i64 u0) (.int .i64 u1) (.int .i64 u2) (.int .i64 u3) (.int .i64 u4) (.int .i64 u5) := ⟨_, rfl⟩
 have he := ((HBx1.out).block _ (heap_lt HEM.out)).trans HEM.out
 obtain ⟨-, -, -, -, -, -, z0, z1, z2, z3, z4, z5, hlz⟩ := mcells he
 have HM9 := Lib.hid (show MBox W9 B2 (l.take (k + 1)) from ⟨u0, u1, u2, u3, u4, u5, by rw [hW9]; exact mset_at he, HUI.out⟩)
 have HFAR := Lib.hid (show ∀ i, i < wr.heap.size → i ≠ B2 → W9.heap[i]? = wr.heap[i]? from fun i hi hne => by rw [hW9, mset_far hne]; exact (HBx1.out).block i hi)
 have HB9 := Lib.hid (show Below w.heap.size w W9 by rw [hW9]; exact mset_below (below_next HBW.out (HBx1.out)) HLB2.out)
 have HE9 := Lib.hid (show W9.heap[B2]? = some (.cells #[.int .i64 u0, .int .i64 u1, .int .i64 u2, .int .i64 u3, .int .i64 u4, .int .i64 u5] 89 (0, 0)) by rw [hW9]; exact mset_at he)
 unfold mset at hW9
 clear he
 go_simp
 by_cases hk0 : k = 0
 · subst hk0
   go_wp2
   rw [← hW9]
   clear hW9
   have HE1n := Lib.hid ((HFAR.out B1 (heap_lt HE1.out) HNE12.out).trans HE1.out)
   have HE3n := Lib.hid ((HFAR.out B3 (heap_lt HE3.out) HNE32.out).trans HE3.out)
   go_roundw
   case rel => exact ⟨1, by go_num, by omega, by rw [HBST.out], HM9.out, ⟨a0, a1, a2, a3, a4, a5, HE1n.out, HMA.out⟩, ⟨b0, A3, d3, e3, A4, d4, e4, HE3n.out⟩, fun h => absurd rfl h, HB9.out⟩
   case measure => simp [intOf]; omega
 · have t3 : ((k : Int) == 0) = false := by rw [beq_eq_false_iff_ne]; omega
   have HE1n := Lib.hid ((HFAR.out B1 (heap_lt HE1.out) HNE12.out).trans HE1.out)
   have HE3n := Lib.hid ((HFAR.out B3 (heap_lt HE3.out) HNE32.out).trans HE3.out)
   obtain ⟨t0', t1', t2', t3', t4', t5', hti, hmn⟩ := HMIN.out (k + 1) a0 a1 a2 a3 a4 a5 u0 u1 u2 u3 u4 u5 HMA.out HUI.out
   have HMI24 := Lib.hid hmn
   have hk2 : 2 ≤ k + 1 := by omega
   have hkm : k + 1 + 2 ≤ nk := by have := HM.out; omega
   have HFR1 := Lib.hid (fun W => jFar_mom HUI.out (HBT.out (k + 1)) (HTKK.out (k + 1) hk2 (by omega)) W)
   have HFR2 := Lib.hid (fun W => jFar_mom hti (HBDR.out (k + 1)) (HDRR.out (k + 1) hkm) W)
   have HV3 := Lib.hid (show bst ≠ 0 → JVQ W9 B3 lst 7 from fun h => by
     obtain ⟨b, A5, c5, l5, A6, c6, l6, e, hj⟩ := HLEAST.out h
     rw [HE3.out] at e
     refine ⟨b, A5, c5, l5, A6, c6, l6, by rw [HE3n.out]; exact e, ?_⟩
     rw [hW9]
     exact (hj.on HBK.out).keepM ((HBK.out.block _ (heap_lt HEM.out)).trans HEM.out))
   clear hti hmn
   go_wp2_with fail
   rw [← hW9]
   clear hW9
   have HKS24 := Lib.hid (show ∀ X, Below W9.heap.size W9 X → (fun X => Below W9.heap.size W9 X ∧ X.cell? ⟨B2, 0, none⟩ = some (.int .i64 u0) ∧ X.cell? ⟨B2, 1, none⟩ = some (.int .i64 u1) ∧ X.cell? ⟨B2, 2, none⟩ = some (.int .i64 u2) ∧ X.cell? ⟨B2, 3, none⟩ = some (.int .i64 u3) ∧ X.cell? ⟨B2, 4, none⟩ = some (.int .i64 u4) ∧ X.cell? ⟨B2, 5, none⟩ = some (.int .i64 u5) ∧ X.cell? ⟨B1, 0, none⟩ = some (.int .i64 a0) ∧ X.cell? ⟨B1, 1, none⟩ = some (.int .i64 a1) ∧ X.cell? ⟨B1, 2, none⟩ = some (.int .i64 a2) ∧ X.cell? ⟨B1, 3, none⟩ = some (.int .i64 a3) ∧ X.cell? ⟨B1, 4, none⟩ = some (.int .i64 a4) ∧ X.cell? ⟨B1, 5, none⟩ = some (.int .i64 a5)) X from fun X hX => by
     obtain ⟨f0, f1, f2, f3, f4, f5, -⟩ := mcells ((hX.block _ (heap_lt HE9.out)).trans HE9.out)
     obtain ⟨g0, g1, g2, g3, g4, g5, -⟩ := mcells ((hX.block _ (heap_lt HE1n.out)).trans HE1n.out)
     exact ⟨hX, f0, f1, f2, f3, f4, f5, g0, g1, g2, g3, g4, g5⟩)
   go_cut [14] (fun x wx => ∃ Bf, x = .pointer (some ⟨Bf, 0, none⟩) ∧ W9.heap.size ≤ Bf ∧ JVQ wx Bf (linF (l.take (k + 1)) + linF (l.drop (k + 1))) (2 + 2 + 3) ∧ Below W9.heap.size W9 wx)
   case first =>
     skip
     {
 refine wp_region_noPanic ?_
 refine wp_region_held_drew (S := (fun X => Below W9.heap.size W9 X ∧ X.cell? ⟨B2, 0, none⟩ = some (.int .i64 u0) ∧ X.cell? ⟨B2, 1, none⟩ = some (.int .i64 u1) ∧ X.cell? ⟨B2, 2, none⟩ = some (.int .i64 u2) ∧ X.cell? ⟨B2, 3, none⟩ = some (.int .i64 u3) ∧ X.cell? ⟨B2, 4, none⟩ = some (.int .i64 u4) ∧ X.cell? ⟨B2, 5, none⟩ = some (.int .i64 u5) ∧ X.cell? ⟨B1, 0, none⟩ = some (.int .i64 a0) ∧ X.cell? ⟨B1, 1, none⟩ = some (.int .i64 a1) ∧ X.cell? ⟨B1, 2, none⟩ = some (.int .i64 a2) ∧ X.cell? ⟨B1, 3, none⟩ = some (.int .i64 a3) ∧ X.cell? ⟨B1, 4, none⟩ = some (.int .i64 a4) ∧ X.cell? ⟨B1, 5, none⟩ = some (.int .i64 a5))) (by kernel_rfl) (HKS24.out _ (Below.refl _ W9).drew) (fun HS0 => ?_)
 have hbx0 : Below W9.heap.size W9 W9.drew := (Below.refl _ _).drew
 obtain ⟨Xx0, hXx0⟩ : ∃ X, X = W9.drew := ⟨_, rfl⟩
 rw [← hXx0] at hbx0 HS0 ⊢
 have HBx0 := Lib.hid hbx0
 clear hbx0 hXx0
 refine wpAnyH_take (i := 0) (v := ?_) rfl (by kernel_rfl) (by kernel_rfl) (by kernel_rfl) (fun _ _ _ h => h) (Or.inl ⟨by rfl, ?_⟩) HS0 ?_
 rotate_left
 · intro W hW; (try dsimp only at hW); go_simp; try (with_reducible rfl)
 refine wpAnyH_take (i := 2) (v := ?_) rfl (by kernel_rfl) (by kernel_rfl) (by kernel_rfl) (fun _ _ _ h => h) (Or.inl ⟨by rfl, ?_⟩) HS0 ?_
 rotate_left
 · intro W hW; (try dsimp only at hW); go_simp; try (with_reducible rfl)
 refine wpAnyH_take (i := 3) (v := ?_) rfl (by kernel_rfl) (by kernel_rfl) (by kernel_rfl) (fun _ _ _ h => h) (Or.inl ⟨by rfl, ?_⟩) HS0 ?_
 rotate_left
 · intro W hW; (try dsimp only at hW); go_simp; try (with_reducible rfl)
 clear HS0
 refine wpAnyH_ready (rs := [1, 8]) (by kernel_rfl) (by simp) ?_
 refine AllReadyH.cons rfl (fun K hK => ?_) ?_
 {
 go_simp
 (with_reducible refine (HFR1.out Xx0).mono ?_)
 rintro e Xx1 ⟨v1, rfl, hvx1, hbx1⟩
 have HBx1 := Lib.hid (below_next (HBx0.out) hbx1)
 refine hK.out _ _ (HKS24.out _ HBx1.out) ?_
 clear hK K
 intro _
 obtain ⟨bf1, Af1, cf1, lf1, Df1, df1, mf1, rfl⟩ := hvx1.shape
 refine wpAnyH_ready (rs := [4, 8]) (by kernel_rfl) (by simp) ?_
 refine AllReadyH.cons rfl (fun K hK => ?_) ?_
 {
 go_simp
 (with_reducible refine (HMI24.out Xx1).mono ?_)
 rintro e Xx2 ⟨rfl, hbx2⟩
 have HBx2 := Lib.hid (below_next (HBx1.out) hbx2)
 refine hK.out _ _ (HKS24.out _ HBx2.out) ?_
 clear hK K
 intro _
 refine wpAnyH_ready (rs := [5, 8]) (by kernel_rfl) (by simp) ?_
 refine AllReadyH.cons rfl (fun K hK => ?_) ?_
 {
 go_simp
 (with_reducible refine (HFR2.out Xx2).mono ?_)
 rintro e Xx3 ⟨v3, rfl, hvx3, hbx3⟩
 have HBx3 := Lib.hid (below_next (HBx2.out) hbx3)
 refine hK.out _ _ (HKS24.out _ HBx3.out) ?_
 clear hK K
 intro _
 obtain ⟨bf2, Af2, cf2, lf2, Df2, df2, mf2, rfl⟩ := hvx3.shape
 refine wpAnyH_ready (rs := [6, 8]) (by kernel_rfl) (by simp) ?_
 refine AllReadyH.cons rfl (fun K hK => ?_) ?_
 {
 go_simp
 obtain ⟨Xx4, hXx4⟩ : ∃ X, X = Xx3.alloc (.cells #[.bool bf1, .slice Af1 lf1.length cf1, .slice Df1 mf1.length df1, .bool bf2, .slice Af2 lf2.length cf2, .slice Df2 mf2.length df2] 53) := ⟨_, rfl⟩
 have hbx4 : Below Xx3.heap.size Xx3 Xx4 := by rw [hXx4]; exact (Below.refl _ _).alloc (Nat.le_refl _) _
 have HBx4 := Lib.hid (below_next (HBx3.out) hbx4)
 have hTx4 : JTwo Xx4 Xx3.heap.size (linF (l.take (k + 1))) (linF (l.drop (k + 1))) 2 2 := ⟨bf1, Af1, cf1, lf1, Df1, df1, mf1, bf2, Af2, cf2, lf2, Df2, df2, mf2, _, by rw [hXx4]; exact alloc_at _ _ _ rfl, (((hvx1).on hbx2).on hbx3).on hbx4, (hvx3).on hbx4⟩
 rw [← hXx4]
 clear hXx4
 refine hK.out _ _ (HKS24.out _ HBx4.out) ?_
 clear hK K
 intro _
 refine wpAnyH_ready (rs := [7, 8]) (by kernel_rfl) (by simp) ?_
 refine AllReadyH.cons rfl (fun K hK => ?_) ?_
 {
 go_simp
 (with_reducible refine (jSum_any _ 2 2 _ _ Xx4 (by omega) (by omega) (hTx4)).mono ?_)
 rintro e Xx5 ⟨v5, rfl, hvx5, hbx5⟩
 have HBx5 := Lib.hid (below_next (HBx4.out) hbx5)
 refine hK.out _ _ (HKS24.out _ HBx5.out) ?_
 clear hK K
 intro _
 obtain ⟨bsm, Asm, csm, lsm, Dsm, dsm, msm, rfl⟩ := hvx5.shape
 refine run_one (i := 8) (by kernel_rfl) rfl rfl ?_
 intro K hK
 obtain ⟨Xx6, hXx6⟩ : ∃ X, X = Xx5.alloc (.cells #[.bool false, .slice none 0 0, .slice none 0 0] 53) := ⟨_, rfl⟩
 have hbx6 : Below Xx5.heap.size Xx5 Xx6 := by rw [hXx6]; exact (Below.refl _ _).alloc (Nat.le_refl _) _
 have hxx6 : JBox Xx6 Xx5.heap.size := by rw [hXx6]; exact alloc_at _ _ _ rfl
 have HBx6 := Lib.hid (below_next (HBx5.out) hbx6)
 have hwx6 : W9.heap.size ≤ Xx5.heap.size := (HBx5.out).size
 go_simp
 rw [← hXx6]
 clear hXx6
 refine hK.out _ _ (HKS24.out _ HBx6.out) ?_
 clear hK K
 intro _
 obtain ⟨k0, k1, k2, z0, z1, z2, hlt⟩ := JBox.facts (hxx6)
 obtain ⟨Xx7, hXx7⟩ : ∃ X, X = ((Xx6.setCell ⟨Xx5.heap.size, 0, none⟩ (.bool bsm)).setCell ⟨Xx5.heap.size, 1, none⟩ (.slice Asm lsm.length csm)).setCell ⟨Xx5.heap.size, 2, none⟩ (.slice Dsm msm.length dsm) := ⟨_, rfl⟩
 have HVx7 := Lib.hid (show JVQ Xx7 Xx5.heap.size _ _ by rw [hXx7]; exact JVQ.set (hxx6) ((hvx5).on hbx6))
 have HBx7 := Lib.hid (show Below W9.heap.size W9 Xx7 by rw [hXx7]; exact (((HBx6.out).setCell (p := ⟨Xx5.heap.size, 0, none⟩) hwx6 _).setCell (p := ⟨Xx5.heap.size, 1, none⟩) hwx6 _).setCell (p := ⟨Xx5.heap.size, 2, none⟩) hwx6 _)
 refine run_one (i := 9) (by kernel_rfl) rfl rfl ?_
 intro K hK
 go_simp
 rw [← hXx7]
 refine hK.out _ _ (HKS24.out _ HBx7.out) ?_
 clear hK K k0 k1 k2 z0 z1 z2 hlt hXx7
 intro _
 refine wpAnyH_done (by kernel_rfl) ?_ _
 refine NoPanic.normal ?_
 go_wp2_with fail
 go_meet
 exact ⟨Xx5.heap.size, rfl, hwx6, HVx7.out, HBx7.out⟩
 }
 refine AllReadyH.cons rfl (fun K hK => ?_) ?_
 {
 obtain ⟨Xx8, hXx8⟩ : ∃ X, X = Xx4.alloc (.cells #[.bool false, .slice none 0 0, .slice none 0 0] 53) := ⟨_, rfl⟩
 have hbx8 : Below Xx4.heap.size Xx4 Xx8 := by rw [hXx8]; exact (Below.refl _ _).alloc (Nat.le_refl _) _
 have hxx8 : JBox Xx8 Xx4.heap.size := by rw [hXx8]; exact alloc_at _ _ _ rfl
 have HBx8 := Lib.hid (below_next (HBx4.out) hbx8)
 have hwx8 : W9.heap.size ≤ Xx4.heap.size := (HBx4.out).size
 go_simp
 rw [← hXx8]
 clear hXx8
 refine hK.out _ _ (HKS24.out _ HBx8.out) ?_
 clear hK K
 intro _
 refine run_one (i := 7) (by kernel_rfl) rfl rfl ?_
 intro K hK
 go_simp
 (with_reducible refine (jSum_any _ 2 2 _ _ Xx8 (by omega) (by omega) ((hTx4).on hbx8)).mono ?_)
 rintro e Xx9 ⟨v9, rfl, hvx9, hbx9⟩
 have HBx9 := Lib.hid (below_next (HBx8.out) hbx9)
 refine hK.out _ _ (HKS24.out _ HBx9.out) ?_
 clear hK K
 intro _
 obtain ⟨bsm, Asm, csm, lsm, Dsm, dsm, msm, rfl⟩ := hvx9.shape
 obtain ⟨k0, k1, k2, z0, z1, z2, hlt⟩ := JBox.facts ((JBox.on hxx8 hbx9))
 obtain ⟨Xx10, hXx10⟩ : ∃ X, X = ((Xx9.setCell ⟨Xx4.heap.size, 0, none⟩ (.bool bsm)).setCell ⟨Xx4.heap.size, 1, none⟩ (.slice Asm lsm.length csm)).setCell ⟨Xx4.heap.size, 2, none⟩ (.slice Dsm msm.length dsm) := ⟨_, rfl⟩
 have HVx10 := Lib.hid (show JVQ Xx10 Xx4.heap.size _ _ by rw [hXx10]; exact JVQ.set ((JBox.on hxx8 hbx9)) (hvx9))
 have HBx10 := Lib.hid (show Below W9.heap.size W9 Xx10 by rw [hXx10]; exact (((HBx9.out).setCell (p := ⟨Xx4.heap.size, 0, none⟩) hwx8 _).setCell (p := ⟨Xx4.heap.size, 1, none⟩) hwx8 _).setCell (p := ⟨Xx4.heap.size, 2, none⟩) hwx8 _)
 refine run_one (i := 9) (by kernel_rfl) rfl rfl ?_
 intro K hK
 go_simp
 rw [← hXx10]
 refine hK.out _ _ (HKS24.out _ HBx10.out) ?_
 clear hK K k0 k1 k2 z0 z1 z2 hlt hXx10
 intro _
 refine wpAnyH_done (by kernel_rfl) ?_ _
 refine NoPanic.normal ?_
 go_wp2_with fail
 go_meet
 exact ⟨Xx4.heap.size, rfl, hwx8, HVx10.out, HBx10.out⟩
 }
 exact AllReadyH.nil
 }
 refine AllReadyH.cons rfl (fun K hK => ?_) ?_
 {
 obtain ⟨Xx11, hXx11⟩ : ∃ X, X = Xx3.alloc (.cells #[.bool false, .slice none 0 0, .slice none 0 0] 53) := ⟨_, rfl⟩
 have hbx11 : Below Xx3.heap.size Xx3 Xx11 := by rw [hXx11]; exact (Below.refl _ _).alloc (Nat.le_refl _) _
 have hxx11 : JBox Xx11 Xx3.heap.size := by rw [hXx11]; exact alloc_at _ _ _ rfl
 have HBx11 := Lib.hid (below_next (HBx3.out) hbx11)
 have hwx11 : W9.heap.size ≤ Xx3.heap.size := (HBx3.out).size
 go_simp
 rw [← hXx11]
 clear hXx11
 refine hK.out _ _ (HKS24.out _ HBx11.out) ?_
 clear hK K
 intro _
 refine run_one (i := 6) (by kernel_rfl) rfl rfl ?_
 intro K hK
 go_simp
 obtain ⟨Xx12, hXx12⟩ : ∃ X, X = Xx11.alloc (.cells #[.bool bf1, .slice Af1 lf1.length cf1, .slice Df1 mf1.length df1, .bool bf2, .slice Af2 lf2.length cf2, .slice Df2 mf2.length df2] 53) := ⟨_, rfl⟩
 have hbx12 : Below Xx11.heap.size Xx11 Xx12 := by rw [hXx12]; exact (Below.refl _ _).alloc (Nat.le_refl _) _
 have HBx12 := Lib.hid (below_next (HBx11.out) hbx12)
 have hTx12 : JTwo Xx12 Xx11.heap.size (linF (l.take (k + 1))) (linF (l.drop (k + 1))) 2 2 := ⟨bf1, Af1, cf1, lf1, Df1, df1, mf1, bf2, Af2, cf2, lf2, Df2, df2, mf2, _, by rw [hXx12]; exact alloc_at _ _ _ rfl, ((((hvx1).on hbx2).on hbx3).on hbx11).on hbx12, ((hvx3).on hbx11).on hbx12⟩
 rw [← hXx12]
 clear hXx12
 refine hK.out _ _ (HKS24.out _ HBx12.out) ?_
 clear hK K
 intro _
 refine run_one (i := 7) (by kernel_rfl) rfl rfl ?_
 intro K hK
 go_simp
 (with_reducible refine (jSum_any _ 2 2 _ _ Xx12 (by omega) (by omega) (hTx12)).mono ?_)
 rintro e Xx13 ⟨v13, rfl, hvx13, hbx13⟩
 have HBx13 := Lib.hid (below_next (HBx12.out) hbx13)
 refine hK.out _ _ (HKS24.out _ HBx13.out) ?_
 clear hK K
 intro _
 obtain ⟨bsm, Asm, csm, lsm, Dsm, dsm, msm, rfl⟩ := hvx13.shape
 obtain ⟨k0, k1, k2, z0, z1, z2, hlt⟩ := JBox.facts ((JBox.on (JBox.on hxx11 hbx12) hbx13))
 obtain ⟨Xx14, hXx14⟩ : ∃ X, X = ((Xx13.setCell ⟨Xx3.heap.size, 0, none⟩ (.bool bsm)).setCell ⟨Xx3.heap.size, 1, none⟩ (.slice Asm lsm.length csm)).setCell ⟨Xx3.heap.size, 2, none⟩ (.slice Dsm msm.length dsm) := ⟨_, rfl⟩
 have HVx14 := Lib.hid (show JVQ Xx14 Xx3.heap.size _ _ by rw [hXx14]; exact JVQ.set ((JBox.on (JBox.on hxx11 hbx12) hbx13)) (hvx13))
 have HBx14 := Lib.hid (show Below W9.heap.size W9 Xx14 by rw [hXx14]; exact (((HBx13.out).setCell (p := ⟨Xx3.heap.size, 0, none⟩) hwx11 _).setCell (p := ⟨Xx3.heap.size, 1, none⟩) hwx11 _).setCell (p := ⟨Xx3.heap.size, 2, none⟩) hwx11 _)
 refine run_one (i := 9) (by kernel_rfl) rfl rfl ?_
 intro K hK
 go_simp
 rw [← hXx14]
 refine hK.out _ _ (HKS24.out _ HBx14.out) ?_
 clear hK K k0 k1 k2 z0 z1 z2 hlt hXx14
 intro _
 refine wpAnyH_done (by kernel_rfl) ?_ _
 refine NoPanic.normal ?_
 go_wp2_with fail
 go_meet
 exact ⟨Xx3.heap.size, rfl, hwx11, HVx14.out, HBx14.out⟩
 }
 exact AllReadyH.nil
 }
 refine AllReadyH.cons rfl (fun K hK => ?_) ?_
 {
 obtain ⟨Xx15, hXx15⟩ : ∃ X, X = Xx2.alloc (.cells #[.bool false, .slice none 0 0, .slice none 0 0] 53) := ⟨_, rfl⟩
 have hbx15 : Below Xx2.heap.size Xx2 Xx15 := by rw [hXx15]; exact (Below.refl _ _).alloc (Nat.le_refl _) _
 have hxx15 : JBox Xx15 Xx2.heap.size := by rw [hXx15]; exact alloc_at _ _ _ rfl
 have HBx15 := Lib.hid (below_next (HBx2.out) hbx15)
 have hwx15 : W9.heap.size ≤ Xx2.heap.size := (HBx2.out).size
 go_simp
 rw [← hXx15]
 clear hXx15
 refine hK.out _ _ (HKS24.out _ HBx15.out) ?_
 clear hK K
 intro _
 refine run_one (i := 5) (by kernel_rfl) rfl rfl ?_
 intro K hK
 go_simp
 (with_reducible refine (HFR2.out Xx15).mono ?_)
 rintro e Xx16 ⟨v16, rfl, hvx16, hbx16⟩
 have HBx16 := Lib.hid (below_next (HBx15.out) hbx16)
 refine hK.out _ _ (HKS24.out _ HBx16.out) ?_
 clear hK K
 intro _
 obtain ⟨bf2, Af2, cf2, lf2, Df2, df2, mf2, rfl⟩ := hvx16.shape
 refine run_one (i := 6) (by kernel_rfl) rfl rfl ?_
 intro K hK
 go_simp
 obtain ⟨Xx17, hXx17⟩ : ∃ X, X = Xx16.alloc (.cells #[.bool bf1, .slice Af1 lf1.length cf1, .slice Df1 mf1.length df1, .bool bf2, .slice Af2 lf2.length cf2, .slice Df2 mf2.length df2] 53) := ⟨_, rfl⟩
 have hbx17 : Below Xx16.heap.size Xx16 Xx17 := by rw [hXx17]; exact (Below.refl _ _).alloc (Nat.le_refl _) _
 have HBx17 := Lib.hid (below_next (HBx16.out) hbx17)
 have hTx17 : JTwo Xx17 Xx16.heap.size (linF (l.take (k + 1))) (linF (l.drop (k + 1))) 2 2 := ⟨bf1, Af1, cf1, lf1, Df1, df1, mf1, bf2, Af2, cf2, lf2, Df2, df2, mf2, _, by rw [hXx17]; exact alloc_at _ _ _ rfl, ((((hvx1).on hbx2).on hbx15).on hbx16).on hbx17, (hvx16).on hbx17⟩
 rw [← hXx17]
 clear hXx17
 refine hK.out _ _ (HKS24.out _ HBx17.out) ?_
 clear hK K
 intro _
 refine run_one (i := 7) (by kernel_rfl) rfl rfl ?_
 intro K hK
 go_simp
 (with_reducible refine (jSum_any _ 2 2 _ _ Xx17 (by omega) (by omega) (hTx17)).mono ?_)
 rintro e Xx18 ⟨v18, rfl, hvx18, hbx18⟩
 have HBx18 := Lib.hid (below_next (HBx17.out) hbx18)
 refine hK.out _ _ (HKS24.out _ HBx18.out) ?_
 clear hK K
 intro _
 obtain ⟨bsm, Asm, csm, lsm, Dsm, dsm, msm, rfl⟩ := hvx18.shape
 obtain ⟨k0, k1, k2, z0, z1, z2, hlt⟩ := JBox.facts ((JBox.on (JBox.on (JBox.on hxx15 hbx16) hbx17) hbx18))
 obtain ⟨Xx19, hXx19⟩ : ∃ X, X = ((Xx18.setCell ⟨Xx2.heap.size, 0, none⟩ (.bool bsm)).setCell ⟨Xx2.heap.size, 1, none⟩ (.slice Asm lsm.length csm)).setCell ⟨Xx2.heap.size, 2, none⟩ (.slice Dsm msm.length dsm) := ⟨_, rfl⟩
 have HVx19 := Lib.hid (show JVQ Xx19 Xx2.heap.size _ _ by rw [hXx19]; exact JVQ.set ((JBox.on (JBox.on (JBox.on hxx15 hbx16) hbx17) hbx18)) (hvx18))
 have HBx19 := Lib.hid (show Below W9.heap.size W9 Xx19 by rw [hXx19]; exact (((HBx18.out).setCell (p := ⟨Xx2.heap.size, 0, none⟩) hwx15 _).setCell (p := ⟨Xx2.heap.size, 1, none⟩) hwx15 _).setCell (p := ⟨Xx2.heap.size, 2, none⟩) hwx15 _)
 refine run_one (i := 9) (by kernel_rfl) rfl rfl ?_
 intro K hK
 go_simp
 rw [← hXx19]
 refine hK.out _ _ (HKS24.out _ HBx19.out) ?_
 clear hK K k0 k1 k2 z0 z1 z2 hlt hXx19
 intro _
 refine wpAnyH_done (by kernel_rfl) ?_ _
 refine NoPanic.normal ?_
 go_wp2_with fail
 go_meet
 exact ⟨Xx2.heap.size, rfl, hwx15, HVx19.out, HBx19.out⟩
 }
 exact AllReadyH.nil
 }
 refine AllReadyH.cons rfl (fun K hK => ?_) ?_
 {
 obtain ⟨Xx20, hXx20⟩ : ∃ X, X = Xx1.alloc (.cells #[.bool false, .slice none 0 0, .slice none 0 0] 53) := ⟨_, rfl⟩
 have hbx20 : Below Xx1.heap.size Xx1 Xx20 := by rw [hXx20]; exact (Below.refl _ _).alloc (Nat.le_refl _) _
 have hxx20 : JBox Xx20 Xx1.heap.size := by rw [hXx20]; exact alloc_at _ _ _ rfl
 have HBx20 := Lib.hid (below_next (HBx1.out) hbx20)
 have hwx20 : W9.heap.size ≤ Xx1.heap.size := (HBx1.out).size
 go_simp
 rw [← hXx20]
 clear hXx20
 refine hK.out _ _ (HKS24.out _ HBx20.out) ?_
 clear hK K
 intro _
 refine run_one (i := 4) (by kernel_rfl) rfl rfl ?_
 intro K hK
 go_simp
 (with_reducible refine (HMI24.out Xx20).mono ?_)
 rintro e Xx21 ⟨rfl, hbx21⟩
 have HBx21 := Lib.hid (below_next (HBx20.out) hbx21)
 refine hK.out _ _ (HKS24.out _ HBx21.out) ?_
 clear hK K
 intro _
 refine run_one (i := 5) (by kernel_rfl) rfl rfl ?_
 intro K hK
 go_simp
 (with_reducible refine (HFR2.out Xx21).mono ?_)
 rintro e Xx22 ⟨v22, rfl, hvx22, hbx22⟩
 have HBx22 := Lib.hid (below_next (HBx21.out) hbx22)
 refine hK.out _ _ (HKS24.out _ HBx22.out) ?_
 clear hK K
 intro _
 obtain ⟨bf2, Af2, cf2, lf2, Df2, df2, mf2, rfl⟩ := hvx22.shape
 refine run_one (i := 6) (by kernel_rfl) rfl rfl ?_
 intro K hK
 go_simp
 obtain ⟨Xx23, hXx23⟩ : ∃ X, X = Xx22.alloc (.cells #[.bool bf1, .slice Af1 lf1.length cf1, .slice Df1 mf1.length df1, .bool bf2, .slice Af2 lf2.length cf2, .slice Df2 mf2.length df2] 53) := ⟨_, rfl⟩
 have hbx23 : Below Xx22.heap.size Xx22 Xx23 := by rw [hXx23]; exact (Below.refl _ _).alloc (Nat.le_refl _) _
 have HBx23 := Lib.hid (below_next (HBx22.out) hbx23)
 have hTx23 : JTwo Xx23 Xx22.heap.size (linF (l.take (k + 1))) (linF (l.drop (k + 1))) 2 2 := ⟨bf1, Af1, cf1, lf1, Df1, df1, mf1, bf2, Af2, cf2, lf2, Df2, df2, mf2, _, by rw [hXx23]; exact alloc_at _ _ _ rfl, ((((hvx1).on hbx20).on hbx21).on hbx22).on hbx23, (hvx22).on hbx23⟩
 rw [← hXx23]
 clear hXx23
 refine hK.out _ _ (HKS24.out _ HBx23.out) ?_
 clear hK K
 intro _
 refine run_one (i := 7) (by kernel_rfl) rfl rfl ?_
 intro K hK
 go_simp
 (with_reducible refine (jSum_any _ 2 2 _ _ Xx23 (by omega) (by omega) (hTx23)).mono ?_)
 rintro e Xx24 ⟨v24, rfl, hvx24, hbx24⟩
 have HBx24 := Lib.hid (below_next (HBx23.out) hbx24)
 refine hK.out _ _ (HKS24.out _ HBx24.out) ?_
 clear hK K
 intro _
 obtain ⟨bsm, Asm, csm, lsm, Dsm, dsm, msm, rfl⟩ := hvx24.shape
 obtain ⟨k0, k1, k2, z0, z1, z2, hlt⟩ := JBox.facts ((JBox.on (JBox.on (JBox.on (JBox.on hxx20 hbx21) hbx22) hbx23) hbx24))
 obtain ⟨Xx25, hXx25⟩ : ∃ X, X = ((Xx24.setCell ⟨Xx1.heap.size, 0, none⟩ (.bool bsm)).setCell ⟨Xx1.heap.size, 1, none⟩ (.slice Asm lsm.length csm)).setCell ⟨Xx1.heap.size, 2, none⟩ (.slice Dsm msm.length dsm) := ⟨_, rfl⟩
 have HVx25 := Lib.hid (show JVQ Xx25 Xx1.heap.size _ _ by rw [hXx25]; exact JVQ.set ((JBox.on (JBox.on (JBox.on (JBox.on hxx20 hbx21) hbx22) hbx23) hbx24)) (hvx24))
 have HBx25 := Lib.hid (show Below W9.heap.size W9 Xx25 by rw [hXx25]; exact (((HBx24.out).setCell (p := ⟨Xx1.heap.size, 0, none⟩) hwx20 _).setCell (p := ⟨Xx1.heap.size, 1, none⟩) hwx20 _).setCell (p := ⟨Xx1.heap.size, 2, none⟩) hwx20 _)
 refine run_one (i := 9) (by kernel_rfl) rfl rfl ?_
 intro K hK
 go_simp
 rw [← hXx25]
 refine hK.out _ _ (HKS24.out _ HBx25.out) ?_
 clear hK K k0 k1 k2 z0 z1 z2 hlt hXx25
 intro _
 refine wpAnyH_done (by kernel_rfl) ?_ _
 refine NoPanic.normal ?_
 go_wp2_with fail
 go_meet
 exact ⟨Xx1.heap.size, rfl, hwx20, HVx25.out, HBx25.out⟩
 }
 exact AllReadyH.nil
 }
 refine AllReadyH.cons rfl (fun K hK => ?_) ?_
 {
 obtain ⟨Xx26, hXx26⟩ : ∃ X, X = Xx0.alloc (.cells #[.bool false, .slice none 0 0, .slice none 0 0] 53) := ⟨_, rfl⟩
 have hbx26 : Below Xx0.heap.size Xx0 Xx26 := by rw [hXx26]; exact (Below.refl _ _).alloc (Nat.le_refl _) _
 have hxx26 : JBox Xx26 Xx0.heap.size := by rw [hXx26]; exact alloc_at _ _ _ rfl
 have HBx26 := Lib.hid (below_next (HBx0.out) hbx26)
 have hwx26 : W9.heap.size ≤ Xx0.heap.size := (HBx0.out).size
 go_simp
 rw [← hXx26]
 clear hXx26
 refine hK.out _ _ (HKS24.out _ HBx26.out) ?_
 clear hK K
 intro _
 refine run_one (i := 1) (by kernel_rfl) rfl rfl ?_
 intro K hK
 go_simp
 (with_reducible refine (HFR1.out Xx26).mono ?_)
 rintro e Xx27 ⟨v27, rfl, hvx27, hbx27⟩
 have HBx27 := Lib.hid (below_next (HBx26.out) hbx27)
 refine hK.out _ _ (HKS24.out _ HBx27.out) ?_
 clear hK K
 intro _
 obtain ⟨bf1, Af1, cf1, lf1, Df1, df1, mf1, rfl⟩ := hvx27.shape
 refine run_one (i := 4) (by kernel_rfl) rfl rfl ?_
 intro K hK
 go_simp
 (with_reducible refine (HMI24.out Xx27).mono ?_)
 rintro e Xx28 ⟨rfl, hbx28⟩
 have HBx28 := Lib.hid (below_next (HBx27.out) hbx28)
 refine hK.out _ _ (HKS24.out _ HBx28.out) ?_
 clear hK K
 intro _
 refine run_one (i := 5) (by kernel_rfl) rfl rfl ?_
 intro K hK
 go_simp
 (with_reducible refine (HFR2.out Xx28).mono ?_)
 rintro e Xx29 ⟨v29, rfl, hvx29, hbx29⟩
 have HBx29 := Lib.hid (below_next (HBx28.out) hbx29)
 refine hK.out _ _ (HKS24.out _ HBx29.out) ?_
 clear hK K
 intro _
 obtain ⟨bf2, Af2, cf2, lf2, Df2, df2, mf2, rfl⟩ := hvx29.shape
 refine run_one (i := 6) (by kernel_rfl) rfl rfl ?_
 intro K hK
 go_simp
 obtain ⟨Xx30, hXx30⟩ : ∃ X, X = Xx29.alloc (.cells #[.bool bf1, .slice Af1 lf1.length cf1, .slice Df1 mf1.length df1, .bool bf2, .slice Af2 lf2.length cf2, .slice Df2 mf2.length df2] 53) := ⟨_, rfl⟩
 have hbx30 : Below Xx29.heap.size Xx29 Xx30 := by rw [hXx30]; exact (Below.refl _ _).alloc (Nat.le_refl _) _
 have HBx30 := Lib.hid (below_next (HBx29.out) hbx30)
 have hTx30 : JTwo Xx30 Xx29.heap.size (linF (l.take (k + 1))) (linF (l.drop (k + 1))) 2 2 := ⟨bf1, Af1, cf1, lf1, Df1, df1, mf1, bf2, Af2, cf2, lf2, Df2, df2, mf2, _, by rw [hXx30]; exact alloc_at _ _ _ rfl, (((hvx27).on hbx28).on hbx29).on hbx30, (hvx29).on hbx30⟩
 rw [← hXx30]
 clear hXx30
 refine hK.out _ _ (HKS24.out _ HBx30.out) ?_
 clear hK K
 intro _
 refine run_one (i := 7) (by kernel_rfl) rfl rfl ?_
 intro K hK
 go_simp
 (with_reducible refine (jSum_any _ 2 2 _ _ Xx30 (by omega) (by omega) (hTx30)).mono ?_)
 rintro e Xx31 ⟨v31, rfl, hvx31, hbx31⟩
 have HBx31 := Lib.hid (below_next (HBx30.out) hbx31)
 refine hK.out _ _ (HKS24.out _ HBx31.out) ?_
 clear hK K
 intro _
 obtain ⟨bsm, Asm, csm, lsm, Dsm, dsm, msm, rfl⟩ := hvx31.shape
 obtain ⟨k0, k1, k2, z0, z1, z2, hlt⟩ := JBox.facts ((JBox.on (JBox.on (JBox.on (JBox.on (JBox.on hxx26 hbx27) hbx28) hbx29) hbx30) hbx31))
 obtain ⟨Xx32, hXx32⟩ : ∃ X, X = ((Xx31.setCell ⟨Xx0.heap.size, 0, none⟩ (.bool bsm)).setCell ⟨Xx0.heap.size, 1, none⟩ (.slice Asm lsm.length csm)).setCell ⟨Xx0.heap.size, 2, none⟩ (.slice Dsm msm.length dsm) := ⟨_, rfl⟩
 have HVx32 := Lib.hid (show JVQ Xx32 Xx0.heap.size _ _ by rw [hXx32]; exact JVQ.set ((JBox.on (JBox.on (JBox.on (JBox.on (JBox.on hxx26 hbx27) hbx28) hbx29) hbx30) hbx31)) (hvx31))
 have HBx32 := Lib.hid (show Below W9.heap.size W9 Xx32 by rw [hXx32]; exact (((HBx31.out).setCell (p := ⟨Xx0.heap.size, 0, none⟩) hwx26 _).setCell (p := ⟨Xx0.heap.size, 1, none⟩) hwx26 _).setCell (p := ⟨Xx0.heap.size, 2, none⟩) hwx26 _)
 refine run_one (i := 9) (by kernel_rfl) rfl rfl ?_
 intro K hK
 go_simp
 rw [← hXx32]
 refine hK.out _ _ (HKS24.out _ HBx32.out) ?_
 clear hK K k0 k1 k2 z0 z1 z2 hlt hXx32
 intro _
 refine wpAnyH_done (by kernel_rfl) ?_ _
 refine NoPanic.normal ?_
 go_wp2_with fail
 go_meet
 exact ⟨Xx0.heap.size, rfl, hwx26, HVx32.out, HBx32.out⟩
 }
 exact AllReadyH.nil
     }
   case rest =>
     obtain ⟨Bf, rfl, hlo, ⟨bf, F1, f1, m1, F2, f2, m2, ef, hjf⟩, hbf⟩ := hcut
     have HEF := Lib.hid ef
     have HE1c := Lib.hid ((hbf.block _ (heap_lt HE1n.out)).trans HE1n.out)
     have HE2c := Lib.hid ((hbf.block _ (heap_lt HE9.out)).trans HE9.out)
     have HE3c := Lib.hid ((hbf.block _ (heap_lt HE3n.out)).trans HE3n.out)
     have HBc := Lib.hid (below_next HB9.out hbf)
     have HV3c := Lib.hid (fun h => (HV3.out h).on hbf)
     obtain ⟨q, hq⟩ : ∃ q, q = linF (l.take (k + 1)) + linF (l.drop (k + 1)) := ⟨_, rfl⟩
     rw [← hq] at hjf
     have HKN := Lib.hid (show q = knF l (k - 1 + 2) by rw [hq, show k - 1 + 2 = k + 1 by omega]; rfl)
     have HJF := Lib.hid (show JQ wc _ q 7 from hjf)
     have HSZ := Lib.hid (show frN q < W64 ^ 7 ∧ q.den < W64 ^ 7 by
       obtain ⟨b, x, y, -, e, g1, g2, g3⟩ := hjf
       rw [← e]; exact mk_sz g3 g1 g2)
     have HKP := Lib.hid (show k = k - 1 + 1 by omega)
     have p0 : wc.cell? ⟨Bf, 0, none⟩ = some (.bool bf) := by rw [cellsAt ef]; rfl
     have p1 : wc.cell? ⟨Bf, 1, none⟩ = some (.slice F1 m1.length f1) := by rw [cellsAt ef]; rfl
     have p2 : wc.cell? ⟨Bf, 2, none⟩ = some (.slice F2 m2.length f2) := by rw [cellsAt ef]; rfl
     clear hlo ef hjf hbf hq
     by_cases hb0 : bst = 0
     · have t4 : ((bst : Int) == 0) = true := by rw [hb0]; rfl
       have HW := Lib.hid (show (knB l (k - 1)).1 = 0 ∨ knF l (k - 1 + 2) < (knB l (k - 1)).2 from .inl (by rw [← HBST.out]; exact hb0))
       have HLW := Lib.hid (jLowestQ 7 _ q wc (by omega) HJF.out)
       have HEC := Lib.hid HE3c.out
       have HBC := Lib.hid HBc.out
       have HX1 := Lib.hid HE1c.out
       have HX2 := Lib.hid HE2c.out
       subst hb0
       go_wp2_with fail
       (with_reducible refine (HLW.out).mono ?_)
       rintro e w12 ⟨v12, rfl, hv12, hb12⟩
       have hq12 := JQ.of hv12 HSZ.out.1 HSZ.out.2
       obtain ⟨b7, A7, c7, l7, A8, c8, l8, rfl⟩ := hq12.shape
       have HE3d := Lib.hid ((hb12.block _ (heap_lt HEC.out)).trans HEC.out)
       have HE1d := Lib.hid ((hb12.block _ (heap_lt HX1.out)).trans HX1.out)
       have HE2d := Lib.hid ((hb12.block _ (heap_lt HX2.out)).trans HX2.out)
       have HBD := Lib.hid (below_next HBC.out hb12)
       have z0 := frozenAt HE3d.out 0
       have z1 := frozenAt HE3d.out 1
       have z2 := frozenAt HE3d.out 2
       have hlt12 := heap_lt HE3d.out
       have y0 : w12.cell? ⟨B3, 0, none⟩ = some (.bool b0) := by rw [cellsAt HE3d.out]; rfl
       have y1 : w12.cell? ⟨B3, 1, none⟩ = some (.slice A3 d3 e3) := by rw [cellsAt HE3d.out]; rfl
       have y2 : w12.cell? ⟨B3, 2, none⟩ = some (.slice A4 d4 e4) := by rw [cellsAt HE3d.out]; rfl
       obtain ⟨W13, hW13⟩ : ∃ W, W = ((w12.setCell ⟨B3, 0, none⟩ (.bool b7)).setCell ⟨B3, 1, none⟩ (.slice A7 l7.length c7)).setCell ⟨B3, 2, none⟩ (.slice A8 l8.length c8) := ⟨_, rfl⟩
       have hfr : Fr (fun i => i = B3) w12 W13 := by rw [hW13]; exact fr3 _ _ _
       have HV13 := Lib.hid (show JVQ W13 B3 q 7 by rw [hW13]; exact JVQ.set HE3d.out hq12)
       have HE1e := Lib.hid ((hfr.block _ (heap_lt HE1d.out) (fun h => HNE31.out h.symm)).trans HE1d.out)
       have HE2e := Lib.hid ((hfr.block _ (heap_lt HE2d.out) (fun h => HNE32.out h.symm)).trans HE2d.out)
       have HBE := Lib.hid (show Below w.heap.size w W13 from HBD.out.trans (hfr.below HBD.out.size (fun i hi hm => by have := HLB3.out; omega)))
       clear hv12 hb12 hq12 hfr
       go_wp2
       rw [← hW13]
       clear hW13
       go_roundw
       case rel => exact ⟨k + 1, by go_num, by omega, by rw [show k + 1 - 1 = k - 1 + 1 from by omega, knB_take HW.out]; show Value.int .i64 _ = Value.int .i64 _; congr 1; have := HKP.out; omega, ⟨u0, u1, u2, u3, u4, u5, HE2e.out, HUI.out⟩, ⟨a0, a1, a2, a3, a4, a5, HE1e.out, HMA.out⟩, by obtain ⟨b, A5, c5, l5, A6, c6, l6, e, -⟩ := HV13.out; exact ⟨b, A5, _, c5, A6, _, c6, e⟩, fun _ => by rw [show k + 1 - 1 = k - 1 + 1 from by omega, knB_take HW.out, ← HKN.out]; exact HV13.out, HBE.out⟩
       case measure => simp [intOf]; omega
     · have t4 : ((bst : Int) == 0) = false := by rw [beq_eq_false_iff_ne]; omega
       obtain ⟨b5, A5, c5, l5, A6, c6, l6, e5, hj5⟩ := HV3c.out hb0
       have HCP := Lib.hid (jCompareQ 7 7 _ _ q lst wc (by omega) (by omega) HJF.out hj5)
       have y0 : wc.cell? ⟨B3, 0, none⟩ = some (.bool b5) := by rw [cellsAt e5]; rfl
       have y1 : wc.cell? ⟨B3, 1, none⟩ = some (.slice A5 l5.length c5) := by rw [cellsAt e5]; rfl
       have y2 : wc.cell? ⟨B3, 2, none⟩ = some (.slice A6 l6.length c6) := by rw [cellsAt e5]; rfl
       obtain ⟨o, ho⟩ : ∃ o, o = ordQ q lst := ⟨_, rfl⟩
       rw [← ho] at HCP
       have HO := Lib.hid ho
       clear e5 hj5 ho
       go_wp2_with fail
       (with_reducible refine (HCP.out).mono ?_)
       rintro e w11 ⟨rfl, hb11⟩
       have HBC := Lib.hid (below_next HBc.out hb11)
       have HEC := Lib.hid ((hb11.block _ (heap_lt HE3c.out)).trans HE3c.out)
       have HX1 := Lib.hid ((hb11.block _ (heap_lt HE1c.out)).trans HE1c.out)
       have HX2 := Lib.hid ((hb11.block _ (heap_lt HE2c.out)).trans HE2c.out)
       have HLW := Lib.hid (jLowestQ 7 _ q w11 (by omega) (HJF.out.on hb11))
       have ef := (hb11.block _ (heap_lt HEF.out)).trans HEF.out
       clear p0 p1 p2 y0 y1 y2
       have p0 : w11.cell? ⟨Bf, 0, none⟩ = some (.bool bf) := by rw [cellsAt ef]; rfl
       have p1 : w11.cell? ⟨Bf, 1, none⟩ = some (.slice F1 m1.length f1) := by rw [cellsAt ef]; rfl
       have p2 : w11.cell? ⟨Bf, 2, none⟩ = some (.slice F2 m2.length f2) := by rw [cellsAt ef]; rfl
       by_cases hol : o < 0
       · have t5 : decide (o < 0) = true := decide_eq_true hol
         have HW := Lib.hid (show (knB l (k - 1)).1 = 0 ∨ knF l (k - 1 + 2) < (knB l (k - 1)).2 from .inr (by rw [← HKN.out, ← HLST.out, ← ordQ_lt, ← HO.out]; exact hol))
         clear hb11 ef hol
         go_wp2_with fail
         (with_reducible refine (HLW.out).mono ?_)
         rintro e w12 ⟨v12, rfl, hv12, hb12⟩
         have hq12 := JQ.of hv12 HSZ.out.1 HSZ.out.2
         obtain ⟨b7, A7, c7, l7, A8, c8, l8, rfl⟩ := hq12.shape
         have HE3d := Lib.hid ((hb12.block _ (heap_lt HEC.out)).trans HEC.out)
         have HE1d := Lib.hid ((hb12.block _ (heap_lt HX1.out)).trans HX1.out)
         have HE2d := Lib.hid ((hb12.block _ (heap_lt HX2.out)).trans HX2.out)
         have HBD := Lib.hid (below_next HBC.out hb12)
         have z0 := frozenAt HE3d.out 0
         have z1 := frozenAt HE3d.out 1
         have z2 := frozenAt HE3d.out 2
         have hlt12 := heap_lt HE3d.out
         have y0 : w12.cell? ⟨B3, 0, none⟩ = some (.bool b0) := by rw [cellsAt HE3d.out]; rfl
         have y1 : w12.cell? ⟨B3, 1, none⟩ = some (.slice A3 d3 e3) := by rw [cellsAt HE3d.out]; rfl
         have y2 : w12.cell? ⟨B3, 2, none⟩ = some (.slice A4 d4 e4) := by rw [cellsAt HE3d.out]; rfl
         obtain ⟨W13, hW13⟩ : ∃ W, W = ((w12.setCell ⟨B3, 0, none⟩ (.bool b7)).setCell ⟨B3, 1, none⟩ (.slice A7 l7.length c7)).setCell ⟨B3, 2, none⟩ (.slice A8 l8.length c8) := ⟨_, rfl⟩
         have hfr : Fr (fun i => i = B3) w12 W13 := by rw [hW13]; exact fr3 _ _ _
         have HV13 := Lib.hid (show JVQ W13 B3 q 7 by rw [hW13]; exact JVQ.set HE3d.out hq12)
         have HE1e := Lib.hid ((hfr.block _ (heap_lt HE1d.out) (fun h => HNE31.out h.symm)).trans HE1d.out)
         have HE2e := Lib.hid ((hfr.block _ (heap_lt HE2d.out) (fun h => HNE32.out h.symm)).trans HE2d.out)
         have HBE := Lib.hid (show Below w.heap.size w W13 from HBD.out.trans (hfr.below HBD.out.size (fun i hi hm => by have := HLB3.out; omega)))
         clear hv12 hb12 hq12 hfr
         go_wp2
         rw [← hW13]
         clear hW13
         go_roundw
         case rel => exact ⟨k + 1, by go_num, by omega, by rw [show k + 1 - 1 = k - 1 + 1 from by omega, knB_take HW.out]; show Value.int .i64 _ = Value.int .i64 _; congr 1; have := HKP.out; omega, ⟨u0, u1, u2, u3, u4, u5, HE2e.out, HUI.out⟩, ⟨a0, a1, a2, a3, a4, a5, HE1e.out, HMA.out⟩, by obtain ⟨b, A5, c5, l5, A6, c6, l6, e, -⟩ := HV13.out; exact ⟨b, A5, _, c5, A6, _, c6, e⟩, fun _ => by rw [show k + 1 - 1 = k - 1 + 1 from by omega, knB_take HW.out, ← HKN.out]; exact HV13.out, HBE.out⟩
         case measure => simp [intOf]; omega
       · have t5 : decide (o < 0) = false := decide_eq_false hol
         have HW := Lib.hid (show ¬ ((knB l (k - 1)).1 = 0 ∨ knF l (k - 1 + 2) < (knB l (k - 1)).2) from fun h => by
           rcases h with h | h
           · exact hb0 (by rw [HBST.out]; exact h)
           · rw [← HKN.out, ← HLST.out, ← ordQ_lt, ← HO.out] at h; exact hol h)
         have HV3d := Lib.hid ((HV3c.out hb0).on hb11)
         clear hb11 ef hol p0 p1 p2
         go_wp2
         go_roundw
         case rel => exact ⟨k + 1, by go_num, by omega, by rw [show k + 1 - 1 = k - 1 + 1 from by omega, knB_keep HW.out, ← HBST.out], ⟨u0, u1, u2, u3, u4, u5, HX2.out, HUI.out⟩, ⟨a0, a1, a2, a3, a4, a5, HX1.out, HMA.out⟩, ⟨b0, A3, d3, e3, A4, d4, e4, HEC.out⟩, fun _ => by rw [show k + 1 - 1 = k - 1 + 1 from by omega, knB_keep HW.out, ← HLST.out]; exact HV3d.out, HBC.out⟩
         case measure => simp [intOf]; omega
                  }
                · have HKE := Lib.hid (show knB l (k - 1) = knB l (nk - 3) by rw [show k - 1 = nk - 3 by have := HM.out; omega])
                  clear hem he1 he3 hma hmi hbw
                  go_wp2
                  refine bodyPost_ret (v := .tuple #[.int .i64 (bst : Nat), .int .i64 0]) (by simp [results, Tryz.results27, go_sem]) rfl ⟨by rw [HV.out.1, HV.out.2, ← HKE.out, ← HBST.out], HBW.out⟩
  · have HV := Lib.hid (knee_pt hp)
    obtain ⟨cc, hcc⟩ : ∃ z, z = ptC xs ys := ⟨_, rfl⟩
    rw [← hcc] at HCK HV hp
    have t1 : (cc != 0) = true := by rw [bne_iff_ne]; exact hp
    clear hr1 hr2 hp hcc
    go_enter Tryz.func27, Tryz.ntmps27
    go_wp2_with fail
    (with_reducible refine (HCK.out).mono ?_)
    rintro e w1 ⟨rfl, hb1⟩
    have HB1 := Lib.hid hb1
    clear hb1
    go_wp2
    refine bodyPost_ret (v := .tuple #[.int .i64 0, .int .i64 cc]) (by simp [results, Tryz.results27, go_sem]) rfl ⟨by rw [HV.out.1, HV.out.2], HB1.out⟩
end Go.Proofs.YtpmnhdgajkickaaGreatDoor
