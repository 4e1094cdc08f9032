/- Package dynamometerref10: where one line becomes another one. Printed by gen_r10knee.py. -/
import Derived.Test.YtpmnhdgajkickaaGreatDoorR10Fit
import Derived.Test.YtpmnhdgajkickaaGreatDoorRunK
import Derived.Test.YtpmnhdgajkickaaGreatDoorL0
import Derived.Test.YtpmnhdgajkickaaGreatDoorB13
import Derived.BigQuiet
import Derived.Deep.QuietTactic
namespace Go.Proofs.YtpmnhdgajkickaaGreatDoor
open Go Go.RowKit Go.Proofs

theorem tri_al (X : World) : ∃ Y, Y = X.alloc (.cells #[.bool false, .slice none 0 0, .slice none 0 0] 35) ∧ Below X.heap.size X Y ∧ FBox Y X.heap.size := ⟨_, rfl, (Below.refl _ _).alloc (Nat.le_refl _) _, alloc_at _ _ _ rfl⟩
theorem tri_st {W X : World} {B : Nat} {b : Bool} {A1 A2 : Option Addr} {c1 c2 : Nat} {l1 l2 : List Nat} (hF : FBox X B) (hB : Below W.heap.size W X) (hlow : W.heap.size ≤ B) : ∃ Y, Y = ((X.setCell ⟨B, 0, none⟩ (.bool b)).setCell ⟨B, 1, none⟩ (.slice A1 l1.length c1)).setCell ⟨B, 2, none⟩ (.slice A2 l2.length c2) ∧ Below W.heap.size W Y ∧ (∀ v q, FracR X v q → FracR Y v q) ∧ (∀ B', B' ≠ B → FBox X B' → FBox Y B') ∧ (∀ q, FracR X (.agg #[.bool b, .slice A1 l1.length c1, .slice A2 l2.length c2]) q → VarQ Y B q) := by
  have hfr := fr3 (w := X) (B := B) (.bool b) (.slice A1 l1.length c1) (.slice A2 l2.length c2)
  exact ⟨_, rfl, hB.trans (hfr.below hB.size (fun i hi hm => by omega)), fun v q h => h.keep hF (by intro v hv z; simp at hv; rcases hv with rfl | rfl <;> simp) hfr, fun B' hne h => (hfr.block _ (heap_lt h) hne).trans h, fun q h => VarQ.store hF h⟩
theorem rdI_take {w : World} {A : Option Addr} {xs : List Int} (h : Rd w 0 w.heap.size 1 A xs.length (ints xs)) {i : Nat} (hi : i ≤ xs.length) : Rd w 0 w.heap.size 1 A (xs.take i).length (ints (xs.take i)) := by
  refine ⟨by simp [ints], fun hn => ?_⟩
  obtain ⟨b, o, e, h1, h2, hc⟩ := h.2 (by rw [List.length_take] at hn; omega)
  refine ⟨b, o, e, h1, h2, fun j u hj => hc j u ?_⟩
  simp only [ints, List.map_take] at hj
  rw [List.getElem?_take] at hj
  split at hj
  · exact hj
  · cases hj
theorem rdI_drop {w : World} {b o : Nat} {xs : List Int} (h : Rd w 0 w.heap.size 1 (some ⟨b, o, none⟩) xs.length (ints xs)) {i : Nat} (hi : i < xs.length) : Rd w 0 w.heap.size 1 (some ⟨b, o + i, none⟩) (xs.drop i).length (ints (xs.drop i)) := by
  refine ⟨by simp [ints], fun _ => ?_⟩
  obtain ⟨b', o', e, h1, h2, hc⟩ := h.2 (by omega)
  simp only [Option.some.injEq, Addr.mk.injEq, and_true] at e
  obtain ⟨rfl, rfl⟩ := e
  refine ⟨b, o + i, rfl, h1, h2, fun j u hj => ?_⟩
  have := hc (i + j) u (by
    simp only [ints, List.map_drop] at hj
    rw [List.getElem?_drop] at hj
    exact hj)
  rwa [show o + (i + j) = o + i + j by omega] at this
theorem linF_sz {l : List (Int × Int)} (hb : BndP l) (hx : 0 < vXX l) : Sz 20 (linF l) := by
  have hn := vXX_len (l := l) (by omega)
  obtain ⟨⟨q1, q2⟩, ⟨q3, q4⟩, q5, q6⟩ := hb.spr
  have T5 : ∀ z : Nat, z < 1000000000000000000 → z < T4 ^ 5 := fun z hz => Nat.lt_of_lt_of_le hz (by unfold T4; decide)
  have z1 : Sz 5 (linA l) := by rw [← linA_mk hx]; exact sz_part2 (T5 _ (by omega)) (by omega) (T5 _ (by omega))
  have z2 : Sz 5 (vXY l : Rat) := sz_int2 (T5 _ (by omega)) (by omega)
  have z3 : Sz 5 (vYY l : Rat) := sz_int2 (T5 _ (by omega)) (by omega)
  have z6 : Sz 2 (mkRat 1 l.length) := sz_part2 (T4_small (by decide) (by omega)) hn (T4_small (by have := hb.n; omega) (by omega))
  rw [linF_eq hx hn]
  exact (sz_mul (sz_sub z3 (sz_mul z1 z2)) z6).mono (by omega)
theorem knB_sz (l : List (Int × Int)) : ∀ j, (∀ i, 2 ≤ i → i ≤ j + 1 → Sz 41 (knF l i)) → Sz 41 (knB l j).2
  | 0, _ => by
    show Sz 41 (0 : Rat)
    exact (sz_int2 (k := 0) (n := 2) (T4_small (by decide) (by omega)) (by omega)).mono (by omega)
  | j + 1, h => by
    unfold knB
    split
    · exact h (j + 2) (by omega) (by omega)
    · exact knB_sz l j (fun i h1 h2 => h i h1 (by omega))
theorem zip_take (xs ys : List Int) (i : Nat) : (xs.take i).zip (ys.take i) = (xs.zip ys).take i := (List.take_zipWith (f := Prod.mk)).symm
theorem zip_drop (xs ys : List Int) (i : Nat) : (xs.drop i).zip (ys.drop i) = (xs.zip ys).drop i := (List.drop_zipWith (f := Prod.mk)).symm
set_option maxHeartbeats 8000000 in
set_option maxRecDepth 100000 in
theorem r10Knee_any (A B : Option Addr) (ca cb : Nat) (xs ys : List Int) (w : World) (hr1 : Rd w 0 w.heap.size 1 A xs.length (ints xs)) (hr2 : Rd w 0 w.heap.size 1 B ys.length (ints ys)) (hca : xs.length ≤ ca) (hcb : ys.length ≤ cb) :
    Calls Tryz.prog 28 #[.slice A xs.length ca, .slice B ys.length cb] w fun e w' => e = .returned (.tuple #[.int .i64 (kneeV xs ys), .int .i64 (kneeC xs ys)]) ∧ Below w.heap.size w w' := by
  have HR1 := Lib.hid (fun W (hW : Below w.heap.size w W) => hr1.old hW)
  have HR2 := Lib.hid (fun W (hW : Below w.heap.size w W) => hr2.old hW)
  have HCK := Lib.hid (rPtsF_any A B ca cb xs ys w hr1 hr2)
  by_cases hp : ptC xs ys = 0
  · obtain ⟨hl, hn, hok⟩ := ptC_ok hp
    have hORD := knee_order hp
    have hFEW := knee_few hp
    have hOK := knee_ok hp
    have hTK := fun hr i => knee_take (i := i) hr hl
    have hDR := fun hr i => knee_drop (i := i) hr hl
    obtain ⟨KC, hKC⟩ : ∃ z, z = kneeC xs ys := ⟨_, rfl⟩
    obtain ⟨KV, hKV⟩ : ∃ z, z = kneeV xs ys := ⟨_, rfl⟩
    rw [← hKC, ← hKV] at hORD hFEW hOK
    rw [← hKC, ← hKV]
    obtain ⟨l, hlz⟩ : ∃ l, l = xs.zip ys := ⟨_, rfl⟩
    rw [← hlz] at hok hOK hTK hDR
    rw [hp] at HCK
    have HLY := Lib.hid hl
    -- the two calls of fitted
    have HF1 := Lib.hid (fun i (hi : i ≤ xs.length) (hpos : 0 < vXX (l.take i)) W (hW : Below w.heap.size w W) => (show Calls Tryz.prog 78 #[.slice A i ca, .slice B i cb] W fun e w' => ∃ v1 v2 v3, e = .returned (.tuple #[v1, v2, v3]) ∧ FracR w' v1 (linA (l.take i)) ∧ FracR w' v2 (linB (l.take i)) ∧ FracR w' v3 (linF (l.take i)) ∧ Below W.heap.size W w' from by
      have l1 : (xs.take i).length = i := by rw [List.length_take]; omega
      have l2 : (ys.take i).length = i := by rw [List.length_take]; omega
      have := r10Fitted_any A B ca cb (xs.take i) (ys.take i) W (rdI_take (hr1.old hW) hi) (rdI_take (hr2.old hW) (by omega)) (by omega) (by omega) (by rw [zip_take, ← hlz]; exact hok.take i) (by rw [zip_take, ← hlz]; exact hpos)
      rw [zip_take, ← hlz, l1, l2] at this
      exact this))
    have HF2 := Lib.hid (fun i b o b' o' c c' (hi : i < xs.length) (hA : A = some ⟨b, o, none⟩) (hB : B = some ⟨b', o', none⟩) (hpos : 0 < vXX (l.drop i)) W (hW : Below w.heap.size w W) => (show Calls Tryz.prog 78 #[.slice (some ⟨b, o + i, none⟩) (xs.length - i) c, .slice (some ⟨b', o' + i, none⟩) (xs.length - i) c'] W fun e w' => ∃ v1 v2 v3, e = .returned (.tuple #[v1, v2, v3]) ∧ FracR w' v1 (linA (l.drop i)) ∧ FracR w' v2 (linB (l.drop i)) ∧ FracR w' v3 (linF (l.drop i)) ∧ Below W.heap.size W w' from by
      have l1 : (xs.drop i).length = xs.length - i := by rw [List.length_drop]
      have l2 : (ys.drop i).length = xs.length - i := by rw [List.length_drop]; omega
      have g1 := hr1.old hW
      have g2 := hr2.old hW
      rw [hA] at g1
      rw [hB] at g2
      have := r10Fitted_any _ _ c c' (xs.drop i) (ys.drop i) W (rdI_drop g1 hi) (rdI_drop g2 (by omega)) (by omega) (by omega) (by rw [zip_drop, ← hlz]; exact hok.drop i) (by rw [zip_drop, ← hlz]; exact hpos)
      rw [zip_drop, ← hlz, l1, l2] at this
      exact this))
    have HSZ := Lib.hid (show ∀ i, 2 ≤ i → i + 2 ≤ xs.length → Rise xs → Sz 20 (linF (l.take i)) ∧ Sz 20 (linF (l.drop i)) from fun i h1 h2 hr => ⟨linF_sz (bndP (hok.take i) (by rw [List.length_take, hlz, List.length_zip]; omega)) (hTK hr i h1 (by omega)), linF_sz (bndP (hok.drop i) (by rw [List.length_drop, hlz, List.length_zip]; omega)) (hDR hr i h2)⟩)
    obtain ⟨n, hnn⟩ : ∃ n, n = xs.length := ⟨_, rfl⟩
    have HN := Lib.hid hnn
    rw [← hl] at hcb ⊢
    rw [← hl] at HCK
    rw [← hnn] at HCK hn hFEW hOK hTK hDR hca hcb HF1 HF2 HSZ ⊢
    have HORD := Lib.hid hORD
    have HFEW := Lib.hid hFEW
    have HOKK := Lib.hid hOK
    have HTK := Lib.hid hTK
    have HDR := Lib.hid hDR
    clear hr1 hr2 hp hl hok hlz hKC hKV hnn hORD hFEW hOK hTK hDR
    go_enter Tryz.func28, Tryz.ntmps28
    go_wp2_with fail
    (with_reducible refine (HCK.out).mono ?_)
    rintro e w1 ⟨rfl, hb1⟩
    have HB1 := Lib.hid hb1
    clear hb1
    go_wp2
    go_loopw [7] (fun kv wr => ∃ k : Nat, kv = .int .i64 (k : Nat) ∧ 1 ≤ k ∧ (k ≤ n ∨ k = 1) ∧ Hid (∀ j x y, j + 1 < k → xs[j]? = some x → xs[j + 1]? = some y → x < y) ∧ Below w.heap.size w wr) (fun kv _ => n + 1 - (intOf kv).toNat)
    case atStart => exact ⟨1, rfl, by omega, .inr rfl, Lib.hid (fun j x y h => by omega), HB1.out⟩
    case round =>
      obtain ⟨k, rfl, hk1, hk2, HRS, hbw⟩ := hrel
      have HBW := Lib.hid hbw
      by_cases hlt : k < n
      · obtain ⟨j, hj⟩ : ∃ j : Nat, (k : Int) - 1 = (j : Int) := ⟨k - 1, by omega⟩
        have HJ := Lib.hid (show k = j + 1 by omega)
        have hjl : j < n := by omega
        obtain ⟨b, o, u, hA, hb, hu, qk⟩ := (HR1.out wr hbw).at1 (show k < xs.length by rw [← HN.out]; exact hlt)
        obtain ⟨y, hy, rfl⟩ := ints_get hu
        obtain ⟨b', o', u', hA', hb', hu', qj⟩ := (HR1.out wr hbw).at1 (show j < xs.length by rw [← HN.out]; exact hjl)
        obtain ⟨x, hx, rfl⟩ := ints_get hu'
        subst hA
        simp only [Option.some.injEq, Addr.mk.injEq, and_true] at hA'
        obtain ⟨rfl, rfl⟩ := hA'
        have HX := Lib.hid hx
        have HY := Lib.hid hy
        clear hbw hu hu' hx hy
        by_cases hle : y ≤ x
        · have t1 : decide (y ≤ x) = true := decide_eq_true hle
          have HV := Lib.hid (HORD.out (fun hr => by have := hr j x y HX.out (by rw [← HJ.out]; exact HY.out); omega))
          go_wp2_with fail
          go_quiet (fail)
          go_wp2
          refine bodyPost_ret (v := .tuple #[.int .i64 0, .int .i64 10]) (by simp [results, Tryz.results28, go_sem]) rfl ⟨by rw [HV.out.1, HV.out.2], by first | exact HBW.out | exact below_drewN HBW.out _⟩
        · have t1 : decide (y ≤ x) = false := decide_eq_false hle
          have HRS2 := Lib.hid (show ∀ j' x' y', j' + 1 < k + 1 → xs[j']? = some x' → xs[j' + 1]? = some y' → x' < y' from fun j' x' y' h h1 h2 => by
            rcases Nat.lt_or_ge (j' + 1) k with g | g
            · exact HRS.out j' x' y' g h1 h2
            · obtain rfl : j' = j := by have := HJ.out; omega
              rw [HX.out] at h1
              rw [← HJ.out, HY.out] at h2
              obtain rfl := Option.some.inj h1
              obtain rfl := Option.some.inj h2
              omega)
          go_wp2_with fail
          go_quiet (fail)
          go_wp2
          go_roundw
          case rel => exact ⟨k + 1, by go_num, by omega, .inl (by omega), HRS2, by first | exact HBW.out | exact below_drewN HBW.out _⟩
          case measure => simp [intOf]; omega
      · have HRI := Lib.hid (show Rise xs from fun j x y h1 h2 => HRS.out j x y (by have := (List.getElem?_eq_some_iff.1 h2).1; have := HN.out; omega) h1 h2)
        clear hbw
        by_cases h4 : n < 4
        · have t2 : decide ((n : Int) < 4) = true := decide_eq_true (by omega)
          have HV := Lib.hid (HFEW.out HRI.out h4)
          go_wp2
          refine bodyPost_ret (v := .tuple #[.int .i64 0, .int .i64 13]) (by simp [results, Tryz.results28, go_sem]) rfl ⟨by rw [HV.out.1, HV.out.2], HBW.out⟩
        · have t2 : decide ((n : Int) < 4) = false := decide_eq_false (by omega)
          have HV := Lib.hid (HOKK.out HRI.out h4)
          have HTKK := Lib.hid (HTK.out HRI.out)
          have HDRR := Lib.hid (HDR.out HRI.out)
          have HSZZ := Lib.hid (fun i h1 h2 => HSZ.out i h1 h2 HRI.out)
          obtain rfl : k = n := by omega
          obtain ⟨b, o, hA, -⟩ := (HR1.out wr HBW.out).2 (by rw [← HN.out]; omega)
          obtain ⟨b', o', hB, -⟩ := (HR2.out wr HBW.out).2 (by rw [← HLY.out, ← HN.out]; omega)
          subst hA
          subst hB
          have HW0 := Lib.hid (fun W => rWhole_any 0 W (by omega) (by omega))
          obtain ⟨m, hm⟩ : ∃ m : Nat, (k : Int) - 2 = (m : Int) := ⟨k - 2, by omega⟩
          have HM := Lib.hid (show k = m + 2 by omega)
          have hm1 : 2 ≤ m := by omega
          go_wp2_with fail
          (with_reducible refine (HW0.out _).mono ?_)
          rintro e w3 ⟨v3, rfl, hv3, hb3⟩
          obtain ⟨bz, Z1, z1, t1, Z2, z2, t2', rfl⟩ := hv3.shape
          obtain ⟨W4, hW4⟩ : ∃ W, W = w3.alloc (.cells #[.bool bz, .slice Z1 t1.length z1, .slice Z2 t2'.length z2] 35) := ⟨_, rfl⟩
          obtain ⟨B1, hB1⟩ : ∃ B, B = w3.heap.size := ⟨_, rfl⟩
          have HS1 := Lib.hid (show W4.heap[B1]? = some (.cells #[.bool bz, .slice Z1 t1.length z1, .slice Z2 t2'.length z2] 35 (0, 0)) by rw [hB1, hW4]; exact alloc_at _ _ _ rfl)
          have HB4 := Lib.hid (show Below w.heap.size w W4 by rw [hW4]; exact (below_next HBW.out hb3).alloc (below_next HBW.out hb3).size _)
          have HLB1 := Lib.hid (show w.heap.size ≤ B1 by rw [hB1]; exact (below_next HBW.out hb3).size)
          have HQ1 := Lib.hid hB1
          clear hv3 hb3 hB1
          go_wp2
          rw [← hW4, ← HQ1.out]
          clear hW4
          go_loopw [9, 10] (fun bv kv wr => ∃ i : Nat, kv = .int .i64 (i : Nat) ∧ 2 ≤ i ∧ i ≤ m + 1 ∧ bv = .int .i64 ((knB l (i - 2)).1 : Nat) ∧ (∃ b A1 d1 e1 A2 d2 e2, wr.heap[B1]? = some (.cells #[.bool b, .slice A1 d1 e1, .slice A2 d2 e2] 35 (0, 0))) ∧ ((knB l (i - 2)).1 ≠ 0 → VarQ wr B1 (knB l (i - 2)).2) ∧ Below w.heap.size w wr) (fun _ kv _ => m + 1 - (intOf kv).toNat)
          case atStart => exact ⟨2, rfl, by omega, by omega, rfl, ⟨bz, Z1, _, z1, Z2, _, z2, HS1.out⟩, fun h => absurd rfl h, HB4.out⟩
          case round =>
            obtain ⟨nk, hnk⟩ : ∃ n', n' = k := ⟨_, rfl⟩
            subst hnk
            clear HBW
            obtain ⟨k, rfl, hk2, hk3, rfl, ⟨b0, A3, d3, e3, A4, d4, e4, he3⟩, hleast, hbw⟩ := hrel
            have HBW := Lib.hid hbw
            have HE3 := Lib.hid he3
            obtain ⟨bst, hbst⟩ : ∃ z, z = (knB l (k - 2)).1 := ⟨_, rfl⟩
            obtain ⟨lst, hlst⟩ : ∃ z, z = (knB l (k - 2)).2 := ⟨_, rfl⟩
            rw [← hbst, ← hlst] at hleast
            rw [← hbst]
            have HBST := Lib.hid hbst
            have HLST := Lib.hid hlst
            have HLEAST := Lib.hid hleast
            clear hbst hlst hleast
            by_cases hlt3 : k ≤ m
            · have hkn : k ≤ nk := by have := HM.out; omega
              have hkn2 : k < nk := by have := HM.out; omega
              have hca2 : k ≤ ca := by omega
              have hcb2 : k ≤ cb := by omega
              have hne1 : ¬ ca = k := by omega
              have hne2 : ¬ cb = k := by omega
              have HFT1 := Lib.hid (show ∀ W, Below wr.heap.size wr W → _ from fun W hW => HF1.out k (by omega) (HTKK.out k hk2 hkn) W (below_next HBW.out hW))
              have hkm : k + 2 ≤ nk := by have := HM.out; omega
              have HFT2 := Lib.hid (fun c c' W (hW : Below w.heap.size w W) => HF2.out k b o b' o' c c' hkn2 rfl rfl (HDRR.out k hkm) W hW)
              obtain ⟨hz1, hz2⟩ := HSZZ.out k hk2 hkm
              have HZ1 := Lib.hid hz1
              have HZ2 := Lib.hid hz2
              clear hbw he3 hz1 hz2
              have hks : Sz 41 lst := by
                rw [HLST.out]
                exact knB_sz l (k - 2) (fun i h1 h2 => by
                  obtain ⟨g1, g2⟩ := HSZZ.out i h1 (by omega)
                  exact (sz_add g1 g2).mono (by omega))
              have HKSZ := Lib.hid hks
              clear hks
              go_wp2_with fail
              go_cut [13] (fun x wx => ∃ Ba, x = .pointer (some ⟨Ba, 0, none⟩) ∧ wr.heap.size ≤ Ba ∧ VarQ wx Ba (linF (l.take k)) ∧ Below wr.heap.size wr wx)
              case first =>
                skip
                {
 refine wp_region_noPanic ?_
 refine wp_region_held_drew (S := fun X => Below wr.heap.size wr X) (by kernel_rfl) (Below.refl _ wr).drew (fun HS0 => ?_)
 obtain ⟨X0, hX0⟩ : ∃ X, X = wr.drew := ⟨_, rfl⟩
 have hb0 : Below wr.heap.size wr X0 := by rw [hX0]; exact (Below.refl _ _).drew
 rw [← hX0] at HS0 ⊢
 clear hX0
 refine wpAnyH_take (i := 0) (v := ?_) rfl (by kernel_rfl) (by kernel_rfl) (by kernel_rfl) (fun _ _ _ h => h) (Or.inl ⟨by rfl, ?_⟩) HS0 ?_
 rotate_left
 · intro W hW; (try dsimp only at hW); go_simp; try (with_reducible rfl)

 refine wpAnyH_take (i := 1) (v := ?_) rfl (by kernel_rfl) (by kernel_rfl) (by kernel_rfl) (fun _ _ _ h => h) (Or.inl ⟨by rfl, ?_⟩) HS0 ?_
 rotate_left
 · intro W hW; (try dsimp only at hW); go_simp; try (with_reducible rfl)

 refine wpAnyH_take (i := 2) (v := ?_) rfl (by kernel_rfl) (by kernel_rfl) (by kernel_rfl) (fun _ _ _ h => h) (Or.inl ⟨by rfl, ?_⟩) HS0 ?_
 rotate_left
 · intro W hW; (try dsimp only at hW); go_simp; try (with_reducible rfl)

 refine wpAnyH_take (i := 3) (v := ?_) rfl (by kernel_rfl) (by kernel_rfl) (by kernel_rfl) (fun _ _ _ h => h) (Or.inl ⟨by rfl, ?_⟩) HS0 ?_
 rotate_left
 · intro W hW; (try dsimp only at hW); go_simp; try (with_reducible rfl)

 refine wpAnyH_take (i := 4) (v := ?_) rfl (by kernel_rfl) (by kernel_rfl) (by kernel_rfl) (fun _ _ _ h => h) (Or.inl ⟨by rfl, ?_⟩) HS0 ?_
 rotate_left
 · intro W hW; (try dsimp only at hW); go_simp; try (with_reducible rfl)

 refine wpAnyH_take (i := 5) (v := ?_) rfl (by kernel_rfl) (by kernel_rfl) (by kernel_rfl) (fun _ _ _ h => h) (Or.inl ⟨by rfl, ?_⟩) HS0 ?_
 rotate_left
 · intro W hW; (try dsimp only at hW); go_simp; try (with_reducible rfl)

 clear HS0
 refine wpAnyH_ready (rs := [6, 11, 12, 13]) (by kernel_rfl) (by simp) ?_
 refine AllReadyH.cons rfl (fun K hK => ?_) ?_
 {
 refine wp_call (HFT1.out X0 hb0) (by kernel_rfl) ?_
 rintro e X1 ⟨_, _, _, rfl, ha, hb', f1, b1⟩
 have h1 := below_next hb0 b1
 refine ⟨_, rfl, hK.out _ _ h1 ?_⟩
 clear hK K
 intro _
 obtain ⟨ba, Aa, ca', la, Da, da, ma, rfl⟩ := ha.shape
 obtain ⟨bb, Ab, cb', lb, Db, db, mb, rfl⟩ := hb'.shape
 obtain ⟨bc, Ac, cc', lc, Dc, dc, mc, rfl⟩ := f1.shape
 clear ha hb'
 have HS0 := h1
 refine wpAnyH_take (i := 7) (v := ?_) rfl (by kernel_rfl) (by kernel_rfl) (by kernel_rfl) (fun _ _ _ h => h) (Or.inl ⟨by rfl, ?_⟩) HS0 ?_
 rotate_left
 · intro W hW; (try dsimp only at hW); go_simp; try (with_reducible rfl)

 clear HS0
 have HS0 := h1
 refine wpAnyH_take (i := 8) (v := ?_) rfl (by kernel_rfl) (by kernel_rfl) (by kernel_rfl) (fun _ _ _ h => h) (Or.inl ⟨by rfl, ?_⟩) HS0 ?_
 rotate_left
 · intro W hW; (try dsimp only at hW); go_simp; try (with_reducible rfl)

 clear HS0
 have HS0 := h1
 refine wpAnyH_take (i := 9) (v := ?_) rfl (by kernel_rfl) (by kernel_rfl) (by kernel_rfl) (fun _ _ _ h => h) (Or.inl ⟨by rfl, ?_⟩) HS0 ?_
 rotate_left
 · intro W hW; (try dsimp only at hW); go_simp; try (with_reducible rfl)

 clear HS0
 have HS0 := h1
 refine wpAnyH_take (i := 10) (v := ?_) rfl (by kernel_rfl) (by kernel_rfl) (by kernel_rfl) (fun _ _ _ h => h) (Or.inl ⟨by rfl, ?_⟩) HS0 ?_
 rotate_left
 · intro W hW; (try dsimp only at hW); go_simp; try (with_reducible rfl)

 clear HS0
 refine wpAnyH_ready (rs := [11, 12, 13]) (by kernel_rfl) (by simp) ?_
 refine AllReadyH.cons rfl (fun K hK => ?_) ?_
 {
 obtain ⟨X2, hX, b2, g2⟩ := tri_al X1
 have h2 := below_next h1 b2
 refine wp_val (v := .pointer (some ⟨X1.heap.size, 0, none⟩)) (w' := X2) (by rw [hX]; kernel_rfl) ?_
 refine hK.out _ _ h2 ?_
 clear hK K hX
 intro _
 refine wpAnyH_ready (rs := [12, 13]) (by kernel_rfl) (by simp) ?_
 refine AllReadyH.cons rfl (fun K hK => ?_) ?_
 {
 obtain ⟨X3, hX, b3, g3⟩ := tri_al X2
 have h3 := below_next h2 b3
 refine wp_val (v := .pointer (some ⟨X2.heap.size, 0, none⟩)) (w' := X3) (by rw [hX]; kernel_rfl) ?_
 refine hK.out _ _ h3 ?_
 clear hK K hX
 intro _
 refine run_one (i := 13) (by kernel_rfl) rfl rfl ?_
 intro K hK
 obtain ⟨X4, hX, b4, g4⟩ := tri_al X3
 have h4 := below_next h3 b4
 refine wp_val (v := .pointer (some ⟨X3.heap.size, 0, none⟩)) (w' := X4) (by rw [hX]; kernel_rfl) ?_
 refine hK.out _ _ h4 ?_
 clear hK K hX
 intro _
 have g0 := (FBox.on (FBox.on g2 b3) b4)
 obtain ⟨k0, k1, k2, y0, y1, y2, hlt⟩ := FBox.facts g0
 obtain ⟨X5, hY, h5, v5, p5, s5⟩ := tri_st (b := ba) (A1 := Aa) (c1 := ca') (l1 := la) (A2 := Da) (c2 := da) (l2 := ma) g0 h4 h1.size
 refine run_one (i := 14) (by kernel_rfl) rfl rfl ?_
 intro K hK
 go_simp
 rw [← hY]
 refine hK.out _ _ h5 ?_
 clear hK K k0 k1 k2 y0 y1 y2 hlt hY g0
 intro _
 have g0 := (p5 _ (Ne.symm (Nat.ne_of_lt (heap_lt g2))) (FBox.on g3 b4))
 obtain ⟨k0, k1, k2, y0, y1, y2, hlt⟩ := FBox.facts g0
 obtain ⟨X6, hY, h6, v6, p6, s6⟩ := tri_st (b := bb) (A1 := Ab) (c1 := cb') (l1 := lb) (A2 := Db) (c2 := db) (l2 := mb) g0 h5 h2.size
 refine run_one (i := 15) (by kernel_rfl) rfl rfl ?_
 intro K hK
 go_simp
 rw [← hY]
 refine hK.out _ _ h6 ?_
 clear hK K k0 k1 k2 y0 y1 y2 hlt hY g0
 intro _
 have g0 := (p6 _ (Ne.symm (Nat.ne_of_lt (heap_lt g3))) (p5 _ (Ne.symm (Nat.ne_of_lt (heap_lt (FBox.on g2 b3)))) g4))
 obtain ⟨k0, k1, k2, y0, y1, y2, hlt⟩ := FBox.facts g0
 obtain ⟨X7, hY, h7, v7, p7, s7⟩ := tri_st (b := bc) (A1 := Ac) (c1 := cc') (l1 := lc) (A2 := Dc) (c2 := dc) (l2 := mc) g0 h6 h3.size
 refine run_one (i := 16) (by kernel_rfl) rfl rfl ?_
 intro K hK
 go_simp
 rw [← hY]
 refine hK.out _ _ h7 ?_
 clear hK K k0 k1 k2 y0 y1 y2 hlt hY g0
 intro _
 refine wpAnyH_done (by kernel_rfl) ?_ _
 refine NoPanic.normal ?_
 go_wp2_with fail
 go_meet
 exact ⟨X3.heap.size, rfl, h3.size, (s7 _ (v6 _ _ (v5 _ _ (FracR.on (FracR.on (FracR.on f1 b2) b3) b4)))), h7⟩
 }
 refine AllReadyH.cons rfl (fun K hK => ?_) ?_
 {
 obtain ⟨X8, hX, b8, g8⟩ := tri_al X2
 have h8 := below_next h2 b8
 refine wp_val (v := .pointer (some ⟨X2.heap.size, 0, none⟩)) (w' := X8) (by rw [hX]; kernel_rfl) ?_
 refine hK.out _ _ h8 ?_
 clear hK K hX
 intro _
 refine run_one (i := 12) (by kernel_rfl) rfl rfl ?_
 intro K hK
 obtain ⟨X9, hX, b9, g9⟩ := tri_al X8
 have h9 := below_next h8 b9
 refine wp_val (v := .pointer (some ⟨X8.heap.size, 0, none⟩)) (w' := X9) (by rw [hX]; kernel_rfl) ?_
 refine hK.out _ _ h9 ?_
 clear hK K hX
 intro _
 have g0 := (FBox.on (FBox.on g2 b8) b9)
 obtain ⟨k0, k1, k2, y0, y1, y2, hlt⟩ := FBox.facts g0
 obtain ⟨X10, hY, h10, v10, p10, s10⟩ := tri_st (b := ba) (A1 := Aa) (c1 := ca') (l1 := la) (A2 := Da) (c2 := da) (l2 := ma) g0 h9 h1.size
 refine run_one (i := 14) (by kernel_rfl) rfl rfl ?_
 intro K hK
 go_simp
 rw [← hY]
 refine hK.out _ _ h10 ?_
 clear hK K k0 k1 k2 y0 y1 y2 hlt hY g0
 intro _
 have g0 := (p10 _ (Ne.symm (Nat.ne_of_lt (heap_lt (FBox.on g2 b8)))) g9)
 obtain ⟨k0, k1, k2, y0, y1, y2, hlt⟩ := FBox.facts g0
 obtain ⟨X11, hY, h11, v11, p11, s11⟩ := tri_st (b := bb) (A1 := Ab) (c1 := cb') (l1 := lb) (A2 := Db) (c2 := db) (l2 := mb) g0 h10 h8.size
 refine run_one (i := 15) (by kernel_rfl) rfl rfl ?_
 intro K hK
 go_simp
 rw [← hY]
 refine hK.out _ _ h11 ?_
 clear hK K k0 k1 k2 y0 y1 y2 hlt hY g0
 intro _
 have g0 := (p11 _ (Nat.ne_of_lt (heap_lt g8)) (p10 _ (Ne.symm (Nat.ne_of_lt (heap_lt g2))) (FBox.on g8 b9)))
 obtain ⟨k0, k1, k2, y0, y1, y2, hlt⟩ := FBox.facts g0
 obtain ⟨X12, hY, h12, v12, p12, s12⟩ := tri_st (b := bc) (A1 := Ac) (c1 := cc') (l1 := lc) (A2 := Dc) (c2 := dc) (l2 := mc) g0 h11 h2.size
 refine run_one (i := 16) (by kernel_rfl) rfl rfl ?_
 intro K hK
 go_simp
 rw [← hY]
 refine hK.out _ _ h12 ?_
 clear hK K k0 k1 k2 y0 y1 y2 hlt hY g0
 intro _
 refine wpAnyH_done (by kernel_rfl) ?_ _
 refine NoPanic.normal ?_
 go_wp2_with fail
 go_meet
 exact ⟨X2.heap.size, rfl, h2.size, (s12 _ (v11 _ _ (v10 _ _ (FracR.on (FracR.on (FracR.on f1 b2) b8) b9)))), h12⟩
 }
 exact AllReadyH.nil
 }
 refine AllReadyH.cons rfl (fun K hK => ?_) ?_
 {
 obtain ⟨X13, hX, b13, g13⟩ := tri_al X1
 have h13 := below_next h1 b13
 refine wp_val (v := .pointer (some ⟨X1.heap.size, 0, none⟩)) (w' := X13) (by rw [hX]; kernel_rfl) ?_
 refine hK.out _ _ h13 ?_
 clear hK K hX
 intro _
 refine wpAnyH_ready (rs := [11, 13]) (by kernel_rfl) (by simp) ?_
 refine AllReadyH.cons rfl (fun K hK => ?_) ?_
 {
 obtain ⟨X14, hX, b14, g14⟩ := tri_al X13
 have h14 := below_next h13 b14
 refine wp_val (v := .pointer (some ⟨X13.heap.size, 0, none⟩)) (w' := X14) (by rw [hX]; kernel_rfl) ?_
 refine hK.out _ _ h14 ?_
 clear hK K hX
 intro _
 refine run_one (i := 13) (by kernel_rfl) rfl rfl ?_
 intro K hK
 obtain ⟨X15, hX, b15, g15⟩ := tri_al X14
 have h15 := below_next h14 b15
 refine wp_val (v := .pointer (some ⟨X14.heap.size, 0, none⟩)) (w' := X15) (by rw [hX]; kernel_rfl) ?_
 refine hK.out _ _ h15 ?_
 clear hK K hX
 intro _
 have g0 := (FBox.on g14 b15)
 obtain ⟨k0, k1, k2, y0, y1, y2, hlt⟩ := FBox.facts g0
 obtain ⟨X16, hY, h16, v16, p16, s16⟩ := tri_st (b := ba) (A1 := Aa) (c1 := ca') (l1 := la) (A2 := Da) (c2 := da) (l2 := ma) g0 h15 h13.size
 refine run_one (i := 14) (by kernel_rfl) rfl rfl ?_
 intro K hK
 go_simp
 rw [← hY]
 refine hK.out _ _ h16 ?_
 clear hK K k0 k1 k2 y0 y1 y2 hlt hY g0
 intro _
 have g0 := (p16 _ (Nat.ne_of_lt (heap_lt g13)) (FBox.on (FBox.on g13 b14) b15))
 obtain ⟨k0, k1, k2, y0, y1, y2, hlt⟩ := FBox.facts g0
 obtain ⟨X17, hY, h17, v17, p17, s17⟩ := tri_st (b := bb) (A1 := Ab) (c1 := cb') (l1 := lb) (A2 := Db) (c2 := db) (l2 := mb) g0 h16 h1.size
 refine run_one (i := 15) (by kernel_rfl) rfl rfl ?_
 intro K hK
 go_simp
 rw [← hY]
 refine hK.out _ _ h17 ?_
 clear hK K k0 k1 k2 y0 y1 y2 hlt hY g0
 intro _
 have g0 := (p17 _ (Ne.symm (Nat.ne_of_lt (heap_lt (FBox.on g13 b14)))) (p16 _ (Ne.symm (Nat.ne_of_lt (heap_lt g14))) g15))
 obtain ⟨k0, k1, k2, y0, y1, y2, hlt⟩ := FBox.facts g0
 obtain ⟨X18, hY, h18, v18, p18, s18⟩ := tri_st (b := bc) (A1 := Ac) (c1 := cc') (l1 := lc) (A2 := Dc) (c2 := dc) (l2 := mc) g0 h17 h14.size
 refine run_one (i := 16) (by kernel_rfl) rfl rfl ?_
 intro K hK
 go_simp
 rw [← hY]
 refine hK.out _ _ h18 ?_
 clear hK K k0 k1 k2 y0 y1 y2 hlt hY g0
 intro _
 refine wpAnyH_done (by kernel_rfl) ?_ _
 refine NoPanic.normal ?_
 go_wp2_with fail
 go_meet
 exact ⟨X14.heap.size, rfl, h14.size, (s18 _ (v17 _ _ (v16 _ _ (FracR.on (FracR.on (FracR.on f1 b13) b14) b15)))), h18⟩
 }
 refine AllReadyH.cons rfl (fun K hK => ?_) ?_
 {
 obtain ⟨X19, hX, b19, g19⟩ := tri_al X13
 have h19 := below_next h13 b19
 refine wp_val (v := .pointer (some ⟨X13.heap.size, 0, none⟩)) (w' := X19) (by rw [hX]; kernel_rfl) ?_
 refine hK.out _ _ h19 ?_
 clear hK K hX
 intro _
 refine run_one (i := 11) (by kernel_rfl) rfl rfl ?_
 intro K hK
 obtain ⟨X20, hX, b20, g20⟩ := tri_al X19
 have h20 := below_next h19 b20
 refine wp_val (v := .pointer (some ⟨X19.heap.size, 0, none⟩)) (w' := X20) (by rw [hX]; kernel_rfl) ?_
 refine hK.out _ _ h20 ?_
 clear hK K hX
 intro _
 have g0 := g20
 obtain ⟨k0, k1, k2, y0, y1, y2, hlt⟩ := FBox.facts g0
 obtain ⟨X21, hY, h21, v21, p21, s21⟩ := tri_st (b := ba) (A1 := Aa) (c1 := ca') (l1 := la) (A2 := Da) (c2 := da) (l2 := ma) g0 h20 h19.size
 refine run_one (i := 14) (by kernel_rfl) rfl rfl ?_
 intro K hK
 go_simp
 rw [← hY]
 refine hK.out _ _ h21 ?_
 clear hK K k0 k1 k2 y0 y1 y2 hlt hY g0
 intro _
 have g0 := (p21 _ (Nat.ne_of_lt (heap_lt (FBox.on g13 b19))) (FBox.on (FBox.on g13 b19) b20))
 obtain ⟨k0, k1, k2, y0, y1, y2, hlt⟩ := FBox.facts g0
 obtain ⟨X22, hY, h22, v22, p22, s22⟩ := tri_st (b := bb) (A1 := Ab) (c1 := cb') (l1 := lb) (A2 := Db) (c2 := db) (l2 := mb) g0 h21 h1.size
 refine run_one (i := 15) (by kernel_rfl) rfl rfl ?_
 intro K hK
 go_simp
 rw [← hY]
 refine hK.out _ _ h22 ?_
 clear hK K k0 k1 k2 y0 y1 y2 hlt hY g0
 intro _
 have g0 := (p22 _ (Ne.symm (Nat.ne_of_lt (heap_lt g13))) (p21 _ (Nat.ne_of_lt (heap_lt g19)) (FBox.on g19 b20)))
 obtain ⟨k0, k1, k2, y0, y1, y2, hlt⟩ := FBox.facts g0
 obtain ⟨X23, hY, h23, v23, p23, s23⟩ := tri_st (b := bc) (A1 := Ac) (c1 := cc') (l1 := lc) (A2 := Dc) (c2 := dc) (l2 := mc) g0 h22 h13.size
 refine run_one (i := 16) (by kernel_rfl) rfl rfl ?_
 intro K hK
 go_simp
 rw [← hY]
 refine hK.out _ _ h23 ?_
 clear hK K k0 k1 k2 y0 y1 y2 hlt hY g0
 intro _
 refine wpAnyH_done (by kernel_rfl) ?_ _
 refine NoPanic.normal ?_
 go_wp2_with fail
 go_meet
 exact ⟨X13.heap.size, rfl, h13.size, (s23 _ (v22 _ _ (v21 _ _ (FracR.on (FracR.on (FracR.on f1 b13) b19) b20)))), h23⟩
 }
 exact AllReadyH.nil
 }
 refine AllReadyH.cons rfl (fun K hK => ?_) ?_
 {
 obtain ⟨X24, hX, b24, g24⟩ := tri_al X1
 have h24 := below_next h1 b24
 refine wp_val (v := .pointer (some ⟨X1.heap.size, 0, none⟩)) (w' := X24) (by rw [hX]; kernel_rfl) ?_
 refine hK.out _ _ h24 ?_
 clear hK K hX
 intro _
 refine wpAnyH_ready (rs := [11, 12]) (by kernel_rfl) (by simp) ?_
 refine AllReadyH.cons rfl (fun K hK => ?_) ?_
 {
 obtain ⟨X25, hX, b25, g25⟩ := tri_al X24
 have h25 := below_next h24 b25
 refine wp_val (v := .pointer (some ⟨X24.heap.size, 0, none⟩)) (w' := X25) (by rw [hX]; kernel_rfl) ?_
 refine hK.out _ _ h25 ?_
 clear hK K hX
 intro _
 refine run_one (i := 12) (by kernel_rfl) rfl rfl ?_
 intro K hK
 obtain ⟨X26, hX, b26, g26⟩ := tri_al X25
 have h26 := below_next h25 b26
 refine wp_val (v := .pointer (some ⟨X25.heap.size, 0, none⟩)) (w' := X26) (by rw [hX]; kernel_rfl) ?_
 refine hK.out _ _ h26 ?_
 clear hK K hX
 intro _
 have g0 := (FBox.on g25 b26)
 obtain ⟨k0, k1, k2, y0, y1, y2, hlt⟩ := FBox.facts g0
 obtain ⟨X27, hY, h27, v27, p27, s27⟩ := tri_st (b := ba) (A1 := Aa) (c1 := ca') (l1 := la) (A2 := Da) (c2 := da) (l2 := ma) g0 h26 h24.size
 refine run_one (i := 14) (by kernel_rfl) rfl rfl ?_
 intro K hK
 go_simp
 rw [← hY]
 refine hK.out _ _ h27 ?_
 clear hK K k0 k1 k2 y0 y1 y2 hlt hY g0
 intro _
 have g0 := (p27 _ (Ne.symm (Nat.ne_of_lt (heap_lt g25))) g26)
 obtain ⟨k0, k1, k2, y0, y1, y2, hlt⟩ := FBox.facts g0
 obtain ⟨X28, hY, h28, v28, p28, s28⟩ := tri_st (b := bb) (A1 := Ab) (c1 := cb') (l1 := lb) (A2 := Db) (c2 := db) (l2 := mb) g0 h27 h25.size
 refine run_one (i := 15) (by kernel_rfl) rfl rfl ?_
 intro K hK
 go_simp
 rw [← hY]
 refine hK.out _ _ h28 ?_
 clear hK K k0 k1 k2 y0 y1 y2 hlt hY g0
 intro _
 have g0 := (p28 _ (Nat.ne_of_lt (heap_lt (FBox.on g24 b25))) (p27 _ (Nat.ne_of_lt (heap_lt g24)) (FBox.on (FBox.on g24 b25) b26)))
 obtain ⟨k0, k1, k2, y0, y1, y2, hlt⟩ := FBox.facts g0
 obtain ⟨X29, hY, h29, v29, p29, s29⟩ := tri_st (b := bc) (A1 := Ac) (c1 := cc') (l1 := lc) (A2 := Dc) (c2 := dc) (l2 := mc) g0 h28 h1.size
 refine run_one (i := 16) (by kernel_rfl) rfl rfl ?_
 intro K hK
 go_simp
 rw [← hY]
 refine hK.out _ _ h29 ?_
 clear hK K k0 k1 k2 y0 y1 y2 hlt hY g0
 intro _
 refine wpAnyH_done (by kernel_rfl) ?_ _
 refine NoPanic.normal ?_
 go_wp2_with fail
 go_meet
 exact ⟨X1.heap.size, rfl, h1.size, (s29 _ (v28 _ _ (v27 _ _ (FracR.on (FracR.on (FracR.on f1 b24) b25) b26)))), h29⟩
 }
 refine AllReadyH.cons rfl (fun K hK => ?_) ?_
 {
 obtain ⟨X30, hX, b30, g30⟩ := tri_al X24
 have h30 := below_next h24 b30
 refine wp_val (v := .pointer (some ⟨X24.heap.size, 0, none⟩)) (w' := X30) (by rw [hX]; kernel_rfl) ?_
 refine hK.out _ _ h30 ?_
 clear hK K hX
 intro _
 refine run_one (i := 11) (by kernel_rfl) rfl rfl ?_
 intro K hK
 obtain ⟨X31, hX, b31, g31⟩ := tri_al X30
 have h31 := below_next h30 b31
 refine wp_val (v := .pointer (some ⟨X30.heap.size, 0, none⟩)) (w' := X31) (by rw [hX]; kernel_rfl) ?_
 refine hK.out _ _ h31 ?_
 clear hK K hX
 intro _
 have g0 := g31
 obtain ⟨k0, k1, k2, y0, y1, y2, hlt⟩ := FBox.facts g0
 obtain ⟨X32, hY, h32, v32, p32, s32⟩ := tri_st (b := ba) (A1 := Aa) (c1 := ca') (l1 := la) (A2 := Da) (c2 := da) (l2 := ma) g0 h31 h30.size
 refine run_one (i := 14) (by kernel_rfl) rfl rfl ?_
 intro K hK
 go_simp
 rw [← hY]
 refine hK.out _ _ h32 ?_
 clear hK K k0 k1 k2 y0 y1 y2 hlt hY g0
 intro _
 have g0 := (p32 _ (Nat.ne_of_lt (heap_lt g30)) (FBox.on g30 b31))
 obtain ⟨k0, k1, k2, y0, y1, y2, hlt⟩ := FBox.facts g0
 obtain ⟨X33, hY, h33, v33, p33, s33⟩ := tri_st (b := bb) (A1 := Ab) (c1 := cb') (l1 := lb) (A2 := Db) (c2 := db) (l2 := mb) g0 h32 h24.size
 refine run_one (i := 15) (by kernel_rfl) rfl rfl ?_
 intro K hK
 go_simp
 rw [← hY]
 refine hK.out _ _ h33 ?_
 clear hK K k0 k1 k2 y0 y1 y2 hlt hY g0
 intro _
 have g0 := (p33 _ (Nat.ne_of_lt (heap_lt g24)) (p32 _ (Nat.ne_of_lt (heap_lt (FBox.on g24 b30))) (FBox.on (FBox.on g24 b30) b31)))
 obtain ⟨k0, k1, k2, y0, y1, y2, hlt⟩ := FBox.facts g0
 obtain ⟨X34, hY, h34, v34, p34, s34⟩ := tri_st (b := bc) (A1 := Ac) (c1 := cc') (l1 := lc) (A2 := Dc) (c2 := dc) (l2 := mc) g0 h33 h1.size
 refine run_one (i := 16) (by kernel_rfl) rfl rfl ?_
 intro K hK
 go_simp
 rw [← hY]
 refine hK.out _ _ h34 ?_
 clear hK K k0 k1 k2 y0 y1 y2 hlt hY g0
 intro _
 refine wpAnyH_done (by kernel_rfl) ?_ _
 refine NoPanic.normal ?_
 go_wp2_with fail
 go_meet
 exact ⟨X1.heap.size, rfl, h1.size, (s34 _ (v33 _ _ (v32 _ _ (FracR.on (FracR.on (FracR.on f1 b24) b30) b31)))), h34⟩
 }
 exact AllReadyH.nil
 }
 exact AllReadyH.nil
 }
 refine AllReadyH.cons rfl (fun K hK => ?_) ?_
 {
 obtain ⟨X35, hX, b35, g35⟩ := tri_al X0
 have h35 := below_next hb0 b35
 refine wp_val (v := .pointer (some ⟨X0.heap.size, 0, none⟩)) (w' := X35) (by rw [hX]; kernel_rfl) ?_
 refine hK.out _ _ h35 ?_
 clear hK K hX
 intro _
 refine wpAnyH_ready (rs := [6, 12, 13]) (by kernel_rfl) (by simp) ?_
 refine AllReadyH.cons rfl (fun K hK => ?_) ?_
 {
 refine wp_call (HFT1.out X35 h35) (by kernel_rfl) ?_
 rintro e X36 ⟨_, _, _, rfl, ha, hb', f36, b36⟩
 have h36 := below_next h35 b36
 refine ⟨_, rfl, hK.out _ _ h36 ?_⟩
 clear hK K
 intro _
 obtain ⟨ba, Aa, ca', la, Da, da, ma, rfl⟩ := ha.shape
 obtain ⟨bb, Ab, cb', lb, Db, db, mb, rfl⟩ := hb'.shape
 obtain ⟨bc, Ac, cc', lc, Dc, dc, mc, rfl⟩ := f36.shape
 clear ha hb'
 have HS0 := h36
 refine wpAnyH_take (i := 7) (v := ?_) rfl (by kernel_rfl) (by kernel_rfl) (by kernel_rfl) (fun _ _ _ h => h) (Or.inl ⟨by rfl, ?_⟩) HS0 ?_
 rotate_left
 · intro W hW; (try dsimp only at hW); go_simp; try (with_reducible rfl)

 clear HS0
 have HS0 := h36
 refine wpAnyH_take (i := 8) (v := ?_) rfl (by kernel_rfl) (by kernel_rfl) (by kernel_rfl) (fun _ _ _ h => h) (Or.inl ⟨by rfl, ?_⟩) HS0 ?_
 rotate_left
 · intro W hW; (try dsimp only at hW); go_simp; try (with_reducible rfl)

 clear HS0
 have HS0 := h36
 refine wpAnyH_take (i := 9) (v := ?_) rfl (by kernel_rfl) (by kernel_rfl) (by kernel_rfl) (fun _ _ _ h => h) (Or.inl ⟨by rfl, ?_⟩) HS0 ?_
 rotate_left
 · intro W hW; (try dsimp only at hW); go_simp; try (with_reducible rfl)

 clear HS0
 have HS0 := h36
 refine wpAnyH_take (i := 10) (v := ?_) rfl (by kernel_rfl) (by kernel_rfl) (by kernel_rfl) (fun _ _ _ h => h) (Or.inl ⟨by rfl, ?_⟩) HS0 ?_
 rotate_left
 · intro W hW; (try dsimp only at hW); go_simp; try (with_reducible rfl)

 clear HS0
 refine wpAnyH_ready (rs := [12, 13]) (by kernel_rfl) (by simp) ?_
 refine AllReadyH.cons rfl (fun K hK => ?_) ?_
 {
 obtain ⟨X37, hX, b37, g37⟩ := tri_al X36
 have h37 := below_next h36 b37
 refine wp_val (v := .pointer (some ⟨X36.heap.size, 0, none⟩)) (w' := X37) (by rw [hX]; kernel_rfl) ?_
 refine hK.out _ _ h37 ?_
 clear hK K hX
 intro _
 refine run_one (i := 13) (by kernel_rfl) rfl rfl ?_
 intro K hK
 obtain ⟨X38, hX, b38, g38⟩ := tri_al X37
 have h38 := below_next h37 b38
 refine wp_val (v := .pointer (some ⟨X37.heap.size, 0, none⟩)) (w' := X38) (by rw [hX]; kernel_rfl) ?_
 refine hK.out _ _ h38 ?_
 clear hK K hX
 intro _
 have g0 := (FBox.on (FBox.on (FBox.on g35 b36) b37) b38)
 obtain ⟨k0, k1, k2, y0, y1, y2, hlt⟩ := FBox.facts g0
 obtain ⟨X39, hY, h39, v39, p39, s39⟩ := tri_st (b := ba) (A1 := Aa) (c1 := ca') (l1 := la) (A2 := Da) (c2 := da) (l2 := ma) g0 h38 hb0.size
 refine run_one (i := 14) (by kernel_rfl) rfl rfl ?_
 intro K hK
 go_simp
 rw [← hY]
 refine hK.out _ _ h39 ?_
 clear hK K k0 k1 k2 y0 y1 y2 hlt hY g0
 intro _
 have g0 := (p39 _ (Ne.symm (Nat.ne_of_lt (heap_lt (FBox.on g35 b36)))) (FBox.on g37 b38))
 obtain ⟨k0, k1, k2, y0, y1, y2, hlt⟩ := FBox.facts g0
 obtain ⟨X40, hY, h40, v40, p40, s40⟩ := tri_st (b := bb) (A1 := Ab) (c1 := cb') (l1 := lb) (A2 := Db) (c2 := db) (l2 := mb) g0 h39 h36.size
 refine run_one (i := 15) (by kernel_rfl) rfl rfl ?_
 intro K hK
 go_simp
 rw [← hY]
 refine hK.out _ _ h40 ?_
 clear hK K k0 k1 k2 y0 y1 y2 hlt hY g0
 intro _
 have g0 := (p40 _ (Ne.symm (Nat.ne_of_lt (heap_lt g37))) (p39 _ (Ne.symm (Nat.ne_of_lt (heap_lt (FBox.on (FBox.on g35 b36) b37)))) g38))
 obtain ⟨k0, k1, k2, y0, y1, y2, hlt⟩ := FBox.facts g0
 obtain ⟨X41, hY, h41, v41, p41, s41⟩ := tri_st (b := bc) (A1 := Ac) (c1 := cc') (l1 := lc) (A2 := Dc) (c2 := dc) (l2 := mc) g0 h40 h37.size
 refine run_one (i := 16) (by kernel_rfl) rfl rfl ?_
 intro K hK
 go_simp
 rw [← hY]
 refine hK.out _ _ h41 ?_
 clear hK K k0 k1 k2 y0 y1 y2 hlt hY g0
 intro _
 refine wpAnyH_done (by kernel_rfl) ?_ _
 refine NoPanic.normal ?_
 go_wp2_with fail
 go_meet
 exact ⟨X37.heap.size, rfl, h37.size, (s41 _ (v40 _ _ (v39 _ _ (FracR.on (FracR.on f36 b37) b38)))), h41⟩
 }
 refine AllReadyH.cons rfl (fun K hK => ?_) ?_
 {
 obtain ⟨X42, hX, b42, g42⟩ := tri_al X36
 have h42 := below_next h36 b42
 refine wp_val (v := .pointer (some ⟨X36.heap.size, 0, none⟩)) (w' := X42) (by rw [hX]; kernel_rfl) ?_
 refine hK.out _ _ h42 ?_
 clear hK K hX
 intro _
 refine run_one (i := 12) (by kernel_rfl) rfl rfl ?_
 intro K hK
 obtain ⟨X43, hX, b43, g43⟩ := tri_al X42
 have h43 := below_next h42 b43
 refine wp_val (v := .pointer (some ⟨X42.heap.size, 0, none⟩)) (w' := X43) (by rw [hX]; kernel_rfl) ?_
 refine hK.out _ _ h43 ?_
 clear hK K hX
 intro _
 have g0 := (FBox.on (FBox.on (FBox.on g35 b36) b42) b43)
 obtain ⟨k0, k1, k2, y0, y1, y2, hlt⟩ := FBox.facts g0
 obtain ⟨X44, hY, h44, v44, p44, s44⟩ := tri_st (b := ba) (A1 := Aa) (c1 := ca') (l1 := la) (A2 := Da) (c2 := da) (l2 := ma) g0 h43 hb0.size
 refine run_one (i := 14) (by kernel_rfl) rfl rfl ?_
 intro K hK
 go_simp
 rw [← hY]
 refine hK.out _ _ h44 ?_
 clear hK K k0 k1 k2 y0 y1 y2 hlt hY g0
 intro _
 have g0 := (p44 _ (Ne.symm (Nat.ne_of_lt (heap_lt (FBox.on (FBox.on g35 b36) b42)))) g43)
 obtain ⟨k0, k1, k2, y0, y1, y2, hlt⟩ := FBox.facts g0
 obtain ⟨X45, hY, h45, v45, p45, s45⟩ := tri_st (b := bb) (A1 := Ab) (c1 := cb') (l1 := lb) (A2 := Db) (c2 := db) (l2 := mb) g0 h44 h42.size
 refine run_one (i := 15) (by kernel_rfl) rfl rfl ?_
 intro K hK
 go_simp
 rw [← hY]
 refine hK.out _ _ h45 ?_
 clear hK K k0 k1 k2 y0 y1 y2 hlt hY g0
 intro _
 have g0 := (p45 _ (Nat.ne_of_lt (heap_lt g42)) (p44 _ (Ne.symm (Nat.ne_of_lt (heap_lt (FBox.on g35 b36)))) (FBox.on g42 b43)))
 obtain ⟨k0, k1, k2, y0, y1, y2, hlt⟩ := FBox.facts g0
 obtain ⟨X46, hY, h46, v46, p46, s46⟩ := tri_st (b := bc) (A1 := Ac) (c1 := cc') (l1 := lc) (A2 := Dc) (c2 := dc) (l2 := mc) g0 h45 h36.size
 refine run_one (i := 16) (by kernel_rfl) rfl rfl ?_
 intro K hK
 go_simp
 rw [← hY]
 refine hK.out _ _ h46 ?_
 clear hK K k0 k1 k2 y0 y1 y2 hlt hY g0
 intro _
 refine wpAnyH_done (by kernel_rfl) ?_ _
 refine NoPanic.normal ?_
 go_wp2_with fail
 go_meet
 exact ⟨X36.heap.size, rfl, h36.size, (s46 _ (v45 _ _ (v44 _ _ (FracR.on (FracR.on f36 b42) b43)))), h46⟩
 }
 exact AllReadyH.nil
 }
 refine AllReadyH.cons rfl (fun K hK => ?_) ?_
 {
 obtain ⟨X47, hX, b47, g47⟩ := tri_al X35
 have h47 := below_next h35 b47
 refine wp_val (v := .pointer (some ⟨X35.heap.size, 0, none⟩)) (w' := X47) (by rw [hX]; kernel_rfl) ?_
 refine hK.out _ _ h47 ?_
 clear hK K hX
 intro _
 refine wpAnyH_ready (rs := [6, 13]) (by kernel_rfl) (by simp) ?_
 refine AllReadyH.cons rfl (fun K hK => ?_) ?_
 {
 refine wp_call (HFT1.out X47 h47) (by kernel_rfl) ?_
 rintro e X48 ⟨_, _, _, rfl, ha, hb', f48, b48⟩
 have h48 := below_next h47 b48
 refine ⟨_, rfl, hK.out _ _ h48 ?_⟩
 clear hK K
 intro _
 obtain ⟨ba, Aa, ca', la, Da, da, ma, rfl⟩ := ha.shape
 obtain ⟨bb, Ab, cb', lb, Db, db, mb, rfl⟩ := hb'.shape
 obtain ⟨bc, Ac, cc', lc, Dc, dc, mc, rfl⟩ := f48.shape
 clear ha hb'
 have HS0 := h48
 refine wpAnyH_take (i := 7) (v := ?_) rfl (by kernel_rfl) (by kernel_rfl) (by kernel_rfl) (fun _ _ _ h => h) (Or.inl ⟨by rfl, ?_⟩) HS0 ?_
 rotate_left
 · intro W hW; (try dsimp only at hW); go_simp; try (with_reducible rfl)

 clear HS0
 have HS0 := h48
 refine wpAnyH_take (i := 8) (v := ?_) rfl (by kernel_rfl) (by kernel_rfl) (by kernel_rfl) (fun _ _ _ h => h) (Or.inl ⟨by rfl, ?_⟩) HS0 ?_
 rotate_left
 · intro W hW; (try dsimp only at hW); go_simp; try (with_reducible rfl)

 clear HS0
 have HS0 := h48
 refine wpAnyH_take (i := 9) (v := ?_) rfl (by kernel_rfl) (by kernel_rfl) (by kernel_rfl) (fun _ _ _ h => h) (Or.inl ⟨by rfl, ?_⟩) HS0 ?_
 rotate_left
 · intro W hW; (try dsimp only at hW); go_simp; try (with_reducible rfl)

 clear HS0
 have HS0 := h48
 refine wpAnyH_take (i := 10) (v := ?_) rfl (by kernel_rfl) (by kernel_rfl) (by kernel_rfl) (fun _ _ _ h => h) (Or.inl ⟨by rfl, ?_⟩) HS0 ?_
 rotate_left
 · intro W hW; (try dsimp only at hW); go_simp; try (with_reducible rfl)

 clear HS0
 refine run_one (i := 13) (by kernel_rfl) rfl rfl ?_
 intro K hK
 obtain ⟨X49, hX, b49, g49⟩ := tri_al X48
 have h49 := below_next h48 b49
 refine wp_val (v := .pointer (some ⟨X48.heap.size, 0, none⟩)) (w' := X49) (by rw [hX]; kernel_rfl) ?_
 refine hK.out _ _ h49 ?_
 clear hK K hX
 intro _
 have g0 := (FBox.on (FBox.on (FBox.on g35 b47) b48) b49)
 obtain ⟨k0, k1, k2, y0, y1, y2, hlt⟩ := FBox.facts g0
 obtain ⟨X50, hY, h50, v50, p50, s50⟩ := tri_st (b := ba) (A1 := Aa) (c1 := ca') (l1 := la) (A2 := Da) (c2 := da) (l2 := ma) g0 h49 hb0.size
 refine run_one (i := 14) (by kernel_rfl) rfl rfl ?_
 intro K hK
 go_simp
 rw [← hY]
 refine hK.out _ _ h50 ?_
 clear hK K k0 k1 k2 y0 y1 y2 hlt hY g0
 intro _
 have g0 := (p50 _ (Ne.symm (Nat.ne_of_lt (heap_lt g35))) (FBox.on (FBox.on g47 b48) b49))
 obtain ⟨k0, k1, k2, y0, y1, y2, hlt⟩ := FBox.facts g0
 obtain ⟨X51, hY, h51, v51, p51, s51⟩ := tri_st (b := bb) (A1 := Ab) (c1 := cb') (l1 := lb) (A2 := Db) (c2 := db) (l2 := mb) g0 h50 h35.size
 refine run_one (i := 15) (by kernel_rfl) rfl rfl ?_
 intro K hK
 go_simp
 rw [← hY]
 refine hK.out _ _ h51 ?_
 clear hK K k0 k1 k2 y0 y1 y2 hlt hY g0
 intro _
 have g0 := (p51 _ (Ne.symm (Nat.ne_of_lt (heap_lt (FBox.on g47 b48)))) (p50 _ (Ne.symm (Nat.ne_of_lt (heap_lt (FBox.on (FBox.on g35 b47) b48)))) g49))
 obtain ⟨k0, k1, k2, y0, y1, y2, hlt⟩ := FBox.facts g0
 obtain ⟨X52, hY, h52, v52, p52, s52⟩ := tri_st (b := bc) (A1 := Ac) (c1 := cc') (l1 := lc) (A2 := Dc) (c2 := dc) (l2 := mc) g0 h51 h48.size
 refine run_one (i := 16) (by kernel_rfl) rfl rfl ?_
 intro K hK
 go_simp
 rw [← hY]
 refine hK.out _ _ h52 ?_
 clear hK K k0 k1 k2 y0 y1 y2 hlt hY g0
 intro _
 refine wpAnyH_done (by kernel_rfl) ?_ _
 refine NoPanic.normal ?_
 go_wp2_with fail
 go_meet
 exact ⟨X48.heap.size, rfl, h48.size, (s52 _ (v51 _ _ (v50 _ _ (FracR.on f48 b49)))), h52⟩
 }
 refine AllReadyH.cons rfl (fun K hK => ?_) ?_
 {
 obtain ⟨X53, hX, b53, g53⟩ := tri_al X47
 have h53 := below_next h47 b53
 refine wp_val (v := .pointer (some ⟨X47.heap.size, 0, none⟩)) (w' := X53) (by rw [hX]; kernel_rfl) ?_
 refine hK.out _ _ h53 ?_
 clear hK K hX
 intro _
 refine run_one (i := 6) (by kernel_rfl) rfl rfl ?_
 intro K hK
 refine wp_call (HFT1.out X53 h53) (by kernel_rfl) ?_
 rintro e X54 ⟨_, _, _, rfl, ha, hb', f54, b54⟩
 have h54 := below_next h53 b54
 refine ⟨_, rfl, hK.out _ _ h54 ?_⟩
 clear hK K
 intro _
 obtain ⟨ba, Aa, ca', la, Da, da, ma, rfl⟩ := ha.shape
 obtain ⟨bb, Ab, cb', lb, Db, db, mb, rfl⟩ := hb'.shape
 obtain ⟨bc, Ac, cc', lc, Dc, dc, mc, rfl⟩ := f54.shape
 clear ha hb'
 have HS0 := h54
 refine wpAnyH_take (i := 7) (v := ?_) rfl (by kernel_rfl) (by kernel_rfl) (by kernel_rfl) (fun _ _ _ h => h) (Or.inl ⟨by rfl, ?_⟩) HS0 ?_
 rotate_left
 · intro W hW; (try dsimp only at hW); go_simp; try (with_reducible rfl)

 clear HS0
 have HS0 := h54
 refine wpAnyH_take (i := 8) (v := ?_) rfl (by kernel_rfl) (by kernel_rfl) (by kernel_rfl) (fun _ _ _ h => h) (Or.inl ⟨by rfl, ?_⟩) HS0 ?_
 rotate_left
 · intro W hW; (try dsimp only at hW); go_simp; try (with_reducible rfl)

 clear HS0
 have HS0 := h54
 refine wpAnyH_take (i := 9) (v := ?_) rfl (by kernel_rfl) (by kernel_rfl) (by kernel_rfl) (fun _ _ _ h => h) (Or.inl ⟨by rfl, ?_⟩) HS0 ?_
 rotate_left
 · intro W hW; (try dsimp only at hW); go_simp; try (with_reducible rfl)

 clear HS0
 have HS0 := h54
 refine wpAnyH_take (i := 10) (v := ?_) rfl (by kernel_rfl) (by kernel_rfl) (by kernel_rfl) (fun _ _ _ h => h) (Or.inl ⟨by rfl, ?_⟩) HS0 ?_
 rotate_left
 · intro W hW; (try dsimp only at hW); go_simp; try (with_reducible rfl)

 clear HS0
 have g0 := (FBox.on (FBox.on (FBox.on g35 b47) b53) b54)
 obtain ⟨k0, k1, k2, y0, y1, y2, hlt⟩ := FBox.facts g0
 obtain ⟨X55, hY, h55, v55, p55, s55⟩ := tri_st (b := ba) (A1 := Aa) (c1 := ca') (l1 := la) (A2 := Da) (c2 := da) (l2 := ma) g0 h54 hb0.size
 refine run_one (i := 14) (by kernel_rfl) rfl rfl ?_
 intro K hK
 go_simp
 rw [← hY]
 refine hK.out _ _ h55 ?_
 clear hK K k0 k1 k2 y0 y1 y2 hlt hY g0
 intro _
 have g0 := (p55 _ (Ne.symm (Nat.ne_of_lt (heap_lt g35))) (FBox.on (FBox.on g47 b53) b54))
 obtain ⟨k0, k1, k2, y0, y1, y2, hlt⟩ := FBox.facts g0
 obtain ⟨X56, hY, h56, v56, p56, s56⟩ := tri_st (b := bb) (A1 := Ab) (c1 := cb') (l1 := lb) (A2 := Db) (c2 := db) (l2 := mb) g0 h55 h35.size
 refine run_one (i := 15) (by kernel_rfl) rfl rfl ?_
 intro K hK
 go_simp
 rw [← hY]
 refine hK.out _ _ h56 ?_
 clear hK K k0 k1 k2 y0 y1 y2 hlt hY g0
 intro _
 have g0 := (p56 _ (Ne.symm (Nat.ne_of_lt (heap_lt g47))) (p55 _ (Ne.symm (Nat.ne_of_lt (heap_lt (FBox.on g35 b47)))) (FBox.on g53 b54)))
 obtain ⟨k0, k1, k2, y0, y1, y2, hlt⟩ := FBox.facts g0
 obtain ⟨X57, hY, h57, v57, p57, s57⟩ := tri_st (b := bc) (A1 := Ac) (c1 := cc') (l1 := lc) (A2 := Dc) (c2 := dc) (l2 := mc) g0 h56 h47.size
 refine run_one (i := 16) (by kernel_rfl) rfl rfl ?_
 intro K hK
 go_simp
 rw [← hY]
 refine hK.out _ _ h57 ?_
 clear hK K k0 k1 k2 y0 y1 y2 hlt hY g0
 intro _
 refine wpAnyH_done (by kernel_rfl) ?_ _
 refine NoPanic.normal ?_
 go_wp2_with fail
 go_meet
 exact ⟨X47.heap.size, rfl, h47.size, (s57 _ (v56 _ _ (v55 _ _ f54))), h57⟩
 }
 exact AllReadyH.nil
 }
 refine AllReadyH.cons rfl (fun K hK => ?_) ?_
 {
 obtain ⟨X58, hX, b58, g58⟩ := tri_al X35
 have h58 := below_next h35 b58
 refine wp_val (v := .pointer (some ⟨X35.heap.size, 0, none⟩)) (w' := X58) (by rw [hX]; kernel_rfl) ?_
 refine hK.out _ _ h58 ?_
 clear hK K hX
 intro _
 refine wpAnyH_ready (rs := [6, 12]) (by kernel_rfl) (by simp) ?_
 refine AllReadyH.cons rfl (fun K hK => ?_) ?_
 {
 refine wp_call (HFT1.out X58 h58) (by kernel_rfl) ?_
 rintro e X59 ⟨_, _, _, rfl, ha, hb', f59, b59⟩
 have h59 := below_next h58 b59
 refine ⟨_, rfl, hK.out _ _ h59 ?_⟩
 clear hK K
 intro _
 obtain ⟨ba, Aa, ca', la, Da, da, ma, rfl⟩ := ha.shape
 obtain ⟨bb, Ab, cb', lb, Db, db, mb, rfl⟩ := hb'.shape
 obtain ⟨bc, Ac, cc', lc, Dc, dc, mc, rfl⟩ := f59.shape
 clear ha hb'
 have HS0 := h59
 refine wpAnyH_take (i := 7) (v := ?_) rfl (by kernel_rfl) (by kernel_rfl) (by kernel_rfl) (fun _ _ _ h => h) (Or.inl ⟨by rfl, ?_⟩) HS0 ?_
 rotate_left
 · intro W hW; (try dsimp only at hW); go_simp; try (with_reducible rfl)

 clear HS0
 have HS0 := h59
 refine wpAnyH_take (i := 8) (v := ?_) rfl (by kernel_rfl) (by kernel_rfl) (by kernel_rfl) (fun _ _ _ h => h) (Or.inl ⟨by rfl, ?_⟩) HS0 ?_
 rotate_left
 · intro W hW; (try dsimp only at hW); go_simp; try (with_reducible rfl)

 clear HS0
 have HS0 := h59
 refine wpAnyH_take (i := 9) (v := ?_) rfl (by kernel_rfl) (by kernel_rfl) (by kernel_rfl) (fun _ _ _ h => h) (Or.inl ⟨by rfl, ?_⟩) HS0 ?_
 rotate_left
 · intro W hW; (try dsimp only at hW); go_simp; try (with_reducible rfl)

 clear HS0
 have HS0 := h59
 refine wpAnyH_take (i := 10) (v := ?_) rfl (by kernel_rfl) (by kernel_rfl) (by kernel_rfl) (fun _ _ _ h => h) (Or.inl ⟨by rfl, ?_⟩) HS0 ?_
 rotate_left
 · intro W hW; (try dsimp only at hW); go_simp; try (with_reducible rfl)

 clear HS0
 refine run_one (i := 12) (by kernel_rfl) rfl rfl ?_
 intro K hK
 obtain ⟨X60, hX, b60, g60⟩ := tri_al X59
 have h60 := below_next h59 b60
 refine wp_val (v := .pointer (some ⟨X59.heap.size, 0, none⟩)) (w' := X60) (by rw [hX]; kernel_rfl) ?_
 refine hK.out _ _ h60 ?_
 clear hK K hX
 intro _
 have g0 := (FBox.on (FBox.on (FBox.on g35 b58) b59) b60)
 obtain ⟨k0, k1, k2, y0, y1, y2, hlt⟩ := FBox.facts g0
 obtain ⟨X61, hY, h61, v61, p61, s61⟩ := tri_st (b := ba) (A1 := Aa) (c1 := ca') (l1 := la) (A2 := Da) (c2 := da) (l2 := ma) g0 h60 hb0.size
 refine run_one (i := 14) (by kernel_rfl) rfl rfl ?_
 intro K hK
 go_simp
 rw [← hY]
 refine hK.out _ _ h61 ?_
 clear hK K k0 k1 k2 y0 y1 y2 hlt hY g0
 intro _
 have g0 := (p61 _ (Ne.symm (Nat.ne_of_lt (heap_lt (FBox.on (FBox.on g35 b58) b59)))) g60)
 obtain ⟨k0, k1, k2, y0, y1, y2, hlt⟩ := FBox.facts g0
 obtain ⟨X62, hY, h62, v62, p62, s62⟩ := tri_st (b := bb) (A1 := Ab) (c1 := cb') (l1 := lb) (A2 := Db) (c2 := db) (l2 := mb) g0 h61 h59.size
 refine run_one (i := 15) (by kernel_rfl) rfl rfl ?_
 intro K hK
 go_simp
 rw [← hY]
 refine hK.out _ _ h62 ?_
 clear hK K k0 k1 k2 y0 y1 y2 hlt hY g0
 intro _
 have g0 := (p62 _ (Nat.ne_of_lt (heap_lt (FBox.on g58 b59))) (p61 _ (Ne.symm (Nat.ne_of_lt (heap_lt g35))) (FBox.on (FBox.on g58 b59) b60)))
 obtain ⟨k0, k1, k2, y0, y1, y2, hlt⟩ := FBox.facts g0
 obtain ⟨X63, hY, h63, v63, p63, s63⟩ := tri_st (b := bc) (A1 := Ac) (c1 := cc') (l1 := lc) (A2 := Dc) (c2 := dc) (l2 := mc) g0 h62 h35.size
 refine run_one (i := 16) (by kernel_rfl) rfl rfl ?_
 intro K hK
 go_simp
 rw [← hY]
 refine hK.out _ _ h63 ?_
 clear hK K k0 k1 k2 y0 y1 y2 hlt hY g0
 intro _
 refine wpAnyH_done (by kernel_rfl) ?_ _
 refine NoPanic.normal ?_
 go_wp2_with fail
 go_meet
 exact ⟨X35.heap.size, rfl, h35.size, (s63 _ (v62 _ _ (v61 _ _ (FracR.on f59 b60)))), h63⟩
 }
 refine AllReadyH.cons rfl (fun K hK => ?_) ?_
 {
 obtain ⟨X64, hX, b64, g64⟩ := tri_al X58
 have h64 := below_next h58 b64
 refine wp_val (v := .pointer (some ⟨X58.heap.size, 0, none⟩)) (w' := X64) (by rw [hX]; kernel_rfl) ?_
 refine hK.out _ _ h64 ?_
 clear hK K hX
 intro _
 refine run_one (i := 6) (by kernel_rfl) rfl rfl ?_
 intro K hK
 refine wp_call (HFT1.out X64 h64) (by kernel_rfl) ?_
 rintro e X65 ⟨_, _, _, rfl, ha, hb', f65, b65⟩
 have h65 := below_next h64 b65
 refine ⟨_, rfl, hK.out _ _ h65 ?_⟩
 clear hK K
 intro _
 obtain ⟨ba, Aa, ca', la, Da, da, ma, rfl⟩ := ha.shape
 obtain ⟨bb, Ab, cb', lb, Db, db, mb, rfl⟩ := hb'.shape
 obtain ⟨bc, Ac, cc', lc, Dc, dc, mc, rfl⟩ := f65.shape
 clear ha hb'
 have HS0 := h65
 refine wpAnyH_take (i := 7) (v := ?_) rfl (by kernel_rfl) (by kernel_rfl) (by kernel_rfl) (fun _ _ _ h => h) (Or.inl ⟨by rfl, ?_⟩) HS0 ?_
 rotate_left
 · intro W hW; (try dsimp only at hW); go_simp; try (with_reducible rfl)

 clear HS0
 have HS0 := h65
 refine wpAnyH_take (i := 8) (v := ?_) rfl (by kernel_rfl) (by kernel_rfl) (by kernel_rfl) (fun _ _ _ h => h) (Or.inl ⟨by rfl, ?_⟩) HS0 ?_
 rotate_left
 · intro W hW; (try dsimp only at hW); go_simp; try (with_reducible rfl)

 clear HS0
 have HS0 := h65
 refine wpAnyH_take (i := 9) (v := ?_) rfl (by kernel_rfl) (by kernel_rfl) (by kernel_rfl) (fun _ _ _ h => h) (Or.inl ⟨by rfl, ?_⟩) HS0 ?_
 rotate_left
 · intro W hW; (try dsimp only at hW); go_simp; try (with_reducible rfl)

 clear HS0
 have HS0 := h65
 refine wpAnyH_take (i := 10) (v := ?_) rfl (by kernel_rfl) (by kernel_rfl) (by kernel_rfl) (fun _ _ _ h => h) (Or.inl ⟨by rfl, ?_⟩) HS0 ?_
 rotate_left
 · intro W hW; (try dsimp only at hW); go_simp; try (with_reducible rfl)

 clear HS0
 have g0 := (FBox.on (FBox.on (FBox.on g35 b58) b64) b65)
 obtain ⟨k0, k1, k2, y0, y1, y2, hlt⟩ := FBox.facts g0
 obtain ⟨X66, hY, h66, v66, p66, s66⟩ := tri_st (b := ba) (A1 := Aa) (c1 := ca') (l1 := la) (A2 := Da) (c2 := da) (l2 := ma) g0 h65 hb0.size
 refine run_one (i := 14) (by kernel_rfl) rfl rfl ?_
 intro K hK
 go_simp
 rw [← hY]
 refine hK.out _ _ h66 ?_
 clear hK K k0 k1 k2 y0 y1 y2 hlt hY g0
 intro _
 have g0 := (p66 _ (Ne.symm (Nat.ne_of_lt (heap_lt (FBox.on g35 b58)))) (FBox.on g64 b65))
 obtain ⟨k0, k1, k2, y0, y1, y2, hlt⟩ := FBox.facts g0
 obtain ⟨X67, hY, h67, v67, p67, s67⟩ := tri_st (b := bb) (A1 := Ab) (c1 := cb') (l1 := lb) (A2 := Db) (c2 := db) (l2 := mb) g0 h66 h58.size
 refine run_one (i := 15) (by kernel_rfl) rfl rfl ?_
 intro K hK
 go_simp
 rw [← hY]
 refine hK.out _ _ h67 ?_
 clear hK K k0 k1 k2 y0 y1 y2 hlt hY g0
 intro _
 have g0 := (p67 _ (Nat.ne_of_lt (heap_lt g58)) (p66 _ (Ne.symm (Nat.ne_of_lt (heap_lt g35))) (FBox.on (FBox.on g58 b64) b65)))
 obtain ⟨k0, k1, k2, y0, y1, y2, hlt⟩ := FBox.facts g0
 obtain ⟨X68, hY, h68, v68, p68, s68⟩ := tri_st (b := bc) (A1 := Ac) (c1 := cc') (l1 := lc) (A2 := Dc) (c2 := dc) (l2 := mc) g0 h67 h35.size
 refine run_one (i := 16) (by kernel_rfl) rfl rfl ?_
 intro K hK
 go_simp
 rw [← hY]
 refine hK.out _ _ h68 ?_
 clear hK K k0 k1 k2 y0 y1 y2 hlt hY g0
 intro _
 refine wpAnyH_done (by kernel_rfl) ?_ _
 refine NoPanic.normal ?_
 go_wp2_with fail
 go_meet
 exact ⟨X35.heap.size, rfl, h35.size, (s68 _ (v67 _ _ (v66 _ _ f65))), h68⟩
 }
 exact AllReadyH.nil
 }
 exact AllReadyH.nil
 }
 refine AllReadyH.cons rfl (fun K hK => ?_) ?_
 {
 obtain ⟨X69, hX, b69, g69⟩ := tri_al X0
 have h69 := below_next hb0 b69
 refine wp_val (v := .pointer (some ⟨X0.heap.size, 0, none⟩)) (w' := X69) (by rw [hX]; kernel_rfl) ?_
 refine hK.out _ _ h69 ?_
 clear hK K hX
 intro _
 refine wpAnyH_ready (rs := [6, 11, 13]) (by kernel_rfl) (by simp) ?_
 refine AllReadyH.cons rfl (fun K hK => ?_) ?_
 {
 refine wp_call (HFT1.out X69 h69) (by kernel_rfl) ?_
 rintro e X70 ⟨_, _, _, rfl, ha, hb', f70, b70⟩
 have h70 := below_next h69 b70
 refine ⟨_, rfl, hK.out _ _ h70 ?_⟩
 clear hK K
 intro _
 obtain ⟨ba, Aa, ca', la, Da, da, ma, rfl⟩ := ha.shape
 obtain ⟨bb, Ab, cb', lb, Db, db, mb, rfl⟩ := hb'.shape
 obtain ⟨bc, Ac, cc', lc, Dc, dc, mc, rfl⟩ := f70.shape
 clear ha hb'
 have HS0 := h70
 refine wpAnyH_take (i := 7) (v := ?_) rfl (by kernel_rfl) (by kernel_rfl) (by kernel_rfl) (fun _ _ _ h => h) (Or.inl ⟨by rfl, ?_⟩) HS0 ?_
 rotate_left
 · intro W hW; (try dsimp only at hW); go_simp; try (with_reducible rfl)

 clear HS0
 have HS0 := h70
 refine wpAnyH_take (i := 8) (v := ?_) rfl (by kernel_rfl) (by kernel_rfl) (by kernel_rfl) (fun _ _ _ h => h) (Or.inl ⟨by rfl, ?_⟩) HS0 ?_
 rotate_left
 · intro W hW; (try dsimp only at hW); go_simp; try (with_reducible rfl)

 clear HS0
 have HS0 := h70
 refine wpAnyH_take (i := 9) (v := ?_) rfl (by kernel_rfl) (by kernel_rfl) (by kernel_rfl) (fun _ _ _ h => h) (Or.inl ⟨by rfl, ?_⟩) HS0 ?_
 rotate_left
 · intro W hW; (try dsimp only at hW); go_simp; try (with_reducible rfl)

 clear HS0
 have HS0 := h70
 refine wpAnyH_take (i := 10) (v := ?_) rfl (by kernel_rfl) (by kernel_rfl) (by kernel_rfl) (fun _ _ _ h => h) (Or.inl ⟨by rfl, ?_⟩) HS0 ?_
 rotate_left
 · intro W hW; (try dsimp only at hW); go_simp; try (with_reducible rfl)

 clear HS0
 refine wpAnyH_ready (rs := [11, 13]) (by kernel_rfl) (by simp) ?_
 refine AllReadyH.cons rfl (fun K hK => ?_) ?_
 {
 obtain ⟨X71, hX, b71, g71⟩ := tri_al X70
 have h71 := below_next h70 b71
 refine wp_val (v := .pointer (some ⟨X70.heap.size, 0, none⟩)) (w' := X71) (by rw [hX]; kernel_rfl) ?_
 refine hK.out _ _ h71 ?_
 clear hK K hX
 intro _
 refine run_one (i := 13) (by kernel_rfl) rfl rfl ?_
 intro K hK
 obtain ⟨X72, hX, b72, g72⟩ := tri_al X71
 have h72 := below_next h71 b72
 refine wp_val (v := .pointer (some ⟨X71.heap.size, 0, none⟩)) (w' := X72) (by rw [hX]; kernel_rfl) ?_
 refine hK.out _ _ h72 ?_
 clear hK K hX
 intro _
 have g0 := (FBox.on g71 b72)
 obtain ⟨k0, k1, k2, y0, y1, y2, hlt⟩ := FBox.facts g0
 obtain ⟨X73, hY, h73, v73, p73, s73⟩ := tri_st (b := ba) (A1 := Aa) (c1 := ca') (l1 := la) (A2 := Da) (c2 := da) (l2 := ma) g0 h72 h70.size
 refine run_one (i := 14) (by kernel_rfl) rfl rfl ?_
 intro K hK
 go_simp
 rw [← hY]
 refine hK.out _ _ h73 ?_
 clear hK K k0 k1 k2 y0 y1 y2 hlt hY g0
 intro _
 have g0 := (p73 _ (Nat.ne_of_lt (heap_lt (FBox.on g69 b70))) (FBox.on (FBox.on (FBox.on g69 b70) b71) b72))
 obtain ⟨k0, k1, k2, y0, y1, y2, hlt⟩ := FBox.facts g0
 obtain ⟨X74, hY, h74, v74, p74, s74⟩ := tri_st (b := bb) (A1 := Ab) (c1 := cb') (l1 := lb) (A2 := Db) (c2 := db) (l2 := mb) g0 h73 hb0.size
 refine run_one (i := 15) (by kernel_rfl) rfl rfl ?_
 intro K hK
 go_simp
 rw [← hY]
 refine hK.out _ _ h74 ?_
 clear hK K k0 k1 k2 y0 y1 y2 hlt hY g0
 intro _
 have g0 := (p74 _ (Ne.symm (Nat.ne_of_lt (heap_lt (FBox.on (FBox.on g69 b70) b71)))) (p73 _ (Ne.symm (Nat.ne_of_lt (heap_lt g71))) g72))
 obtain ⟨k0, k1, k2, y0, y1, y2, hlt⟩ := FBox.facts g0
 obtain ⟨X75, hY, h75, v75, p75, s75⟩ := tri_st (b := bc) (A1 := Ac) (c1 := cc') (l1 := lc) (A2 := Dc) (c2 := dc) (l2 := mc) g0 h74 h71.size
 refine run_one (i := 16) (by kernel_rfl) rfl rfl ?_
 intro K hK
 go_simp
 rw [← hY]
 refine hK.out _ _ h75 ?_
 clear hK K k0 k1 k2 y0 y1 y2 hlt hY g0
 intro _
 refine wpAnyH_done (by kernel_rfl) ?_ _
 refine NoPanic.normal ?_
 go_wp2_with fail
 go_meet
 exact ⟨X71.heap.size, rfl, h71.size, (s75 _ (v74 _ _ (v73 _ _ (FracR.on (FracR.on f70 b71) b72)))), h75⟩
 }
 refine AllReadyH.cons rfl (fun K hK => ?_) ?_
 {
 obtain ⟨X76, hX, b76, g76⟩ := tri_al X70
 have h76 := below_next h70 b76
 refine wp_val (v := .pointer (some ⟨X70.heap.size, 0, none⟩)) (w' := X76) (by rw [hX]; kernel_rfl) ?_
 refine hK.out _ _ h76 ?_
 clear hK K hX
 intro _
 refine run_one (i := 11) (by kernel_rfl) rfl rfl ?_
 intro K hK
 obtain ⟨X77, hX, b77, g77⟩ := tri_al X76
 have h77 := below_next h76 b77
 refine wp_val (v := .pointer (some ⟨X76.heap.size, 0, none⟩)) (w' := X77) (by rw [hX]; kernel_rfl) ?_
 refine hK.out _ _ h77 ?_
 clear hK K hX
 intro _
 have g0 := g77
 obtain ⟨k0, k1, k2, y0, y1, y2, hlt⟩ := FBox.facts g0
 obtain ⟨X78, hY, h78, v78, p78, s78⟩ := tri_st (b := ba) (A1 := Aa) (c1 := ca') (l1 := la) (A2 := Da) (c2 := da) (l2 := ma) g0 h77 h76.size
 refine run_one (i := 14) (by kernel_rfl) rfl rfl ?_
 intro K hK
 go_simp
 rw [← hY]
 refine hK.out _ _ h78 ?_
 clear hK K k0 k1 k2 y0 y1 y2 hlt hY g0
 intro _
 have g0 := (p78 _ (Nat.ne_of_lt (heap_lt (FBox.on (FBox.on g69 b70) b76))) (FBox.on (FBox.on (FBox.on g69 b70) b76) b77))
 obtain ⟨k0, k1, k2, y0, y1, y2, hlt⟩ := FBox.facts g0
 obtain ⟨X79, hY, h79, v79, p79, s79⟩ := tri_st (b := bb) (A1 := Ab) (c1 := cb') (l1 := lb) (A2 := Db) (c2 := db) (l2 := mb) g0 h78 hb0.size
 refine run_one (i := 15) (by kernel_rfl) rfl rfl ?_
 intro K hK
 go_simp
 rw [← hY]
 refine hK.out _ _ h79 ?_
 clear hK K k0 k1 k2 y0 y1 y2 hlt hY g0
 intro _
 have g0 := (p79 _ (Ne.symm (Nat.ne_of_lt (heap_lt (FBox.on g69 b70)))) (p78 _ (Nat.ne_of_lt (heap_lt g76)) (FBox.on g76 b77)))
 obtain ⟨k0, k1, k2, y0, y1, y2, hlt⟩ := FBox.facts g0
 obtain ⟨X80, hY, h80, v80, p80, s80⟩ := tri_st (b := bc) (A1 := Ac) (c1 := cc') (l1 := lc) (A2 := Dc) (c2 := dc) (l2 := mc) g0 h79 h70.size
 refine run_one (i := 16) (by kernel_rfl) rfl rfl ?_
 intro K hK
 go_simp
 rw [← hY]
 refine hK.out _ _ h80 ?_
 clear hK K k0 k1 k2 y0 y1 y2 hlt hY g0
 intro _
 refine wpAnyH_done (by kernel_rfl) ?_ _
 refine NoPanic.normal ?_
 go_wp2_with fail
 go_meet
 exact ⟨X70.heap.size, rfl, h70.size, (s80 _ (v79 _ _ (v78 _ _ (FracR.on (FracR.on f70 b76) b77)))), h80⟩
 }
 exact AllReadyH.nil
 }
 refine AllReadyH.cons rfl (fun K hK => ?_) ?_
 {
 obtain ⟨X81, hX, b81, g81⟩ := tri_al X69
 have h81 := below_next h69 b81
 refine wp_val (v := .pointer (some ⟨X69.heap.size, 0, none⟩)) (w' := X81) (by rw [hX]; kernel_rfl) ?_
 refine hK.out _ _ h81 ?_
 clear hK K hX
 intro _
 refine wpAnyH_ready (rs := [6, 13]) (by kernel_rfl) (by simp) ?_
 refine AllReadyH.cons rfl (fun K hK => ?_) ?_
 {
 refine wp_call (HFT1.out X81 h81) (by kernel_rfl) ?_
 rintro e X82 ⟨_, _, _, rfl, ha, hb', f82, b82⟩
 have h82 := below_next h81 b82
 refine ⟨_, rfl, hK.out _ _ h82 ?_⟩
 clear hK K
 intro _
 obtain ⟨ba, Aa, ca', la, Da, da, ma, rfl⟩ := ha.shape
 obtain ⟨bb, Ab, cb', lb, Db, db, mb, rfl⟩ := hb'.shape
 obtain ⟨bc, Ac, cc', lc, Dc, dc, mc, rfl⟩ := f82.shape
 clear ha hb'
 have HS0 := h82
 refine wpAnyH_take (i := 7) (v := ?_) rfl (by kernel_rfl) (by kernel_rfl) (by kernel_rfl) (fun _ _ _ h => h) (Or.inl ⟨by rfl, ?_⟩) HS0 ?_
 rotate_left
 · intro W hW; (try dsimp only at hW); go_simp; try (with_reducible rfl)

 clear HS0
 have HS0 := h82
 refine wpAnyH_take (i := 8) (v := ?_) rfl (by kernel_rfl) (by kernel_rfl) (by kernel_rfl) (fun _ _ _ h => h) (Or.inl ⟨by rfl, ?_⟩) HS0 ?_
 rotate_left
 · intro W hW; (try dsimp only at hW); go_simp; try (with_reducible rfl)

 clear HS0
 have HS0 := h82
 refine wpAnyH_take (i := 9) (v := ?_) rfl (by kernel_rfl) (by kernel_rfl) (by kernel_rfl) (fun _ _ _ h => h) (Or.inl ⟨by rfl, ?_⟩) HS0 ?_
 rotate_left
 · intro W hW; (try dsimp only at hW); go_simp; try (with_reducible rfl)

 clear HS0
 have HS0 := h82
 refine wpAnyH_take (i := 10) (v := ?_) rfl (by kernel_rfl) (by kernel_rfl) (by kernel_rfl) (fun _ _ _ h => h) (Or.inl ⟨by rfl, ?_⟩) HS0 ?_
 rotate_left
 · intro W hW; (try dsimp only at hW); go_simp; try (with_reducible rfl)

 clear HS0
 refine run_one (i := 13) (by kernel_rfl) rfl rfl ?_
 intro K hK
 obtain ⟨X83, hX, b83, g83⟩ := tri_al X82
 have h83 := below_next h82 b83
 refine wp_val (v := .pointer (some ⟨X82.heap.size, 0, none⟩)) (w' := X83) (by rw [hX]; kernel_rfl) ?_
 refine hK.out _ _ h83 ?_
 clear hK K hX
 intro _
 have g0 := (FBox.on (FBox.on g81 b82) b83)
 obtain ⟨k0, k1, k2, y0, y1, y2, hlt⟩ := FBox.facts g0
 obtain ⟨X84, hY, h84, v84, p84, s84⟩ := tri_st (b := ba) (A1 := Aa) (c1 := ca') (l1 := la) (A2 := Da) (c2 := da) (l2 := ma) g0 h83 h69.size
 refine run_one (i := 14) (by kernel_rfl) rfl rfl ?_
 intro K hK
 go_simp
 rw [← hY]
 refine hK.out _ _ h84 ?_
 clear hK K k0 k1 k2 y0 y1 y2 hlt hY g0
 intro _
 have g0 := (p84 _ (Nat.ne_of_lt (heap_lt g69)) (FBox.on (FBox.on (FBox.on g69 b81) b82) b83))
 obtain ⟨k0, k1, k2, y0, y1, y2, hlt⟩ := FBox.facts g0
 obtain ⟨X85, hY, h85, v85, p85, s85⟩ := tri_st (b := bb) (A1 := Ab) (c1 := cb') (l1 := lb) (A2 := Db) (c2 := db) (l2 := mb) g0 h84 hb0.size
 refine run_one (i := 15) (by kernel_rfl) rfl rfl ?_
 intro K hK
 go_simp
 rw [← hY]
 refine hK.out _ _ h85 ?_
 clear hK K k0 k1 k2 y0 y1 y2 hlt hY g0
 intro _
 have g0 := (p85 _ (Ne.symm (Nat.ne_of_lt (heap_lt (FBox.on (FBox.on g69 b81) b82)))) (p84 _ (Ne.symm (Nat.ne_of_lt (heap_lt (FBox.on g81 b82)))) g83))
 obtain ⟨k0, k1, k2, y0, y1, y2, hlt⟩ := FBox.facts g0
 obtain ⟨X86, hY, h86, v86, p86, s86⟩ := tri_st (b := bc) (A1 := Ac) (c1 := cc') (l1 := lc) (A2 := Dc) (c2 := dc) (l2 := mc) g0 h85 h82.size
 refine run_one (i := 16) (by kernel_rfl) rfl rfl ?_
 intro K hK
 go_simp
 rw [← hY]
 refine hK.out _ _ h86 ?_
 clear hK K k0 k1 k2 y0 y1 y2 hlt hY g0
 intro _
 refine wpAnyH_done (by kernel_rfl) ?_ _
 refine NoPanic.normal ?_
 go_wp2_with fail
 go_meet
 exact ⟨X82.heap.size, rfl, h82.size, (s86 _ (v85 _ _ (v84 _ _ (FracR.on f82 b83)))), h86⟩
 }
 refine AllReadyH.cons rfl (fun K hK => ?_) ?_
 {
 obtain ⟨X87, hX, b87, g87⟩ := tri_al X81
 have h87 := below_next h81 b87
 refine wp_val (v := .pointer (some ⟨X81.heap.size, 0, none⟩)) (w' := X87) (by rw [hX]; kernel_rfl) ?_
 refine hK.out _ _ h87 ?_
 clear hK K hX
 intro _
 refine run_one (i := 6) (by kernel_rfl) rfl rfl ?_
 intro K hK
 refine wp_call (HFT1.out X87 h87) (by kernel_rfl) ?_
 rintro e X88 ⟨_, _, _, rfl, ha, hb', f88, b88⟩
 have h88 := below_next h87 b88
 refine ⟨_, rfl, hK.out _ _ h88 ?_⟩
 clear hK K
 intro _
 obtain ⟨ba, Aa, ca', la, Da, da, ma, rfl⟩ := ha.shape
 obtain ⟨bb, Ab, cb', lb, Db, db, mb, rfl⟩ := hb'.shape
 obtain ⟨bc, Ac, cc', lc, Dc, dc, mc, rfl⟩ := f88.shape
 clear ha hb'
 have HS0 := h88
 refine wpAnyH_take (i := 7) (v := ?_) rfl (by kernel_rfl) (by kernel_rfl) (by kernel_rfl) (fun _ _ _ h => h) (Or.inl ⟨by rfl, ?_⟩) HS0 ?_
 rotate_left
 · intro W hW; (try dsimp only at hW); go_simp; try (with_reducible rfl)

 clear HS0
 have HS0 := h88
 refine wpAnyH_take (i := 8) (v := ?_) rfl (by kernel_rfl) (by kernel_rfl) (by kernel_rfl) (fun _ _ _ h => h) (Or.inl ⟨by rfl, ?_⟩) HS0 ?_
 rotate_left
 · intro W hW; (try dsimp only at hW); go_simp; try (with_reducible rfl)

 clear HS0
 have HS0 := h88
 refine wpAnyH_take (i := 9) (v := ?_) rfl (by kernel_rfl) (by kernel_rfl) (by kernel_rfl) (fun _ _ _ h => h) (Or.inl ⟨by rfl, ?_⟩) HS0 ?_
 rotate_left
 · intro W hW; (try dsimp only at hW); go_simp; try (with_reducible rfl)

 clear HS0
 have HS0 := h88
 refine wpAnyH_take (i := 10) (v := ?_) rfl (by kernel_rfl) (by kernel_rfl) (by kernel_rfl) (fun _ _ _ h => h) (Or.inl ⟨by rfl, ?_⟩) HS0 ?_
 rotate_left
 · intro W hW; (try dsimp only at hW); go_simp; try (with_reducible rfl)

 clear HS0
 have g0 := (FBox.on (FBox.on g81 b87) b88)
 obtain ⟨k0, k1, k2, y0, y1, y2, hlt⟩ := FBox.facts g0
 obtain ⟨X89, hY, h89, v89, p89, s89⟩ := tri_st (b := ba) (A1 := Aa) (c1 := ca') (l1 := la) (A2 := Da) (c2 := da) (l2 := ma) g0 h88 h69.size
 refine run_one (i := 14) (by kernel_rfl) rfl rfl ?_
 intro K hK
 go_simp
 rw [← hY]
 refine hK.out _ _ h89 ?_
 clear hK K k0 k1 k2 y0 y1 y2 hlt hY g0
 intro _
 have g0 := (p89 _ (Nat.ne_of_lt (heap_lt g69)) (FBox.on (FBox.on (FBox.on g69 b81) b87) b88))
 obtain ⟨k0, k1, k2, y0, y1, y2, hlt⟩ := FBox.facts g0
 obtain ⟨X90, hY, h90, v90, p90, s90⟩ := tri_st (b := bb) (A1 := Ab) (c1 := cb') (l1 := lb) (A2 := Db) (c2 := db) (l2 := mb) g0 h89 hb0.size
 refine run_one (i := 15) (by kernel_rfl) rfl rfl ?_
 intro K hK
 go_simp
 rw [← hY]
 refine hK.out _ _ h90 ?_
 clear hK K k0 k1 k2 y0 y1 y2 hlt hY g0
 intro _
 have g0 := (p90 _ (Ne.symm (Nat.ne_of_lt (heap_lt (FBox.on g69 b81)))) (p89 _ (Ne.symm (Nat.ne_of_lt (heap_lt g81))) (FBox.on g87 b88)))
 obtain ⟨k0, k1, k2, y0, y1, y2, hlt⟩ := FBox.facts g0
 obtain ⟨X91, hY, h91, v91, p91, s91⟩ := tri_st (b := bc) (A1 := Ac) (c1 := cc') (l1 := lc) (A2 := Dc) (c2 := dc) (l2 := mc) g0 h90 h81.size
 refine run_one (i := 16) (by kernel_rfl) rfl rfl ?_
 intro K hK
 go_simp
 rw [← hY]
 refine hK.out _ _ h91 ?_
 clear hK K k0 k1 k2 y0 y1 y2 hlt hY g0
 intro _
 refine wpAnyH_done (by kernel_rfl) ?_ _
 refine NoPanic.normal ?_
 go_wp2_with fail
 go_meet
 exact ⟨X81.heap.size, rfl, h81.size, (s91 _ (v90 _ _ (v89 _ _ f88))), h91⟩
 }
 exact AllReadyH.nil
 }
 refine AllReadyH.cons rfl (fun K hK => ?_) ?_
 {
 obtain ⟨X92, hX, b92, g92⟩ := tri_al X69
 have h92 := below_next h69 b92
 refine wp_val (v := .pointer (some ⟨X69.heap.size, 0, none⟩)) (w' := X92) (by rw [hX]; kernel_rfl) ?_
 refine hK.out _ _ h92 ?_
 clear hK K hX
 intro _
 refine wpAnyH_ready (rs := [6, 11]) (by kernel_rfl) (by simp) ?_
 refine AllReadyH.cons rfl (fun K hK => ?_) ?_
 {
 refine wp_call (HFT1.out X92 h92) (by kernel_rfl) ?_
 rintro e X93 ⟨_, _, _, rfl, ha, hb', f93, b93⟩
 have h93 := below_next h92 b93
 refine ⟨_, rfl, hK.out _ _ h93 ?_⟩
 clear hK K
 intro _
 obtain ⟨ba, Aa, ca', la, Da, da, ma, rfl⟩ := ha.shape
 obtain ⟨bb, Ab, cb', lb, Db, db, mb, rfl⟩ := hb'.shape
 obtain ⟨bc, Ac, cc', lc, Dc, dc, mc, rfl⟩ := f93.shape
 clear ha hb'
 have HS0 := h93
 refine wpAnyH_take (i := 7) (v := ?_) rfl (by kernel_rfl) (by kernel_rfl) (by kernel_rfl) (fun _ _ _ h => h) (Or.inl ⟨by rfl, ?_⟩) HS0 ?_
 rotate_left
 · intro W hW; (try dsimp only at hW); go_simp; try (with_reducible rfl)

 clear HS0
 have HS0 := h93
 refine wpAnyH_take (i := 8) (v := ?_) rfl (by kernel_rfl) (by kernel_rfl) (by kernel_rfl) (fun _ _ _ h => h) (Or.inl ⟨by rfl, ?_⟩) HS0 ?_
 rotate_left
 · intro W hW; (try dsimp only at hW); go_simp; try (with_reducible rfl)

 clear HS0
 have HS0 := h93
 refine wpAnyH_take (i := 9) (v := ?_) rfl (by kernel_rfl) (by kernel_rfl) (by kernel_rfl) (fun _ _ _ h => h) (Or.inl ⟨by rfl, ?_⟩) HS0 ?_
 rotate_left
 · intro W hW; (try dsimp only at hW); go_simp; try (with_reducible rfl)

 clear HS0
 have HS0 := h93
 refine wpAnyH_take (i := 10) (v := ?_) rfl (by kernel_rfl) (by kernel_rfl) (by kernel_rfl) (fun _ _ _ h => h) (Or.inl ⟨by rfl, ?_⟩) HS0 ?_
 rotate_left
 · intro W hW; (try dsimp only at hW); go_simp; try (with_reducible rfl)

 clear HS0
 refine run_one (i := 11) (by kernel_rfl) rfl rfl ?_
 intro K hK
 obtain ⟨X94, hX, b94, g94⟩ := tri_al X93
 have h94 := below_next h93 b94
 refine wp_val (v := .pointer (some ⟨X93.heap.size, 0, none⟩)) (w' := X94) (by rw [hX]; kernel_rfl) ?_
 refine hK.out _ _ h94 ?_
 clear hK K hX
 intro _
 have g0 := g94
 obtain ⟨k0, k1, k2, y0, y1, y2, hlt⟩ := FBox.facts g0
 obtain ⟨X95, hY, h95, v95, p95, s95⟩ := tri_st (b := ba) (A1 := Aa) (c1 := ca') (l1 := la) (A2 := Da) (c2 := da) (l2 := ma) g0 h94 h93.size
 refine run_one (i := 14) (by kernel_rfl) rfl rfl ?_
 intro K hK
 go_simp
 rw [← hY]
 refine hK.out _ _ h95 ?_
 clear hK K k0 k1 k2 y0 y1 y2 hlt hY g0
 intro _
 have g0 := (p95 _ (Nat.ne_of_lt (heap_lt (FBox.on (FBox.on g69 b92) b93))) (FBox.on (FBox.on (FBox.on g69 b92) b93) b94))
 obtain ⟨k0, k1, k2, y0, y1, y2, hlt⟩ := FBox.facts g0
 obtain ⟨X96, hY, h96, v96, p96, s96⟩ := tri_st (b := bb) (A1 := Ab) (c1 := cb') (l1 := lb) (A2 := Db) (c2 := db) (l2 := mb) g0 h95 hb0.size
 refine run_one (i := 15) (by kernel_rfl) rfl rfl ?_
 intro K hK
 go_simp
 rw [← hY]
 refine hK.out _ _ h96 ?_
 clear hK K k0 k1 k2 y0 y1 y2 hlt hY g0
 intro _
 have g0 := (p96 _ (Ne.symm (Nat.ne_of_lt (heap_lt g69))) (p95 _ (Nat.ne_of_lt (heap_lt (FBox.on g92 b93))) (FBox.on (FBox.on g92 b93) b94)))
 obtain ⟨k0, k1, k2, y0, y1, y2, hlt⟩ := FBox.facts g0
 obtain ⟨X97, hY, h97, v97, p97, s97⟩ := tri_st (b := bc) (A1 := Ac) (c1 := cc') (l1 := lc) (A2 := Dc) (c2 := dc) (l2 := mc) g0 h96 h69.size
 refine run_one (i := 16) (by kernel_rfl) rfl rfl ?_
 intro K hK
 go_simp
 rw [← hY]
 refine hK.out _ _ h97 ?_
 clear hK K k0 k1 k2 y0 y1 y2 hlt hY g0
 intro _
 refine wpAnyH_done (by kernel_rfl) ?_ _
 refine NoPanic.normal ?_
 go_wp2_with fail
 go_meet
 exact ⟨X69.heap.size, rfl, h69.size, (s97 _ (v96 _ _ (v95 _ _ (FracR.on f93 b94)))), h97⟩
 }
 refine AllReadyH.cons rfl (fun K hK => ?_) ?_
 {
 obtain ⟨X98, hX, b98, g98⟩ := tri_al X92
 have h98 := below_next h92 b98
 refine wp_val (v := .pointer (some ⟨X92.heap.size, 0, none⟩)) (w' := X98) (by rw [hX]; kernel_rfl) ?_
 refine hK.out _ _ h98 ?_
 clear hK K hX
 intro _
 refine run_one (i := 6) (by kernel_rfl) rfl rfl ?_
 intro K hK
 refine wp_call (HFT1.out X98 h98) (by kernel_rfl) ?_
 rintro e X99 ⟨_, _, _, rfl, ha, hb', f99, b99⟩
 have h99 := below_next h98 b99
 refine ⟨_, rfl, hK.out _ _ h99 ?_⟩
 clear hK K
 intro _
 obtain ⟨ba, Aa, ca', la, Da, da, ma, rfl⟩ := ha.shape
 obtain ⟨bb, Ab, cb', lb, Db, db, mb, rfl⟩ := hb'.shape
 obtain ⟨bc, Ac, cc', lc, Dc, dc, mc, rfl⟩ := f99.shape
 clear ha hb'
 have HS0 := h99
 refine wpAnyH_take (i := 7) (v := ?_) rfl (by kernel_rfl) (by kernel_rfl) (by kernel_rfl) (fun _ _ _ h => h) (Or.inl ⟨by rfl, ?_⟩) HS0 ?_
 rotate_left
 · intro W hW; (try dsimp only at hW); go_simp; try (with_reducible rfl)

 clear HS0
 have HS0 := h99
 refine wpAnyH_take (i := 8) (v := ?_) rfl (by kernel_rfl) (by kernel_rfl) (by kernel_rfl) (fun _ _ _ h => h) (Or.inl ⟨by rfl, ?_⟩) HS0 ?_
 rotate_left
 · intro W hW; (try dsimp only at hW); go_simp; try (with_reducible rfl)

 clear HS0
 have HS0 := h99
 refine wpAnyH_take (i := 9) (v := ?_) rfl (by kernel_rfl) (by kernel_rfl) (by kernel_rfl) (fun _ _ _ h => h) (Or.inl ⟨by rfl, ?_⟩) HS0 ?_
 rotate_left
 · intro W hW; (try dsimp only at hW); go_simp; try (with_reducible rfl)

 clear HS0
 have HS0 := h99
 refine wpAnyH_take (i := 10) (v := ?_) rfl (by kernel_rfl) (by kernel_rfl) (by kernel_rfl) (fun _ _ _ h => h) (Or.inl ⟨by rfl, ?_⟩) HS0 ?_
 rotate_left
 · intro W hW; (try dsimp only at hW); go_simp; try (with_reducible rfl)

 clear HS0
 have g0 := (FBox.on g98 b99)
 obtain ⟨k0, k1, k2, y0, y1, y2, hlt⟩ := FBox.facts g0
 obtain ⟨X100, hY, h100, v100, p100, s100⟩ := tri_st (b := ba) (A1 := Aa) (c1 := ca') (l1 := la) (A2 := Da) (c2 := da) (l2 := ma) g0 h99 h92.size
 refine run_one (i := 14) (by kernel_rfl) rfl rfl ?_
 intro K hK
 go_simp
 rw [← hY]
 refine hK.out _ _ h100 ?_
 clear hK K k0 k1 k2 y0 y1 y2 hlt hY g0
 intro _
 have g0 := (p100 _ (Nat.ne_of_lt (heap_lt (FBox.on g69 b92))) (FBox.on (FBox.on (FBox.on g69 b92) b98) b99))
 obtain ⟨k0, k1, k2, y0, y1, y2, hlt⟩ := FBox.facts g0
 obtain ⟨X101, hY, h101, v101, p101, s101⟩ := tri_st (b := bb) (A1 := Ab) (c1 := cb') (l1 := lb) (A2 := Db) (c2 := db) (l2 := mb) g0 h100 hb0.size
 refine run_one (i := 15) (by kernel_rfl) rfl rfl ?_
 intro K hK
 go_simp
 rw [← hY]
 refine hK.out _ _ h101 ?_
 clear hK K k0 k1 k2 y0 y1 y2 hlt hY g0
 intro _
 have g0 := (p101 _ (Ne.symm (Nat.ne_of_lt (heap_lt g69))) (p100 _ (Nat.ne_of_lt (heap_lt g92)) (FBox.on (FBox.on g92 b98) b99)))
 obtain ⟨k0, k1, k2, y0, y1, y2, hlt⟩ := FBox.facts g0
 obtain ⟨X102, hY, h102, v102, p102, s102⟩ := tri_st (b := bc) (A1 := Ac) (c1 := cc') (l1 := lc) (A2 := Dc) (c2 := dc) (l2 := mc) g0 h101 h69.size
 refine run_one (i := 16) (by kernel_rfl) rfl rfl ?_
 intro K hK
 go_simp
 rw [← hY]
 refine hK.out _ _ h102 ?_
 clear hK K k0 k1 k2 y0 y1 y2 hlt hY g0
 intro _
 refine wpAnyH_done (by kernel_rfl) ?_ _
 refine NoPanic.normal ?_
 go_wp2_with fail
 go_meet
 exact ⟨X69.heap.size, rfl, h69.size, (s102 _ (v101 _ _ (v100 _ _ f99))), h102⟩
 }
 exact AllReadyH.nil
 }
 exact AllReadyH.nil
 }
 refine AllReadyH.cons rfl (fun K hK => ?_) ?_
 {
 obtain ⟨X103, hX, b103, g103⟩ := tri_al X0
 have h103 := below_next hb0 b103
 refine wp_val (v := .pointer (some ⟨X0.heap.size, 0, none⟩)) (w' := X103) (by rw [hX]; kernel_rfl) ?_
 refine hK.out _ _ h103 ?_
 clear hK K hX
 intro _
 refine wpAnyH_ready (rs := [6, 11, 12]) (by kernel_rfl) (by simp) ?_
 refine AllReadyH.cons rfl (fun K hK => ?_) ?_
 {
 refine wp_call (HFT1.out X103 h103) (by kernel_rfl) ?_
 rintro e X104 ⟨_, _, _, rfl, ha, hb', f104, b104⟩
 have h104 := below_next h103 b104
 refine ⟨_, rfl, hK.out _ _ h104 ?_⟩
 clear hK K
 intro _
 obtain ⟨ba, Aa, ca', la, Da, da, ma, rfl⟩ := ha.shape
 obtain ⟨bb, Ab, cb', lb, Db, db, mb, rfl⟩ := hb'.shape
 obtain ⟨bc, Ac, cc', lc, Dc, dc, mc, rfl⟩ := f104.shape
 clear ha hb'
 have HS0 := h104
 refine wpAnyH_take (i := 7) (v := ?_) rfl (by kernel_rfl) (by kernel_rfl) (by kernel_rfl) (fun _ _ _ h => h) (Or.inl ⟨by rfl, ?_⟩) HS0 ?_
 rotate_left
 · intro W hW; (try dsimp only at hW); go_simp; try (with_reducible rfl)

 clear HS0
 have HS0 := h104
 refine wpAnyH_take (i := 8) (v := ?_) rfl (by kernel_rfl) (by kernel_rfl) (by kernel_rfl) (fun _ _ _ h => h) (Or.inl ⟨by rfl, ?_⟩) HS0 ?_
 rotate_left
 · intro W hW; (try dsimp only at hW); go_simp; try (with_reducible rfl)

 clear HS0
 have HS0 := h104
 refine wpAnyH_take (i := 9) (v := ?_) rfl (by kernel_rfl) (by kernel_rfl) (by kernel_rfl) (fun _ _ _ h => h) (Or.inl ⟨by rfl, ?_⟩) HS0 ?_
 rotate_left
 · intro W hW; (try dsimp only at hW); go_simp; try (with_reducible rfl)

 clear HS0
 have HS0 := h104
 refine wpAnyH_take (i := 10) (v := ?_) rfl (by kernel_rfl) (by kernel_rfl) (by kernel_rfl) (fun _ _ _ h => h) (Or.inl ⟨by rfl, ?_⟩) HS0 ?_
 rotate_left
 · intro W hW; (try dsimp only at hW); go_simp; try (with_reducible rfl)

 clear HS0
 refine wpAnyH_ready (rs := [11, 12]) (by kernel_rfl) (by simp) ?_
 refine AllReadyH.cons rfl (fun K hK => ?_) ?_
 {
 obtain ⟨X105, hX, b105, g105⟩ := tri_al X104
 have h105 := below_next h104 b105
 refine wp_val (v := .pointer (some ⟨X104.heap.size, 0, none⟩)) (w' := X105) (by rw [hX]; kernel_rfl) ?_
 refine hK.out _ _ h105 ?_
 clear hK K hX
 intro _
 refine run_one (i := 12) (by kernel_rfl) rfl rfl ?_
 intro K hK
 obtain ⟨X106, hX, b106, g106⟩ := tri_al X105
 have h106 := below_next h105 b106
 refine wp_val (v := .pointer (some ⟨X105.heap.size, 0, none⟩)) (w' := X106) (by rw [hX]; kernel_rfl) ?_
 refine hK.out _ _ h106 ?_
 clear hK K hX
 intro _
 have g0 := (FBox.on g105 b106)
 obtain ⟨k0, k1, k2, y0, y1, y2, hlt⟩ := FBox.facts g0
 obtain ⟨X107, hY, h107, v107, p107, s107⟩ := tri_st (b := ba) (A1 := Aa) (c1 := ca') (l1 := la) (A2 := Da) (c2 := da) (l2 := ma) g0 h106 h104.size
 refine run_one (i := 14) (by kernel_rfl) rfl rfl ?_
 intro K hK
 go_simp
 rw [← hY]
 refine hK.out _ _ h107 ?_
 clear hK K k0 k1 k2 y0 y1 y2 hlt hY g0
 intro _
 have g0 := (p107 _ (Ne.symm (Nat.ne_of_lt (heap_lt g105))) g106)
 obtain ⟨k0, k1, k2, y0, y1, y2, hlt⟩ := FBox.facts g0
 obtain ⟨X108, hY, h108, v108, p108, s108⟩ := tri_st (b := bb) (A1 := Ab) (c1 := cb') (l1 := lb) (A2 := Db) (c2 := db) (l2 := mb) g0 h107 h105.size
 refine run_one (i := 15) (by kernel_rfl) rfl rfl ?_
 intro K hK
 go_simp
 rw [← hY]
 refine hK.out _ _ h108 ?_
 clear hK K k0 k1 k2 y0 y1 y2 hlt hY g0
 intro _
 have g0 := (p108 _ (Nat.ne_of_lt (heap_lt (FBox.on (FBox.on g103 b104) b105))) (p107 _ (Nat.ne_of_lt (heap_lt (FBox.on g103 b104))) (FBox.on (FBox.on (FBox.on g103 b104) b105) b106)))
 obtain ⟨k0, k1, k2, y0, y1, y2, hlt⟩ := FBox.facts g0
 obtain ⟨X109, hY, h109, v109, p109, s109⟩ := tri_st (b := bc) (A1 := Ac) (c1 := cc') (l1 := lc) (A2 := Dc) (c2 := dc) (l2 := mc) g0 h108 hb0.size
 refine run_one (i := 16) (by kernel_rfl) rfl rfl ?_
 intro K hK
 go_simp
 rw [← hY]
 refine hK.out _ _ h109 ?_
 clear hK K k0 k1 k2 y0 y1 y2 hlt hY g0
 intro _
 refine wpAnyH_done (by kernel_rfl) ?_ _
 refine NoPanic.normal ?_
 go_wp2_with fail
 go_meet
 exact ⟨X0.heap.size, rfl, hb0.size, (s109 _ (v108 _ _ (v107 _ _ (FracR.on (FracR.on f104 b105) b106)))), h109⟩
 }
 refine AllReadyH.cons rfl (fun K hK => ?_) ?_
 {
 obtain ⟨X110, hX, b110, g110⟩ := tri_al X104
 have h110 := below_next h104 b110
 refine wp_val (v := .pointer (some ⟨X104.heap.size, 0, none⟩)) (w' := X110) (by rw [hX]; kernel_rfl) ?_
 refine hK.out _ _ h110 ?_
 clear hK K hX
 intro _
 refine run_one (i := 11) (by kernel_rfl) rfl rfl ?_
 intro K hK
 obtain ⟨X111, hX, b111, g111⟩ := tri_al X110
 have h111 := below_next h110 b111
 refine wp_val (v := .pointer (some ⟨X110.heap.size, 0, none⟩)) (w' := X111) (by rw [hX]; kernel_rfl) ?_
 refine hK.out _ _ h111 ?_
 clear hK K hX
 intro _
 have g0 := g111
 obtain ⟨k0, k1, k2, y0, y1, y2, hlt⟩ := FBox.facts g0
 obtain ⟨X112, hY, h112, v112, p112, s112⟩ := tri_st (b := ba) (A1 := Aa) (c1 := ca') (l1 := la) (A2 := Da) (c2 := da) (l2 := ma) g0 h111 h110.size
 refine run_one (i := 14) (by kernel_rfl) rfl rfl ?_
 intro K hK
 go_simp
 rw [← hY]
 refine hK.out _ _ h112 ?_
 clear hK K k0 k1 k2 y0 y1 y2 hlt hY g0
 intro _
 have g0 := (p112 _ (Nat.ne_of_lt (heap_lt g110)) (FBox.on g110 b111))
 obtain ⟨k0, k1, k2, y0, y1, y2, hlt⟩ := FBox.facts g0
 obtain ⟨X113, hY, h113, v113, p113, s113⟩ := tri_st (b := bb) (A1 := Ab) (c1 := cb') (l1 := lb) (A2 := Db) (c2 := db) (l2 := mb) g0 h112 h104.size
 refine run_one (i := 15) (by kernel_rfl) rfl rfl ?_
 intro K hK
 go_simp
 rw [← hY]
 refine hK.out _ _ h113 ?_
 clear hK K k0 k1 k2 y0 y1 y2 hlt hY g0
 intro _
 have g0 := (p113 _ (Nat.ne_of_lt (heap_lt (FBox.on g103 b104))) (p112 _ (Nat.ne_of_lt (heap_lt (FBox.on (FBox.on g103 b104) b110))) (FBox.on (FBox.on (FBox.on g103 b104) b110) b111)))
 obtain ⟨k0, k1, k2, y0, y1, y2, hlt⟩ := FBox.facts g0
 obtain ⟨X114, hY, h114, v114, p114, s114⟩ := tri_st (b := bc) (A1 := Ac) (c1 := cc') (l1 := lc) (A2 := Dc) (c2 := dc) (l2 := mc) g0 h113 hb0.size
 refine run_one (i := 16) (by kernel_rfl) rfl rfl ?_
 intro K hK
 go_simp
 rw [← hY]
 refine hK.out _ _ h114 ?_
 clear hK K k0 k1 k2 y0 y1 y2 hlt hY g0
 intro _
 refine wpAnyH_done (by kernel_rfl) ?_ _
 refine NoPanic.normal ?_
 go_wp2_with fail
 go_meet
 exact ⟨X0.heap.size, rfl, hb0.size, (s114 _ (v113 _ _ (v112 _ _ (FracR.on (FracR.on f104 b110) b111)))), h114⟩
 }
 exact AllReadyH.nil
 }
 refine AllReadyH.cons rfl (fun K hK => ?_) ?_
 {
 obtain ⟨X115, hX, b115, g115⟩ := tri_al X103
 have h115 := below_next h103 b115
 refine wp_val (v := .pointer (some ⟨X103.heap.size, 0, none⟩)) (w' := X115) (by rw [hX]; kernel_rfl) ?_
 refine hK.out _ _ h115 ?_
 clear hK K hX
 intro _
 refine wpAnyH_ready (rs := [6, 12]) (by kernel_rfl) (by simp) ?_
 refine AllReadyH.cons rfl (fun K hK => ?_) ?_
 {
 refine wp_call (HFT1.out X115 h115) (by kernel_rfl) ?_
 rintro e X116 ⟨_, _, _, rfl, ha, hb', f116, b116⟩
 have h116 := below_next h115 b116
 refine ⟨_, rfl, hK.out _ _ h116 ?_⟩
 clear hK K
 intro _
 obtain ⟨ba, Aa, ca', la, Da, da, ma, rfl⟩ := ha.shape
 obtain ⟨bb, Ab, cb', lb, Db, db, mb, rfl⟩ := hb'.shape
 obtain ⟨bc, Ac, cc', lc, Dc, dc, mc, rfl⟩ := f116.shape
 clear ha hb'
 have HS0 := h116
 refine wpAnyH_take (i := 7) (v := ?_) rfl (by kernel_rfl) (by kernel_rfl) (by kernel_rfl) (fun _ _ _ h => h) (Or.inl ⟨by rfl, ?_⟩) HS0 ?_
 rotate_left
 · intro W hW; (try dsimp only at hW); go_simp; try (with_reducible rfl)

 clear HS0
 have HS0 := h116
 refine wpAnyH_take (i := 8) (v := ?_) rfl (by kernel_rfl) (by kernel_rfl) (by kernel_rfl) (fun _ _ _ h => h) (Or.inl ⟨by rfl, ?_⟩) HS0 ?_
 rotate_left
 · intro W hW; (try dsimp only at hW); go_simp; try (with_reducible rfl)

 clear HS0
 have HS0 := h116
 refine wpAnyH_take (i := 9) (v := ?_) rfl (by kernel_rfl) (by kernel_rfl) (by kernel_rfl) (fun _ _ _ h => h) (Or.inl ⟨by rfl, ?_⟩) HS0 ?_
 rotate_left
 · intro W hW; (try dsimp only at hW); go_simp; try (with_reducible rfl)

 clear HS0
 have HS0 := h116
 refine wpAnyH_take (i := 10) (v := ?_) rfl (by kernel_rfl) (by kernel_rfl) (by kernel_rfl) (fun _ _ _ h => h) (Or.inl ⟨by rfl, ?_⟩) HS0 ?_
 rotate_left
 · intro W hW; (try dsimp only at hW); go_simp; try (with_reducible rfl)

 clear HS0
 refine run_one (i := 12) (by kernel_rfl) rfl rfl ?_
 intro K hK
 obtain ⟨X117, hX, b117, g117⟩ := tri_al X116
 have h117 := below_next h116 b117
 refine wp_val (v := .pointer (some ⟨X116.heap.size, 0, none⟩)) (w' := X117) (by rw [hX]; kernel_rfl) ?_
 refine hK.out _ _ h117 ?_
 clear hK K hX
 intro _
 have g0 := (FBox.on (FBox.on g115 b116) b117)
 obtain ⟨k0, k1, k2, y0, y1, y2, hlt⟩ := FBox.facts g0
 obtain ⟨X118, hY, h118, v118, p118, s118⟩ := tri_st (b := ba) (A1 := Aa) (c1 := ca') (l1 := la) (A2 := Da) (c2 := da) (l2 := ma) g0 h117 h103.size
 refine run_one (i := 14) (by kernel_rfl) rfl rfl ?_
 intro K hK
 go_simp
 rw [← hY]
 refine hK.out _ _ h118 ?_
 clear hK K k0 k1 k2 y0 y1 y2 hlt hY g0
 intro _
 have g0 := (p118 _ (Ne.symm (Nat.ne_of_lt (heap_lt (FBox.on g115 b116)))) g117)
 obtain ⟨k0, k1, k2, y0, y1, y2, hlt⟩ := FBox.facts g0
 obtain ⟨X119, hY, h119, v119, p119, s119⟩ := tri_st (b := bb) (A1 := Ab) (c1 := cb') (l1 := lb) (A2 := Db) (c2 := db) (l2 := mb) g0 h118 h116.size
 refine run_one (i := 15) (by kernel_rfl) rfl rfl ?_
 intro K hK
 go_simp
 rw [← hY]
 refine hK.out _ _ h119 ?_
 clear hK K k0 k1 k2 y0 y1 y2 hlt hY g0
 intro _
 have g0 := (p119 _ (Nat.ne_of_lt (heap_lt (FBox.on (FBox.on g103 b115) b116))) (p118 _ (Nat.ne_of_lt (heap_lt g103)) (FBox.on (FBox.on (FBox.on g103 b115) b116) b117)))
 obtain ⟨k0, k1, k2, y0, y1, y2, hlt⟩ := FBox.facts g0
 obtain ⟨X120, hY, h120, v120, p120, s120⟩ := tri_st (b := bc) (A1 := Ac) (c1 := cc') (l1 := lc) (A2 := Dc) (c2 := dc) (l2 := mc) g0 h119 hb0.size
 refine run_one (i := 16) (by kernel_rfl) rfl rfl ?_
 intro K hK
 go_simp
 rw [← hY]
 refine hK.out _ _ h120 ?_
 clear hK K k0 k1 k2 y0 y1 y2 hlt hY g0
 intro _
 refine wpAnyH_done (by kernel_rfl) ?_ _
 refine NoPanic.normal ?_
 go_wp2_with fail
 go_meet
 exact ⟨X0.heap.size, rfl, hb0.size, (s120 _ (v119 _ _ (v118 _ _ (FracR.on f116 b117)))), h120⟩
 }
 refine AllReadyH.cons rfl (fun K hK => ?_) ?_
 {
 obtain ⟨X121, hX, b121, g121⟩ := tri_al X115
 have h121 := below_next h115 b121
 refine wp_val (v := .pointer (some ⟨X115.heap.size, 0, none⟩)) (w' := X121) (by rw [hX]; kernel_rfl) ?_
 refine hK.out _ _ h121 ?_
 clear hK K hX
 intro _
 refine run_one (i := 6) (by kernel_rfl) rfl rfl ?_
 intro K hK
 refine wp_call (HFT1.out X121 h121) (by kernel_rfl) ?_
 rintro e X122 ⟨_, _, _, rfl, ha, hb', f122, b122⟩
 have h122 := below_next h121 b122
 refine ⟨_, rfl, hK.out _ _ h122 ?_⟩
 clear hK K
 intro _
 obtain ⟨ba, Aa, ca', la, Da, da, ma, rfl⟩ := ha.shape
 obtain ⟨bb, Ab, cb', lb, Db, db, mb, rfl⟩ := hb'.shape
 obtain ⟨bc, Ac, cc', lc, Dc, dc, mc, rfl⟩ := f122.shape
 clear ha hb'
 have HS0 := h122
 refine wpAnyH_take (i := 7) (v := ?_) rfl (by kernel_rfl) (by kernel_rfl) (by kernel_rfl) (fun _ _ _ h => h) (Or.inl ⟨by rfl, ?_⟩) HS0 ?_
 rotate_left
 · intro W hW; (try dsimp only at hW); go_simp; try (with_reducible rfl)

 clear HS0
 have HS0 := h122
 refine wpAnyH_take (i := 8) (v := ?_) rfl (by kernel_rfl) (by kernel_rfl) (by kernel_rfl) (fun _ _ _ h => h) (Or.inl ⟨by rfl, ?_⟩) HS0 ?_
 rotate_left
 · intro W hW; (try dsimp only at hW); go_simp; try (with_reducible rfl)

 clear HS0
 have HS0 := h122
 refine wpAnyH_take (i := 9) (v := ?_) rfl (by kernel_rfl) (by kernel_rfl) (by kernel_rfl) (fun _ _ _ h => h) (Or.inl ⟨by rfl, ?_⟩) HS0 ?_
 rotate_left
 · intro W hW; (try dsimp only at hW); go_simp; try (with_reducible rfl)

 clear HS0
 have HS0 := h122
 refine wpAnyH_take (i := 10) (v := ?_) rfl (by kernel_rfl) (by kernel_rfl) (by kernel_rfl) (fun _ _ _ h => h) (Or.inl ⟨by rfl, ?_⟩) HS0 ?_
 rotate_left
 · intro W hW; (try dsimp only at hW); go_simp; try (with_reducible rfl)

 clear HS0
 have g0 := (FBox.on (FBox.on g115 b121) b122)
 obtain ⟨k0, k1, k2, y0, y1, y2, hlt⟩ := FBox.facts g0
 obtain ⟨X123, hY, h123, v123, p123, s123⟩ := tri_st (b := ba) (A1 := Aa) (c1 := ca') (l1 := la) (A2 := Da) (c2 := da) (l2 := ma) g0 h122 h103.size
 refine run_one (i := 14) (by kernel_rfl) rfl rfl ?_
 intro K hK
 go_simp
 rw [← hY]
 refine hK.out _ _ h123 ?_
 clear hK K k0 k1 k2 y0 y1 y2 hlt hY g0
 intro _
 have g0 := (p123 _ (Ne.symm (Nat.ne_of_lt (heap_lt g115))) (FBox.on g121 b122))
 obtain ⟨k0, k1, k2, y0, y1, y2, hlt⟩ := FBox.facts g0
 obtain ⟨X124, hY, h124, v124, p124, s124⟩ := tri_st (b := bb) (A1 := Ab) (c1 := cb') (l1 := lb) (A2 := Db) (c2 := db) (l2 := mb) g0 h123 h115.size
 refine run_one (i := 15) (by kernel_rfl) rfl rfl ?_
 intro K hK
 go_simp
 rw [← hY]
 refine hK.out _ _ h124 ?_
 clear hK K k0 k1 k2 y0 y1 y2 hlt hY g0
 intro _
 have g0 := (p124 _ (Nat.ne_of_lt (heap_lt (FBox.on g103 b115))) (p123 _ (Nat.ne_of_lt (heap_lt g103)) (FBox.on (FBox.on (FBox.on g103 b115) b121) b122)))
 obtain ⟨k0, k1, k2, y0, y1, y2, hlt⟩ := FBox.facts g0
 obtain ⟨X125, hY, h125, v125, p125, s125⟩ := tri_st (b := bc) (A1 := Ac) (c1 := cc') (l1 := lc) (A2 := Dc) (c2 := dc) (l2 := mc) g0 h124 hb0.size
 refine run_one (i := 16) (by kernel_rfl) rfl rfl ?_
 intro K hK
 go_simp
 rw [← hY]
 refine hK.out _ _ h125 ?_
 clear hK K k0 k1 k2 y0 y1 y2 hlt hY g0
 intro _
 refine wpAnyH_done (by kernel_rfl) ?_ _
 refine NoPanic.normal ?_
 go_wp2_with fail
 go_meet
 exact ⟨X0.heap.size, rfl, hb0.size, (s125 _ (v124 _ _ (v123 _ _ f122))), h125⟩
 }
 exact AllReadyH.nil
 }
 refine AllReadyH.cons rfl (fun K hK => ?_) ?_
 {
 obtain ⟨X126, hX, b126, g126⟩ := tri_al X103
 have h126 := below_next h103 b126
 refine wp_val (v := .pointer (some ⟨X103.heap.size, 0, none⟩)) (w' := X126) (by rw [hX]; kernel_rfl) ?_
 refine hK.out _ _ h126 ?_
 clear hK K hX
 intro _
 refine wpAnyH_ready (rs := [6, 11]) (by kernel_rfl) (by simp) ?_
 refine AllReadyH.cons rfl (fun K hK => ?_) ?_
 {
 refine wp_call (HFT1.out X126 h126) (by kernel_rfl) ?_
 rintro e X127 ⟨_, _, _, rfl, ha, hb', f127, b127⟩
 have h127 := below_next h126 b127
 refine ⟨_, rfl, hK.out _ _ h127 ?_⟩
 clear hK K
 intro _
 obtain ⟨ba, Aa, ca', la, Da, da, ma, rfl⟩ := ha.shape
 obtain ⟨bb, Ab, cb', lb, Db, db, mb, rfl⟩ := hb'.shape
 obtain ⟨bc, Ac, cc', lc, Dc, dc, mc, rfl⟩ := f127.shape
 clear ha hb'
 have HS0 := h127
 refine wpAnyH_take (i := 7) (v := ?_) rfl (by kernel_rfl) (by kernel_rfl) (by kernel_rfl) (fun _ _ _ h => h) (Or.inl ⟨by rfl, ?_⟩) HS0 ?_
 rotate_left
 · intro W hW; (try dsimp only at hW); go_simp; try (with_reducible rfl)

 clear HS0
 have HS0 := h127
 refine wpAnyH_take (i := 8) (v := ?_) rfl (by kernel_rfl) (by kernel_rfl) (by kernel_rfl) (fun _ _ _ h => h) (Or.inl ⟨by rfl, ?_⟩) HS0 ?_
 rotate_left
 · intro W hW; (try dsimp only at hW); go_simp; try (with_reducible rfl)

 clear HS0
 have HS0 := h127
 refine wpAnyH_take (i := 9) (v := ?_) rfl (by kernel_rfl) (by kernel_rfl) (by kernel_rfl) (fun _ _ _ h => h) (Or.inl ⟨by rfl, ?_⟩) HS0 ?_
 rotate_left
 · intro W hW; (try dsimp only at hW); go_simp; try (with_reducible rfl)

 clear HS0
 have HS0 := h127
 refine wpAnyH_take (i := 10) (v := ?_) rfl (by kernel_rfl) (by kernel_rfl) (by kernel_rfl) (fun _ _ _ h => h) (Or.inl ⟨by rfl, ?_⟩) HS0 ?_
 rotate_left
 · intro W hW; (try dsimp only at hW); go_simp; try (with_reducible rfl)

 clear HS0
 refine run_one (i := 11) (by kernel_rfl) rfl rfl ?_
 intro K hK
 obtain ⟨X128, hX, b128, g128⟩ := tri_al X127
 have h128 := below_next h127 b128
 refine wp_val (v := .pointer (some ⟨X127.heap.size, 0, none⟩)) (w' := X128) (by rw [hX]; kernel_rfl) ?_
 refine hK.out _ _ h128 ?_
 clear hK K hX
 intro _
 have g0 := g128
 obtain ⟨k0, k1, k2, y0, y1, y2, hlt⟩ := FBox.facts g0
 obtain ⟨X129, hY, h129, v129, p129, s129⟩ := tri_st (b := ba) (A1 := Aa) (c1 := ca') (l1 := la) (A2 := Da) (c2 := da) (l2 := ma) g0 h128 h127.size
 refine run_one (i := 14) (by kernel_rfl) rfl rfl ?_
 intro K hK
 go_simp
 rw [← hY]
 refine hK.out _ _ h129 ?_
 clear hK K k0 k1 k2 y0 y1 y2 hlt hY g0
 intro _
 have g0 := (p129 _ (Nat.ne_of_lt (heap_lt (FBox.on g126 b127))) (FBox.on (FBox.on g126 b127) b128))
 obtain ⟨k0, k1, k2, y0, y1, y2, hlt⟩ := FBox.facts g0
 obtain ⟨X130, hY, h130, v130, p130, s130⟩ := tri_st (b := bb) (A1 := Ab) (c1 := cb') (l1 := lb) (A2 := Db) (c2 := db) (l2 := mb) g0 h129 h103.size
 refine run_one (i := 15) (by kernel_rfl) rfl rfl ?_
 intro K hK
 go_simp
 rw [← hY]
 refine hK.out _ _ h130 ?_
 clear hK K k0 k1 k2 y0 y1 y2 hlt hY g0
 intro _
 have g0 := (p130 _ (Nat.ne_of_lt (heap_lt g103)) (p129 _ (Nat.ne_of_lt (heap_lt (FBox.on (FBox.on g103 b126) b127))) (FBox.on (FBox.on (FBox.on g103 b126) b127) b128)))
 obtain ⟨k0, k1, k2, y0, y1, y2, hlt⟩ := FBox.facts g0
 obtain ⟨X131, hY, h131, v131, p131, s131⟩ := tri_st (b := bc) (A1 := Ac) (c1 := cc') (l1 := lc) (A2 := Dc) (c2 := dc) (l2 := mc) g0 h130 hb0.size
 refine run_one (i := 16) (by kernel_rfl) rfl rfl ?_
 intro K hK
 go_simp
 rw [← hY]
 refine hK.out _ _ h131 ?_
 clear hK K k0 k1 k2 y0 y1 y2 hlt hY g0
 intro _
 refine wpAnyH_done (by kernel_rfl) ?_ _
 refine NoPanic.normal ?_
 go_wp2_with fail
 go_meet
 exact ⟨X0.heap.size, rfl, hb0.size, (s131 _ (v130 _ _ (v129 _ _ (FracR.on f127 b128)))), h131⟩
 }
 refine AllReadyH.cons rfl (fun K hK => ?_) ?_
 {
 obtain ⟨X132, hX, b132, g132⟩ := tri_al X126
 have h132 := below_next h126 b132
 refine wp_val (v := .pointer (some ⟨X126.heap.size, 0, none⟩)) (w' := X132) (by rw [hX]; kernel_rfl) ?_
 refine hK.out _ _ h132 ?_
 clear hK K hX
 intro _
 refine run_one (i := 6) (by kernel_rfl) rfl rfl ?_
 intro K hK
 refine wp_call (HFT1.out X132 h132) (by kernel_rfl) ?_
 rintro e X133 ⟨_, _, _, rfl, ha, hb', f133, b133⟩
 have h133 := below_next h132 b133
 refine ⟨_, rfl, hK.out _ _ h133 ?_⟩
 clear hK K
 intro _
 obtain ⟨ba, Aa, ca', la, Da, da, ma, rfl⟩ := ha.shape
 obtain ⟨bb, Ab, cb', lb, Db, db, mb, rfl⟩ := hb'.shape
 obtain ⟨bc, Ac, cc', lc, Dc, dc, mc, rfl⟩ := f133.shape
 clear ha hb'
 have HS0 := h133
 refine wpAnyH_take (i := 7) (v := ?_) rfl (by kernel_rfl) (by kernel_rfl) (by kernel_rfl) (fun _ _ _ h => h) (Or.inl ⟨by rfl, ?_⟩) HS0 ?_
 rotate_left
 · intro W hW; (try dsimp only at hW); go_simp; try (with_reducible rfl)

 clear HS0
 have HS0 := h133
 refine wpAnyH_take (i := 8) (v := ?_) rfl (by kernel_rfl) (by kernel_rfl) (by kernel_rfl) (fun _ _ _ h => h) (Or.inl ⟨by rfl, ?_⟩) HS0 ?_
 rotate_left
 · intro W hW; (try dsimp only at hW); go_simp; try (with_reducible rfl)

 clear HS0
 have HS0 := h133
 refine wpAnyH_take (i := 9) (v := ?_) rfl (by kernel_rfl) (by kernel_rfl) (by kernel_rfl) (fun _ _ _ h => h) (Or.inl ⟨by rfl, ?_⟩) HS0 ?_
 rotate_left
 · intro W hW; (try dsimp only at hW); go_simp; try (with_reducible rfl)

 clear HS0
 have HS0 := h133
 refine wpAnyH_take (i := 10) (v := ?_) rfl (by kernel_rfl) (by kernel_rfl) (by kernel_rfl) (fun _ _ _ h => h) (Or.inl ⟨by rfl, ?_⟩) HS0 ?_
 rotate_left
 · intro W hW; (try dsimp only at hW); go_simp; try (with_reducible rfl)

 clear HS0
 have g0 := (FBox.on g132 b133)
 obtain ⟨k0, k1, k2, y0, y1, y2, hlt⟩ := FBox.facts g0
 obtain ⟨X134, hY, h134, v134, p134, s134⟩ := tri_st (b := ba) (A1 := Aa) (c1 := ca') (l1 := la) (A2 := Da) (c2 := da) (l2 := ma) g0 h133 h126.size
 refine run_one (i := 14) (by kernel_rfl) rfl rfl ?_
 intro K hK
 go_simp
 rw [← hY]
 refine hK.out _ _ h134 ?_
 clear hK K k0 k1 k2 y0 y1 y2 hlt hY g0
 intro _
 have g0 := (p134 _ (Nat.ne_of_lt (heap_lt g126)) (FBox.on (FBox.on g126 b132) b133))
 obtain ⟨k0, k1, k2, y0, y1, y2, hlt⟩ := FBox.facts g0
 obtain ⟨X135, hY, h135, v135, p135, s135⟩ := tri_st (b := bb) (A1 := Ab) (c1 := cb') (l1 := lb) (A2 := Db) (c2 := db) (l2 := mb) g0 h134 h103.size
 refine run_one (i := 15) (by kernel_rfl) rfl rfl ?_
 intro K hK
 go_simp
 rw [← hY]
 refine hK.out _ _ h135 ?_
 clear hK K k0 k1 k2 y0 y1 y2 hlt hY g0
 intro _
 have g0 := (p135 _ (Nat.ne_of_lt (heap_lt g103)) (p134 _ (Nat.ne_of_lt (heap_lt (FBox.on g103 b126))) (FBox.on (FBox.on (FBox.on g103 b126) b132) b133)))
 obtain ⟨k0, k1, k2, y0, y1, y2, hlt⟩ := FBox.facts g0
 obtain ⟨X136, hY, h136, v136, p136, s136⟩ := tri_st (b := bc) (A1 := Ac) (c1 := cc') (l1 := lc) (A2 := Dc) (c2 := dc) (l2 := mc) g0 h135 hb0.size
 refine run_one (i := 16) (by kernel_rfl) rfl rfl ?_
 intro K hK
 go_simp
 rw [← hY]
 refine hK.out _ _ h136 ?_
 clear hK K k0 k1 k2 y0 y1 y2 hlt hY g0
 intro _
 refine wpAnyH_done (by kernel_rfl) ?_ _
 refine NoPanic.normal ?_
 go_wp2_with fail
 go_meet
 exact ⟨X0.heap.size, rfl, hb0.size, (s136 _ (v135 _ _ (v134 _ _ f133))), h136⟩
 }
 exact AllReadyH.nil
 }
 exact AllReadyH.nil
 }
 exact AllReadyH.nil
                }
              case rest =>
                obtain ⟨Ba, rfl, hla, hva, hba⟩ := hcut
                obtain ⟨Wq, hWq⟩ : ∃ W, W = wc := ⟨_, rfl⟩
                subst hWq
                have HVA := Lib.hid hva
                have HBQ := Lib.hid hba
                have HFT2q := Lib.hid (fun W (hW : Below Wq.heap.size Wq W) => HFT2.out (ca - k) (cb - k) W (below_next (below_next HBW.out HBQ.out) hW))
                clear hla hva hba
                go_wp2_with fail
                go_cut [16] (fun x wx => ∃ Bb, x = .pointer (some ⟨Bb, 0, none⟩) ∧ Wq.heap.size ≤ Bb ∧ VarQ wx Bb (linF (l.drop k)) ∧ Below Wq.heap.size Wq wx)
                case first =>
                  skip
                  {
 refine wp_region_noPanic ?_
 refine wp_region_held_drew (S := fun X => Below Wq.heap.size Wq X) (by kernel_rfl) (Below.refl _ Wq).drew (fun HS0 => ?_)
 obtain ⟨X0, hX0⟩ : ∃ X, X = Wq.drew := ⟨_, rfl⟩
 have hb0 : Below Wq.heap.size Wq X0 := by rw [hX0]; exact (Below.refl _ _).drew
 rw [← hX0] at HS0 ⊢
 clear hX0
 refine wpAnyH_take (i := 0) (v := ?_) rfl (by kernel_rfl) (by kernel_rfl) (by kernel_rfl) (fun _ _ _ h => h) (Or.inl ⟨by rfl, ?_⟩) HS0 ?_
 rotate_left
 · intro W hW; (try dsimp only at hW); go_simp; try (with_reducible rfl)

 refine wpAnyH_take (i := 1) (v := ?_) rfl (by kernel_rfl) (by kernel_rfl) (by kernel_rfl) (fun _ _ _ h => h) (Or.inl ⟨by rfl, ?_⟩) HS0 ?_
 rotate_left
 · intro W hW; (try dsimp only at hW); go_simp; try (with_reducible rfl)

 refine wpAnyH_take (i := 2) (v := ?_) rfl (by kernel_rfl) (by kernel_rfl) (by kernel_rfl) (fun _ _ _ h => h) (Or.inl ⟨by rfl, ?_⟩) HS0 ?_
 rotate_left
 · intro W hW; (try dsimp only at hW); go_simp; try (with_reducible rfl)

 refine wpAnyH_take (i := 3) (v := ?_) rfl (by kernel_rfl) (by kernel_rfl) (by kernel_rfl) (fun _ _ _ h => h) (Or.inl ⟨by rfl, ?_⟩) HS0 ?_
 rotate_left
 · intro W hW; (try dsimp only at hW); go_simp; try (with_reducible rfl)

 refine wpAnyH_take (i := 4) (v := ?_) rfl (by kernel_rfl) (by kernel_rfl) (by kernel_rfl) (fun _ _ _ h => h) (Or.inl ⟨by rfl, ?_⟩) HS0 ?_
 rotate_left
 · intro W hW; (try dsimp only at hW); go_simp; try (with_reducible rfl)

 refine wpAnyH_take (i := 5) (v := ?_) rfl (by kernel_rfl) (by kernel_rfl) (by kernel_rfl) (fun _ _ _ h => h) (Or.inl ⟨by rfl, ?_⟩) HS0 ?_
 rotate_left
 · intro W hW; (try dsimp only at hW); go_simp; try (with_reducible rfl)

 clear HS0
 refine wpAnyH_ready (rs := [6, 11, 12, 13]) (by kernel_rfl) (by simp) ?_
 refine AllReadyH.cons rfl (fun K hK => ?_) ?_
 {
 refine wp_call (HFT2q.out X0 hb0) (by kernel_rfl) ?_
 rintro e X1 ⟨_, _, _, rfl, ha, hb', f1, b1⟩
 have h1 := below_next hb0 b1
 refine ⟨_, rfl, hK.out _ _ h1 ?_⟩
 clear hK K
 intro _
 obtain ⟨ba, Aa, ca', la, Da, da, ma, rfl⟩ := ha.shape
 obtain ⟨bb, Ab, cb', lb, Db, db, mb, rfl⟩ := hb'.shape
 obtain ⟨bc, Ac, cc', lc, Dc, dc, mc, rfl⟩ := f1.shape
 clear ha hb'
 have HS0 := h1
 refine wpAnyH_take (i := 7) (v := ?_) rfl (by kernel_rfl) (by kernel_rfl) (by kernel_rfl) (fun _ _ _ h => h) (Or.inl ⟨by rfl, ?_⟩) HS0 ?_
 rotate_left
 · intro W hW; (try dsimp only at hW); go_simp; try (with_reducible rfl)

 clear HS0
 have HS0 := h1
 refine wpAnyH_take (i := 8) (v := ?_) rfl (by kernel_rfl) (by kernel_rfl) (by kernel_rfl) (fun _ _ _ h => h) (Or.inl ⟨by rfl, ?_⟩) HS0 ?_
 rotate_left
 · intro W hW; (try dsimp only at hW); go_simp; try (with_reducible rfl)

 clear HS0
 have HS0 := h1
 refine wpAnyH_take (i := 9) (v := ?_) rfl (by kernel_rfl) (by kernel_rfl) (by kernel_rfl) (fun _ _ _ h => h) (Or.inl ⟨by rfl, ?_⟩) HS0 ?_
 rotate_left
 · intro W hW; (try dsimp only at hW); go_simp; try (with_reducible rfl)

 clear HS0
 have HS0 := h1
 refine wpAnyH_take (i := 10) (v := ?_) rfl (by kernel_rfl) (by kernel_rfl) (by kernel_rfl) (fun _ _ _ h => h) (Or.inl ⟨by rfl, ?_⟩) HS0 ?_
 rotate_left
 · intro W hW; (try dsimp only at hW); go_simp; try (with_reducible rfl)

 clear HS0
 refine wpAnyH_ready (rs := [11, 12, 13]) (by kernel_rfl) (by simp) ?_
 refine AllReadyH.cons rfl (fun K hK => ?_) ?_
 {
 obtain ⟨X2, hX, b2, g2⟩ := tri_al X1
 have h2 := below_next h1 b2
 refine wp_val (v := .pointer (some ⟨X1.heap.size, 0, none⟩)) (w' := X2) (by rw [hX]; kernel_rfl) ?_
 refine hK.out _ _ h2 ?_
 clear hK K hX
 intro _
 refine wpAnyH_ready (rs := [12, 13]) (by kernel_rfl) (by simp) ?_
 refine AllReadyH.cons rfl (fun K hK => ?_) ?_
 {
 obtain ⟨X3, hX, b3, g3⟩ := tri_al X2
 have h3 := below_next h2 b3
 refine wp_val (v := .pointer (some ⟨X2.heap.size, 0, none⟩)) (w' := X3) (by rw [hX]; kernel_rfl) ?_
 refine hK.out _ _ h3 ?_
 clear hK K hX
 intro _
 refine run_one (i := 13) (by kernel_rfl) rfl rfl ?_
 intro K hK
 obtain ⟨X4, hX, b4, g4⟩ := tri_al X3
 have h4 := below_next h3 b4
 refine wp_val (v := .pointer (some ⟨X3.heap.size, 0, none⟩)) (w' := X4) (by rw [hX]; kernel_rfl) ?_
 refine hK.out _ _ h4 ?_
 clear hK K hX
 intro _
 have g0 := (FBox.on (FBox.on g2 b3) b4)
 obtain ⟨k0, k1, k2, y0, y1, y2, hlt⟩ := FBox.facts g0
 obtain ⟨X5, hY, h5, v5, p5, s5⟩ := tri_st (b := ba) (A1 := Aa) (c1 := ca') (l1 := la) (A2 := Da) (c2 := da) (l2 := ma) g0 h4 h1.size
 refine run_one (i := 14) (by kernel_rfl) rfl rfl ?_
 intro K hK
 go_simp
 rw [← hY]
 refine hK.out _ _ h5 ?_
 clear hK K k0 k1 k2 y0 y1 y2 hlt hY g0
 intro _
 have g0 := (p5 _ (Ne.symm (Nat.ne_of_lt (heap_lt g2))) (FBox.on g3 b4))
 obtain ⟨k0, k1, k2, y0, y1, y2, hlt⟩ := FBox.facts g0
 obtain ⟨X6, hY, h6, v6, p6, s6⟩ := tri_st (b := bb) (A1 := Ab) (c1 := cb') (l1 := lb) (A2 := Db) (c2 := db) (l2 := mb) g0 h5 h2.size
 refine run_one (i := 15) (by kernel_rfl) rfl rfl ?_
 intro K hK
 go_simp
 rw [← hY]
 refine hK.out _ _ h6 ?_
 clear hK K k0 k1 k2 y0 y1 y2 hlt hY g0
 intro _
 have g0 := (p6 _ (Ne.symm (Nat.ne_of_lt (heap_lt g3))) (p5 _ (Ne.symm (Nat.ne_of_lt (heap_lt (FBox.on g2 b3)))) g4))
 obtain ⟨k0, k1, k2, y0, y1, y2, hlt⟩ := FBox.facts g0
 obtain ⟨X7, hY, h7, v7, p7, s7⟩ := tri_st (b := bc) (A1 := Ac) (c1 := cc') (l1 := lc) (A2 := Dc) (c2 := dc) (l2 := mc) g0 h6 h3.size
 refine run_one (i := 16) (by kernel_rfl) rfl rfl ?_
 intro K hK
 go_simp
 rw [← hY]
 refine hK.out _ _ h7 ?_
 clear hK K k0 k1 k2 y0 y1 y2 hlt hY g0
 intro _
 refine wpAnyH_done (by kernel_rfl) ?_ _
 refine NoPanic.normal ?_
 go_wp2_with fail
 go_meet
 exact ⟨X3.heap.size, rfl, h3.size, (s7 _ (v6 _ _ (v5 _ _ (FracR.on (FracR.on (FracR.on f1 b2) b3) b4)))), h7⟩
 }
 refine AllReadyH.cons rfl (fun K hK => ?_) ?_
 {
 obtain ⟨X8, hX, b8, g8⟩ := tri_al X2
 have h8 := below_next h2 b8
 refine wp_val (v := .pointer (some ⟨X2.heap.size, 0, none⟩)) (w' := X8) (by rw [hX]; kernel_rfl) ?_
 refine hK.out _ _ h8 ?_
 clear hK K hX
 intro _
 refine run_one (i := 12) (by kernel_rfl) rfl rfl ?_
 intro K hK
 obtain ⟨X9, hX, b9, g9⟩ := tri_al X8
 have h9 := below_next h8 b9
 refine wp_val (v := .pointer (some ⟨X8.heap.size, 0, none⟩)) (w' := X9) (by rw [hX]; kernel_rfl) ?_
 refine hK.out _ _ h9 ?_
 clear hK K hX
 intro _
 have g0 := (FBox.on (FBox.on g2 b8) b9)
 obtain ⟨k0, k1, k2, y0, y1, y2, hlt⟩ := FBox.facts g0
 obtain ⟨X10, hY, h10, v10, p10, s10⟩ := tri_st (b := ba) (A1 := Aa) (c1 := ca') (l1 := la) (A2 := Da) (c2 := da) (l2 := ma) g0 h9 h1.size
 refine run_one (i := 14) (by kernel_rfl) rfl rfl ?_
 intro K hK
 go_simp
 rw [← hY]
 refine hK.out _ _ h10 ?_
 clear hK K k0 k1 k2 y0 y1 y2 hlt hY g0
 intro _
 have g0 := (p10 _ (Ne.symm (Nat.ne_of_lt (heap_lt (FBox.on g2 b8)))) g9)
 obtain ⟨k0, k1, k2, y0, y1, y2, hlt⟩ := FBox.facts g0
 obtain ⟨X11, hY, h11, v11, p11, s11⟩ := tri_st (b := bb) (A1 := Ab) (c1 := cb') (l1 := lb) (A2 := Db) (c2 := db) (l2 := mb) g0 h10 h8.size
 refine run_one (i := 15) (by kernel_rfl) rfl rfl ?_
 intro K hK
 go_simp
 rw [← hY]
 refine hK.out _ _ h11 ?_
 clear hK K k0 k1 k2 y0 y1 y2 hlt hY g0
 intro _
 have g0 := (p11 _ (Nat.ne_of_lt (heap_lt g8)) (p10 _ (Ne.symm (Nat.ne_of_lt (heap_lt g2))) (FBox.on g8 b9)))
 obtain ⟨k0, k1, k2, y0, y1, y2, hlt⟩ := FBox.facts g0
 obtain ⟨X12, hY, h12, v12, p12, s12⟩ := tri_st (b := bc) (A1 := Ac) (c1 := cc') (l1 := lc) (A2 := Dc) (c2 := dc) (l2 := mc) g0 h11 h2.size
 refine run_one (i := 16) (by kernel_rfl) rfl rfl ?_
 intro K hK
 go_simp
 rw [← hY]
 refine hK.out _ _ h12 ?_
 clear hK K k0 k1 k2 y0 y1 y2 hlt hY g0
 intro _
 refine wpAnyH_done (by kernel_rfl) ?_ _
 refine NoPanic.normal ?_
 go_wp2_with fail
 go_meet
 exact ⟨X2.heap.size, rfl, h2.size, (s12 _ (v11 _ _ (v10 _ _ (FracR.on (FracR.on (FracR.on f1 b2) b8) b9)))), h12⟩
 }
 exact AllReadyH.nil
 }
 refine AllReadyH.cons rfl (fun K hK => ?_) ?_
 {
 obtain ⟨X13, hX, b13, g13⟩ := tri_al X1
 have h13 := below_next h1 b13
 refine wp_val (v := .pointer (some ⟨X1.heap.size, 0, none⟩)) (w' := X13) (by rw [hX]; kernel_rfl) ?_
 refine hK.out _ _ h13 ?_
 clear hK K hX
 intro _
 refine wpAnyH_ready (rs := [11, 13]) (by kernel_rfl) (by simp) ?_
 refine AllReadyH.cons rfl (fun K hK => ?_) ?_
 {
 obtain ⟨X14, hX, b14, g14⟩ := tri_al X13
 have h14 := below_next h13 b14
 refine wp_val (v := .pointer (some ⟨X13.heap.size, 0, none⟩)) (w' := X14) (by rw [hX]; kernel_rfl) ?_
 refine hK.out _ _ h14 ?_
 clear hK K hX
 intro _
 refine run_one (i := 13) (by kernel_rfl) rfl rfl ?_
 intro K hK
 obtain ⟨X15, hX, b15, g15⟩ := tri_al X14
 have h15 := below_next h14 b15
 refine wp_val (v := .pointer (some ⟨X14.heap.size, 0, none⟩)) (w' := X15) (by rw [hX]; kernel_rfl) ?_
 refine hK.out _ _ h15 ?_
 clear hK K hX
 intro _
 have g0 := (FBox.on g14 b15)
 obtain ⟨k0, k1, k2, y0, y1, y2, hlt⟩ := FBox.facts g0
 obtain ⟨X16, hY, h16, v16, p16, s16⟩ := tri_st (b := ba) (A1 := Aa) (c1 := ca') (l1 := la) (A2 := Da) (c2 := da) (l2 := ma) g0 h15 h13.size
 refine run_one (i := 14) (by kernel_rfl) rfl rfl ?_
 intro K hK
 go_simp
 rw [← hY]
 refine hK.out _ _ h16 ?_
 clear hK K k0 k1 k2 y0 y1 y2 hlt hY g0
 intro _
 have g0 := (p16 _ (Nat.ne_of_lt (heap_lt g13)) (FBox.on (FBox.on g13 b14) b15))
 obtain ⟨k0, k1, k2, y0, y1, y2, hlt⟩ := FBox.facts g0
 obtain ⟨X17, hY, h17, v17, p17, s17⟩ := tri_st (b := bb) (A1 := Ab) (c1 := cb') (l1 := lb) (A2 := Db) (c2 := db) (l2 := mb) g0 h16 h1.size
 refine run_one (i := 15) (by kernel_rfl) rfl rfl ?_
 intro K hK
 go_simp
 rw [← hY]
 refine hK.out _ _ h17 ?_
 clear hK K k0 k1 k2 y0 y1 y2 hlt hY g0
 intro _
 have g0 := (p17 _ (Ne.symm (Nat.ne_of_lt (heap_lt (FBox.on g13 b14)))) (p16 _ (Ne.symm (Nat.ne_of_lt (heap_lt g14))) g15))
 obtain ⟨k0, k1, k2, y0, y1, y2, hlt⟩ := FBox.facts g0
 obtain ⟨X18, hY, h18, v18, p18, s18⟩ := tri_st (b := bc) (A1 := Ac) (c1 := cc') (l1 := lc) (A2 := Dc) (c2 := dc) (l2 := mc) g0 h17 h14.size
 refine run_one (i := 16) (by kernel_rfl) rfl rfl ?_
 intro K hK
 go_simp
 rw [← hY]
 refine hK.out _ _ h18 ?_
 clear hK K k0 k1 k2 y0 y1 y2 hlt hY g0
 intro _
 refine wpAnyH_done (by kernel_rfl) ?_ _
 refine NoPanic.normal ?_
 go_wp2_with fail
 go_meet
 exact ⟨X14.heap.size, rfl, h14.size, (s18 _ (v17 _ _ (v16 _ _ (FracR.on (FracR.on (FracR.on f1 b13) b14) b15)))), h18⟩
 }
 refine AllReadyH.cons rfl (fun K hK => ?_) ?_
 {
 obtain ⟨X19, hX, b19, g19⟩ := tri_al X13
 have h19 := below_next h13 b19
 refine wp_val (v := .pointer (some ⟨X13.heap.size, 0, none⟩)) (w' := X19) (by rw [hX]; kernel_rfl) ?_
 refine hK.out _ _ h19 ?_
 clear hK K hX
 intro _
 refine run_one (i := 11) (by kernel_rfl) rfl rfl ?_
 intro K hK
 obtain ⟨X20, hX, b20, g20⟩ := tri_al X19
 have h20 := below_next h19 b20
 refine wp_val (v := .pointer (some ⟨X19.heap.size, 0, none⟩)) (w' := X20) (by rw [hX]; kernel_rfl) ?_
 refine hK.out _ _ h20 ?_
 clear hK K hX
 intro _
 have g0 := g20
 obtain ⟨k0, k1, k2, y0, y1, y2, hlt⟩ := FBox.facts g0
 obtain ⟨X21, hY, h21, v21, p21, s21⟩ := tri_st (b := ba) (A1 := Aa) (c1 := ca') (l1 := la) (A2 := Da) (c2 := da) (l2 := ma) g0 h20 h19.size
 refine run_one (i := 14) (by kernel_rfl) rfl rfl ?_
 intro K hK
 go_simp
 rw [← hY]
 refine hK.out _ _ h21 ?_
 clear hK K k0 k1 k2 y0 y1 y2 hlt hY g0
 intro _
 have g0 := (p21 _ (Nat.ne_of_lt (heap_lt (FBox.on g13 b19))) (FBox.on (FBox.on g13 b19) b20))
 obtain ⟨k0, k1, k2, y0, y1, y2, hlt⟩ := FBox.facts g0
 obtain ⟨X22, hY, h22, v22, p22, s22⟩ := tri_st (b := bb) (A1 := Ab) (c1 := cb') (l1 := lb) (A2 := Db) (c2 := db) (l2 := mb) g0 h21 h1.size
 refine run_one (i := 15) (by kernel_rfl) rfl rfl ?_
 intro K hK
 go_simp
 rw [← hY]
 refine hK.out _ _ h22 ?_
 clear hK K k0 k1 k2 y0 y1 y2 hlt hY g0
 intro _
 have g0 := (p22 _ (Ne.symm (Nat.ne_of_lt (heap_lt g13))) (p21 _ (Nat.ne_of_lt (heap_lt g19)) (FBox.on g19 b20)))
 obtain ⟨k0, k1, k2, y0, y1, y2, hlt⟩ := FBox.facts g0
 obtain ⟨X23, hY, h23, v23, p23, s23⟩ := tri_st (b := bc) (A1 := Ac) (c1 := cc') (l1 := lc) (A2 := Dc) (c2 := dc) (l2 := mc) g0 h22 h13.size
 refine run_one (i := 16) (by kernel_rfl) rfl rfl ?_
 intro K hK
 go_simp
 rw [← hY]
 refine hK.out _ _ h23 ?_
 clear hK K k0 k1 k2 y0 y1 y2 hlt hY g0
 intro _
 refine wpAnyH_done (by kernel_rfl) ?_ _
 refine NoPanic.normal ?_
 go_wp2_with fail
 go_meet
 exact ⟨X13.heap.size, rfl, h13.size, (s23 _ (v22 _ _ (v21 _ _ (FracR.on (FracR.on (FracR.on f1 b13) b19) b20)))), h23⟩
 }
 exact AllReadyH.nil
 }
 refine AllReadyH.cons rfl (fun K hK => ?_) ?_
 {
 obtain ⟨X24, hX, b24, g24⟩ := tri_al X1
 have h24 := below_next h1 b24
 refine wp_val (v := .pointer (some ⟨X1.heap.size, 0, none⟩)) (w' := X24) (by rw [hX]; kernel_rfl) ?_
 refine hK.out _ _ h24 ?_
 clear hK K hX
 intro _
 refine wpAnyH_ready (rs := [11, 12]) (by kernel_rfl) (by simp) ?_
 refine AllReadyH.cons rfl (fun K hK => ?_) ?_
 {
 obtain ⟨X25, hX, b25, g25⟩ := tri_al X24
 have h25 := below_next h24 b25
 refine wp_val (v := .pointer (some ⟨X24.heap.size, 0, none⟩)) (w' := X25) (by rw [hX]; kernel_rfl) ?_
 refine hK.out _ _ h25 ?_
 clear hK K hX
 intro _
 refine run_one (i := 12) (by kernel_rfl) rfl rfl ?_
 intro K hK
 obtain ⟨X26, hX, b26, g26⟩ := tri_al X25
 have h26 := below_next h25 b26
 refine wp_val (v := .pointer (some ⟨X25.heap.size, 0, none⟩)) (w' := X26) (by rw [hX]; kernel_rfl) ?_
 refine hK.out _ _ h26 ?_
 clear hK K hX
 intro _
 have g0 := (FBox.on g25 b26)
 obtain ⟨k0, k1, k2, y0, y1, y2, hlt⟩ := FBox.facts g0
 obtain ⟨X27, hY, h27, v27, p27, s27⟩ := tri_st (b := ba) (A1 := Aa) (c1 := ca') (l1 := la) (A2 := Da) (c2 := da) (l2 := ma) g0 h26 h24.size
 refine run_one (i := 14) (by kernel_rfl) rfl rfl ?_
 intro K hK
 go_simp
 rw [← hY]
 refine hK.out _ _ h27 ?_
 clear hK K k0 k1 k2 y0 y1 y2 hlt hY g0
 intro _
 have g0 := (p27 _ (Ne.symm (Nat.ne_of_lt (heap_lt g25))) g26)
 obtain ⟨k0, k1, k2, y0, y1, y2, hlt⟩ := FBox.facts g0
 obtain ⟨X28, hY, h28, v28, p28, s28⟩ := tri_st (b := bb) (A1 := Ab) (c1 := cb') (l1 := lb) (A2 := Db) (c2 := db) (l2 := mb) g0 h27 h25.size
 refine run_one (i := 15) (by kernel_rfl) rfl rfl ?_
 intro K hK
 go_simp
 rw [← hY]
 refine hK.out _ _ h28 ?_
 clear hK K k0 k1 k2 y0 y1 y2 hlt hY g0
 intro _
 have g0 := (p28 _ (Nat.ne_of_lt (heap_lt (FBox.on g24 b25))) (p27 _ (Nat.ne_of_lt (heap_lt g24)) (FBox.on (FBox.on g24 b25) b26)))
 obtain ⟨k0, k1, k2, y0, y1, y2, hlt⟩ := FBox.facts g0
 obtain ⟨X29, hY, h29, v29, p29, s29⟩ := tri_st (b := bc) (A1 := Ac) (c1 := cc') (l1 := lc) (A2 := Dc) (c2 := dc) (l2 := mc) g0 h28 h1.size
 refine run_one (i := 16) (by kernel_rfl) rfl rfl ?_
 intro K hK
 go_simp
 rw [← hY]
 refine hK.out _ _ h29 ?_
 clear hK K k0 k1 k2 y0 y1 y2 hlt hY g0
 intro _
 refine wpAnyH_done (by kernel_rfl) ?_ _
 refine NoPanic.normal ?_
 go_wp2_with fail
 go_meet
 exact ⟨X1.heap.size, rfl, h1.size, (s29 _ (v28 _ _ (v27 _ _ (FracR.on (FracR.on (FracR.on f1 b24) b25) b26)))), h29⟩
 }
 refine AllReadyH.cons rfl (fun K hK => ?_) ?_
 {
 obtain ⟨X30, hX, b30, g30⟩ := tri_al X24
 have h30 := below_next h24 b30
 refine wp_val (v := .pointer (some ⟨X24.heap.size, 0, none⟩)) (w' := X30) (by rw [hX]; kernel_rfl) ?_
 refine hK.out _ _ h30 ?_
 clear hK K hX
 intro _
 refine run_one (i := 11) (by kernel_rfl) rfl rfl ?_
 intro K hK
 obtain ⟨X31, hX, b31, g31⟩ := tri_al X30
 have h31 := below_next h30 b31
 refine wp_val (v := .pointer (some ⟨X30.heap.size, 0, none⟩)) (w' := X31) (by rw [hX]; kernel_rfl) ?_
 refine hK.out _ _ h31 ?_
 clear hK K hX
 intro _
 have g0 := g31
 obtain ⟨k0, k1, k2, y0, y1, y2, hlt⟩ := FBox.facts g0
 obtain ⟨X32, hY, h32, v32, p32, s32⟩ := tri_st (b := ba) (A1 := Aa) (c1 := ca') (l1 := la) (A2 := Da) (c2 := da) (l2 := ma) g0 h31 h30.size
 refine run_one (i := 14) (by kernel_rfl) rfl rfl ?_
 intro K hK
 go_simp
 rw [← hY]
 refine hK.out _ _ h32 ?_
 clear hK K k0 k1 k2 y0 y1 y2 hlt hY g0
 intro _
 have g0 := (p32 _ (Nat.ne_of_lt (heap_lt g30)) (FBox.on g30 b31))
 obtain ⟨k0, k1, k2, y0, y1, y2, hlt⟩ := FBox.facts g0
 obtain ⟨X33, hY, h33, v33, p33, s33⟩ := tri_st (b := bb) (A1 := Ab) (c1 := cb') (l1 := lb) (A2 := Db) (c2 := db) (l2 := mb) g0 h32 h24.size
 refine run_one (i := 15) (by kernel_rfl) rfl rfl ?_
 intro K hK
 go_simp
 rw [← hY]
 refine hK.out _ _ h33 ?_
 clear hK K k0 k1 k2 y0 y1 y2 hlt hY g0
 intro _
 have g0 := (p33 _ (Nat.ne_of_lt (heap_lt g24)) (p32 _ (Nat.ne_of_lt (heap_lt (FBox.on g24 b30))) (FBox.on (FBox.on g24 b30) b31)))
 obtain ⟨k0, k1, k2, y0, y1, y2, hlt⟩ := FBox.facts g0
 obtain ⟨X34, hY, h34, v34, p34, s34⟩ := tri_st (b := bc) (A1 := Ac) (c1 := cc') (l1 := lc) (A2 := Dc) (c2 := dc) (l2 := mc) g0 h33 h1.size
 refine run_one (i := 16) (by kernel_rfl) rfl rfl ?_
 intro K hK
 go_simp
 rw [← hY]
 refine hK.out _ _ h34 ?_
 clear hK K k0 k1 k2 y0 y1 y2 hlt hY g0
 intro _
 refine wpAnyH_done (by kernel_rfl) ?_ _
 refine NoPanic.normal ?_
 go_wp2_with fail
 go_meet
 exact ⟨X1.heap.size, rfl, h1.size, (s34 _ (v33 _ _ (v32 _ _ (FracR.on (FracR.on (FracR.on f1 b24) b30) b31)))), h34⟩
 }
 exact AllReadyH.nil
 }
 exact AllReadyH.nil
 }
 refine AllReadyH.cons rfl (fun K hK => ?_) ?_
 {
 obtain ⟨X35, hX, b35, g35⟩ := tri_al X0
 have h35 := below_next hb0 b35
 refine wp_val (v := .pointer (some ⟨X0.heap.size, 0, none⟩)) (w' := X35) (by rw [hX]; kernel_rfl) ?_
 refine hK.out _ _ h35 ?_
 clear hK K hX
 intro _
 refine wpAnyH_ready (rs := [6, 12, 13]) (by kernel_rfl) (by simp) ?_
 refine AllReadyH.cons rfl (fun K hK => ?_) ?_
 {
 refine wp_call (HFT2q.out X35 h35) (by kernel_rfl) ?_
 rintro e X36 ⟨_, _, _, rfl, ha, hb', f36, b36⟩
 have h36 := below_next h35 b36
 refine ⟨_, rfl, hK.out _ _ h36 ?_⟩
 clear hK K
 intro _
 obtain ⟨ba, Aa, ca', la, Da, da, ma, rfl⟩ := ha.shape
 obtain ⟨bb, Ab, cb', lb, Db, db, mb, rfl⟩ := hb'.shape
 obtain ⟨bc, Ac, cc', lc, Dc, dc, mc, rfl⟩ := f36.shape
 clear ha hb'
 have HS0 := h36
 refine wpAnyH_take (i := 7) (v := ?_) rfl (by kernel_rfl) (by kernel_rfl) (by kernel_rfl) (fun _ _ _ h => h) (Or.inl ⟨by rfl, ?_⟩) HS0 ?_
 rotate_left
 · intro W hW; (try dsimp only at hW); go_simp; try (with_reducible rfl)

 clear HS0
 have HS0 := h36
 refine wpAnyH_take (i := 8) (v := ?_) rfl (by kernel_rfl) (by kernel_rfl) (by kernel_rfl) (fun _ _ _ h => h) (Or.inl ⟨by rfl, ?_⟩) HS0 ?_
 rotate_left
 · intro W hW; (try dsimp only at hW); go_simp; try (with_reducible rfl)

 clear HS0
 have HS0 := h36
 refine wpAnyH_take (i := 9) (v := ?_) rfl (by kernel_rfl) (by kernel_rfl) (by kernel_rfl) (fun _ _ _ h => h) (Or.inl ⟨by rfl, ?_⟩) HS0 ?_
 rotate_left
 · intro W hW; (try dsimp only at hW); go_simp; try (with_reducible rfl)

 clear HS0
 have HS0 := h36
 refine wpAnyH_take (i := 10) (v := ?_) rfl (by kernel_rfl) (by kernel_rfl) (by kernel_rfl) (fun _ _ _ h => h) (Or.inl ⟨by rfl, ?_⟩) HS0 ?_
 rotate_left
 · intro W hW; (try dsimp only at hW); go_simp; try (with_reducible rfl)

 clear HS0
 refine wpAnyH_ready (rs := [12, 13]) (by kernel_rfl) (by simp) ?_
 refine AllReadyH.cons rfl (fun K hK => ?_) ?_
 {
 obtain ⟨X37, hX, b37, g37⟩ := tri_al X36
 have h37 := below_next h36 b37
 refine wp_val (v := .pointer (some ⟨X36.heap.size, 0, none⟩)) (w' := X37) (by rw [hX]; kernel_rfl) ?_
 refine hK.out _ _ h37 ?_
 clear hK K hX
 intro _
 refine run_one (i := 13) (by kernel_rfl) rfl rfl ?_
 intro K hK
 obtain ⟨X38, hX, b38, g38⟩ := tri_al X37
 have h38 := below_next h37 b38
 refine wp_val (v := .pointer (some ⟨X37.heap.size, 0, none⟩)) (w' := X38) (by rw [hX]; kernel_rfl) ?_
 refine hK.out _ _ h38 ?_
 clear hK K hX
 intro _
 have g0 := (FBox.on (FBox.on (FBox.on g35 b36) b37) b38)
 obtain ⟨k0, k1, k2, y0, y1, y2, hlt⟩ := FBox.facts g0
 obtain ⟨X39, hY, h39, v39, p39, s39⟩ := tri_st (b := ba) (A1 := Aa) (c1 := ca') (l1 := la) (A2 := Da) (c2 := da) (l2 := ma) g0 h38 hb0.size
 refine run_one (i := 14) (by kernel_rfl) rfl rfl ?_
 intro K hK
 go_simp
 rw [← hY]
 refine hK.out _ _ h39 ?_
 clear hK K k0 k1 k2 y0 y1 y2 hlt hY g0
 intro _
 have g0 := (p39 _ (Ne.symm (Nat.ne_of_lt (heap_lt (FBox.on g35 b36)))) (FBox.on g37 b38))
 obtain ⟨k0, k1, k2, y0, y1, y2, hlt⟩ := FBox.facts g0
 obtain ⟨X40, hY, h40, v40, p40, s40⟩ := tri_st (b := bb) (A1 := Ab) (c1 := cb') (l1 := lb) (A2 := Db) (c2 := db) (l2 := mb) g0 h39 h36.size
 refine run_one (i := 15) (by kernel_rfl) rfl rfl ?_
 intro K hK
 go_simp
 rw [← hY]
 refine hK.out _ _ h40 ?_
 clear hK K k0 k1 k2 y0 y1 y2 hlt hY g0
 intro _
 have g0 := (p40 _ (Ne.symm (Nat.ne_of_lt (heap_lt g37))) (p39 _ (Ne.symm (Nat.ne_of_lt (heap_lt (FBox.on (FBox.on g35 b36) b37)))) g38))
 obtain ⟨k0, k1, k2, y0, y1, y2, hlt⟩ := FBox.facts g0
 obtain ⟨X41, hY, h41, v41, p41, s41⟩ := tri_st (b := bc) (A1 := Ac) (c1 := cc') (l1 := lc) (A2 := Dc) (c2 := dc) (l2 := mc) g0 h40 h37.size
 refine run_one (i := 16) (by kernel_rfl) rfl rfl ?_
 intro K hK
 go_simp
 rw [← hY]
 refine hK.out _ _ h41 ?_
 clear hK K k0 k1 k2 y0 y1 y2 hlt hY g0
 intro _
 refine wpAnyH_done (by kernel_rfl) ?_ _
 refine NoPanic.normal ?_
 go_wp2_with fail
 go_meet
 exact ⟨X37.heap.size, rfl, h37.size, (s41 _ (v40 _ _ (v39 _ _ (FracR.on (FracR.on f36 b37) b38)))), h41⟩
 }
 refine AllReadyH.cons rfl (fun K hK => ?_) ?_
 {
 obtain ⟨X42, hX, b42, g42⟩ := tri_al X36
 have h42 := below_next h36 b42
 refine wp_val (v := .pointer (some ⟨X36.heap.size, 0, none⟩)) (w' := X42) (by rw [hX]; kernel_rfl) ?_
 refine hK.out _ _ h42 ?_
 clear hK K hX
 intro _
 refine run_one (i := 12) (by kernel_rfl) rfl rfl ?_
 intro K hK
 obtain ⟨X43, hX, b43, g43⟩ := tri_al X42
 have h43 := below_next h42 b43
 refine wp_val (v := .pointer (some ⟨X42.heap.size, 0, none⟩)) (w' := X43) (by rw [hX]; kernel_rfl) ?_
 refine hK.out _ _ h43 ?_
 clear hK K hX
 intro _
 have g0 := (FBox.on (FBox.on (FBox.on g35 b36) b42) b43)
 obtain ⟨k0, k1, k2, y0, y1, y2, hlt⟩ := FBox.facts g0
 obtain ⟨X44, hY, h44, v44, p44, s44⟩ := tri_st (b := ba) (A1 := Aa) (c1 := ca') (l1 := la) (A2 := Da) (c2 := da) (l2 := ma) g0 h43 hb0.size
 refine run_one (i := 14) (by kernel_rfl) rfl rfl ?_
 intro K hK
 go_simp
 rw [← hY]
 refine hK.out _ _ h44 ?_
 clear hK K k0 k1 k2 y0 y1 y2 hlt hY g0
 intro _
 have g0 := (p44 _ (Ne.symm (Nat.ne_of_lt (heap_lt (FBox.on (FBox.on g35 b36) b42)))) g43)
 obtain ⟨k0, k1, k2, y0, y1, y2, hlt⟩ := FBox.facts g0
 obtain ⟨X45, hY, h45, v45, p45, s45⟩ := tri_st (b := bb) (A1 := Ab) (c1 := cb') (l1 := lb) (A2 := Db) (c2 := db) (l2 := mb) g0 h44 h42.size
 refine run_one (i := 15) (by kernel_rfl) rfl rfl ?_
 intro K hK
 go_simp
 rw [← hY]
 refine hK.out _ _ h45 ?_
 clear hK K k0 k1 k2 y0 y1 y2 hlt hY g0
 intro _
 have g0 := (p45 _ (Nat.ne_of_lt (heap_lt g42)) (p44 _ (Ne.symm (Nat.ne_of_lt (heap_lt (FBox.on g35 b36)))) (FBox.on g42 b43)))
 obtain ⟨k0, k1, k2, y0, y1, y2, hlt⟩ := FBox.facts g0
 obtain ⟨X46, hY, h46, v46, p46, s46⟩ := tri_st (b := bc) (A1 := Ac) (c1 := cc') (l1 := lc) (A2 := Dc) (c2 := dc) (l2 := mc) g0 h45 h36.size
 refine run_one (i := 16) (by kernel_rfl) rfl rfl ?_
 intro K hK
 go_simp
 rw [← hY]
 refine hK.out _ _ h46 ?_
 clear hK K k0 k1 k2 y0 y1 y2 hlt hY g0
 intro _
 refine wpAnyH_done (by kernel_rfl) ?_ _
 refine NoPanic.normal ?_
 go_wp2_with fail
 go_meet
 exact ⟨X36.heap.size, rfl, h36.size, (s46 _ (v45 _ _ (v44 _ _ (FracR.on (FracR.on f36 b42) b43)))), h46⟩
 }
 exact AllReadyH.nil
 }
 refine AllReadyH.cons rfl (fun K hK => ?_) ?_
 {
 obtain ⟨X47, hX, b47, g47⟩ := tri_al X35
 have h47 := below_next h35 b47
 refine wp_val (v := .pointer (some ⟨X35.heap.size, 0, none⟩)) (w' := X47) (by rw [hX]; kernel_rfl) ?_
 refine hK.out _ _ h47 ?_
 clear hK K hX
 intro _
 refine wpAnyH_ready (rs := [6, 13]) (by kernel_rfl) (by simp) ?_
 refine AllReadyH.cons rfl (fun K hK => ?_) ?_
 {
 refine wp_call (HFT2q.out X47 h47) (by kernel_rfl) ?_
 rintro e X48 ⟨_, _, _, rfl, ha, hb', f48, b48⟩
 have h48 := below_next h47 b48
 refine ⟨_, rfl, hK.out _ _ h48 ?_⟩
 clear hK K
 intro _
 obtain ⟨ba, Aa, ca', la, Da, da, ma, rfl⟩ := ha.shape
 obtain ⟨bb, Ab, cb', lb, Db, db, mb, rfl⟩ := hb'.shape
 obtain ⟨bc, Ac, cc', lc, Dc, dc, mc, rfl⟩ := f48.shape
 clear ha hb'
 have HS0 := h48
 refine wpAnyH_take (i := 7) (v := ?_) rfl (by kernel_rfl) (by kernel_rfl) (by kernel_rfl) (fun _ _ _ h => h) (Or.inl ⟨by rfl, ?_⟩) HS0 ?_
 rotate_left
 · intro W hW; (try dsimp only at hW); go_simp; try (with_reducible rfl)

 clear HS0
 have HS0 := h48
 refine wpAnyH_take (i := 8) (v := ?_) rfl (by kernel_rfl) (by kernel_rfl) (by kernel_rfl) (fun _ _ _ h => h) (Or.inl ⟨by rfl, ?_⟩) HS0 ?_
 rotate_left
 · intro W hW; (try dsimp only at hW); go_simp; try (with_reducible rfl)

 clear HS0
 have HS0 := h48
 refine wpAnyH_take (i := 9) (v := ?_) rfl (by kernel_rfl) (by kernel_rfl) (by kernel_rfl) (fun _ _ _ h => h) (Or.inl ⟨by rfl, ?_⟩) HS0 ?_
 rotate_left
 · intro W hW; (try dsimp only at hW); go_simp; try (with_reducible rfl)

 clear HS0
 have HS0 := h48
 refine wpAnyH_take (i := 10) (v := ?_) rfl (by kernel_rfl) (by kernel_rfl) (by kernel_rfl) (fun _ _ _ h => h) (Or.inl ⟨by rfl, ?_⟩) HS0 ?_
 rotate_left
 · intro W hW; (try dsimp only at hW); go_simp; try (with_reducible rfl)

 clear HS0
 refine run_one (i := 13) (by kernel_rfl) rfl rfl ?_
 intro K hK
 obtain ⟨X49, hX, b49, g49⟩ := tri_al X48
 have h49 := below_next h48 b49
 refine wp_val (v := .pointer (some ⟨X48.heap.size, 0, none⟩)) (w' := X49) (by rw [hX]; kernel_rfl) ?_
 refine hK.out _ _ h49 ?_
 clear hK K hX
 intro _
 have g0 := (FBox.on (FBox.on (FBox.on g35 b47) b48) b49)
 obtain ⟨k0, k1, k2, y0, y1, y2, hlt⟩ := FBox.facts g0
 obtain ⟨X50, hY, h50, v50, p50, s50⟩ := tri_st (b := ba) (A1 := Aa) (c1 := ca') (l1 := la) (A2 := Da) (c2 := da) (l2 := ma) g0 h49 hb0.size
 refine run_one (i := 14) (by kernel_rfl) rfl rfl ?_
 intro K hK
 go_simp
 rw [← hY]
 refine hK.out _ _ h50 ?_
 clear hK K k0 k1 k2 y0 y1 y2 hlt hY g0
 intro _
 have g0 := (p50 _ (Ne.symm (Nat.ne_of_lt (heap_lt g35))) (FBox.on (FBox.on g47 b48) b49))
 obtain ⟨k0, k1, k2, y0, y1, y2, hlt⟩ := FBox.facts g0
 obtain ⟨X51, hY, h51, v51, p51, s51⟩ := tri_st (b := bb) (A1 := Ab) (c1 := cb') (l1 := lb) (A2 := Db) (c2 := db) (l2 := mb) g0 h50 h35.size
 refine run_one (i := 15) (by kernel_rfl) rfl rfl ?_
 intro K hK
 go_simp
 rw [← hY]
 refine hK.out _ _ h51 ?_
 clear hK K k0 k1 k2 y0 y1 y2 hlt hY g0
 intro _
 have g0 := (p51 _ (Ne.symm (Nat.ne_of_lt (heap_lt (FBox.on g47 b48)))) (p50 _ (Ne.symm (Nat.ne_of_lt (heap_lt (FBox.on (FBox.on g35 b47) b48)))) g49))
 obtain ⟨k0, k1, k2, y0, y1, y2, hlt⟩ := FBox.facts g0
 obtain ⟨X52, hY, h52, v52, p52, s52⟩ := tri_st (b := bc) (A1 := Ac) (c1 := cc') (l1 := lc) (A2 := Dc) (c2 := dc) (l2 := mc) g0 h51 h48.size
 refine run_one (i := 16) (by kernel_rfl) rfl rfl ?_
 intro K hK
 go_simp
 rw [← hY]
 refine hK.out _ _ h52 ?_
 clear hK K k0 k1 k2 y0 y1 y2 hlt hY g0
 intro _
 refine wpAnyH_done (by kernel_rfl) ?_ _
 refine NoPanic.normal ?_
 go_wp2_with fail
 go_meet
 exact ⟨X48.heap.size, rfl, h48.size, (s52 _ (v51 _ _ (v50 _ _ (FracR.on f48 b49)))), h52⟩
 }
 refine AllReadyH.cons rfl (fun K hK => ?_) ?_
 {
 obtain ⟨X53, hX, b53, g53⟩ := tri_al X47
 have h53 := below_next h47 b53
 refine wp_val (v := .pointer (some ⟨X47.heap.size, 0, none⟩)) (w' := X53) (by rw [hX]; kernel_rfl) ?_
 refine hK.out _ _ h53 ?_
 clear hK K hX
 intro _
 refine run_one (i := 6) (by kernel_rfl) rfl rfl ?_
 intro K hK
 refine wp_call (HFT2q.out X53 h53) (by kernel_rfl) ?_
 rintro e X54 ⟨_, _, _, rfl, ha, hb', f54, b54⟩
 have h54 := below_next h53 b54
 refine ⟨_, rfl, hK.out _ _ h54 ?_⟩
 clear hK K
 intro _
 obtain ⟨ba, Aa, ca', la, Da, da, ma, rfl⟩ := ha.shape
 obtain ⟨bb, Ab, cb', lb, Db, db, mb, rfl⟩ := hb'.shape
 obtain ⟨bc, Ac, cc', lc, Dc, dc, mc, rfl⟩ := f54.shape
 clear ha hb'
 have HS0 := h54
 refine wpAnyH_take (i := 7) (v := ?_) rfl (by kernel_rfl) (by kernel_rfl) (by kernel_rfl) (fun _ _ _ h => h) (Or.inl ⟨by rfl, ?_⟩) HS0 ?_
 rotate_left
 · intro W hW; (try dsimp only at hW); go_simp; try (with_reducible rfl)

 clear HS0
 have HS0 := h54
 refine wpAnyH_take (i := 8) (v := ?_) rfl (by kernel_rfl) (by kernel_rfl) (by kernel_rfl) (fun _ _ _ h => h) (Or.inl ⟨by rfl, ?_⟩) HS0 ?_
 rotate_left
 · intro W hW; (try dsimp only at hW); go_simp; try (with_reducible rfl)

 clear HS0
 have HS0 := h54
 refine wpAnyH_take (i := 9) (v := ?_) rfl (by kernel_rfl) (by kernel_rfl) (by kernel_rfl) (fun _ _ _ h => h) (Or.inl ⟨by rfl, ?_⟩) HS0 ?_
 rotate_left
 · intro W hW; (try dsimp only at hW); go_simp; try (with_reducible rfl)

 clear HS0
 have HS0 := h54
 refine wpAnyH_take (i := 10) (v := ?_) rfl (by kernel_rfl) (by kernel_rfl) (by kernel_rfl) (fun _ _ _ h => h) (Or.inl ⟨by rfl, ?_⟩) HS0 ?_
 rotate_left
 · intro W hW; (try dsimp only at hW); go_simp; try (with_reducible rfl)

 clear HS0
 have g0 := (FBox.on (FBox.on (FBox.on g35 b47) b53) b54)
 obtain ⟨k0, k1, k2, y0, y1, y2, hlt⟩ := FBox.facts g0
 obtain ⟨X55, hY, h55, v55, p55, s55⟩ := tri_st (b := ba) (A1 := Aa) (c1 := ca') (l1 := la) (A2 := Da) (c2 := da) (l2 := ma) g0 h54 hb0.size
 refine run_one (i := 14) (by kernel_rfl) rfl rfl ?_
 intro K hK
 go_simp
 rw [← hY]
 refine hK.out _ _ h55 ?_
 clear hK K k0 k1 k2 y0 y1 y2 hlt hY g0
 intro _
 have g0 := (p55 _ (Ne.symm (Nat.ne_of_lt (heap_lt g35))) (FBox.on (FBox.on g47 b53) b54))
 obtain ⟨k0, k1, k2, y0, y1, y2, hlt⟩ := FBox.facts g0
 obtain ⟨X56, hY, h56, v56, p56, s56⟩ := tri_st (b := bb) (A1 := Ab) (c1 := cb') (l1 := lb) (A2 := Db) (c2 := db) (l2 := mb) g0 h55 h35.size
 refine run_one (i := 15) (by kernel_rfl) rfl rfl ?_
 intro K hK
 go_simp
 rw [← hY]
 refine hK.out _ _ h56 ?_
 clear hK K k0 k1 k2 y0 y1 y2 hlt hY g0
 intro _
 have g0 := (p56 _ (Ne.symm (Nat.ne_of_lt (heap_lt g47))) (p55 _ (Ne.symm (Nat.ne_of_lt (heap_lt (FBox.on g35 b47)))) (FBox.on g53 b54)))
 obtain ⟨k0, k1, k2, y0, y1, y2, hlt⟩ := FBox.facts g0
 obtain ⟨X57, hY, h57, v57, p57, s57⟩ := tri_st (b := bc) (A1 := Ac) (c1 := cc') (l1 := lc) (A2 := Dc) (c2 := dc) (l2 := mc) g0 h56 h47.size
 refine run_one (i := 16) (by kernel_rfl) rfl rfl ?_
 intro K hK
 go_simp
 rw [← hY]
 refine hK.out _ _ h57 ?_
 clear hK K k0 k1 k2 y0 y1 y2 hlt hY g0
 intro _
 refine wpAnyH_done (by kernel_rfl) ?_ _
 refine NoPanic.normal ?_
 go_wp2_with fail
 go_meet
 exact ⟨X47.heap.size, rfl, h47.size, (s57 _ (v56 _ _ (v55 _ _ f54))), h57⟩
 }
 exact AllReadyH.nil
 }
 refine AllReadyH.cons rfl (fun K hK => ?_) ?_
 {
 obtain ⟨X58, hX, b58, g58⟩ := tri_al X35
 have h58 := below_next h35 b58
 refine wp_val (v := .pointer (some ⟨X35.heap.size, 0, none⟩)) (w' := X58) (by rw [hX]; kernel_rfl) ?_
 refine hK.out _ _ h58 ?_
 clear hK K hX
 intro _
 refine wpAnyH_ready (rs := [6, 12]) (by kernel_rfl) (by simp) ?_
 refine AllReadyH.cons rfl (fun K hK => ?_) ?_
 {
 refine wp_call (HFT2q.out X58 h58) (by kernel_rfl) ?_
 rintro e X59 ⟨_, _, _, rfl, ha, hb', f59, b59⟩
 have h59 := below_next h58 b59
 refine ⟨_, rfl, hK.out _ _ h59 ?_⟩
 clear hK K
 intro _
 obtain ⟨ba, Aa, ca', la, Da, da, ma, rfl⟩ := ha.shape
 obtain ⟨bb, Ab, cb', lb, Db, db, mb, rfl⟩ := hb'.shape
 obtain ⟨bc, Ac, cc', lc, Dc, dc, mc, rfl⟩ := f59.shape
 clear ha hb'
 have HS0 := h59
 refine wpAnyH_take (i := 7) (v := ?_) rfl (by kernel_rfl) (by kernel_rfl) (by kernel_rfl) (fun _ _ _ h => h) (Or.inl ⟨by rfl, ?_⟩) HS0 ?_
 rotate_left
 · intro W hW; (try dsimp only at hW); go_simp; try (with_reducible rfl)

 clear HS0
 have HS0 := h59
 refine wpAnyH_take (i := 8) (v := ?_) rfl (by kernel_rfl) (by kernel_rfl) (by kernel_rfl) (fun _ _ _ h => h) (Or.inl ⟨by rfl, ?_⟩) HS0 ?_
 rotate_left
 · intro W hW; (try dsimp only at hW); go_simp; try (with_reducible rfl)

 clear HS0
 have HS0 := h59
 refine wpAnyH_take (i := 9) (v := ?_) rfl (by kernel_rfl) (by kernel_rfl) (by kernel_rfl) (fun _ _ _ h => h) (Or.inl ⟨by rfl, ?_⟩) HS0 ?_
 rotate_left
 · intro W hW; (try dsimp only at hW); go_simp; try (with_reducible rfl)

 clear HS0
 have HS0 := h59
 refine wpAnyH_take (i := 10) (v := ?_) rfl (by kernel_rfl) (by kernel_rfl) (by kernel_rfl) (fun _ _ _ h => h) (Or.inl ⟨by rfl, ?_⟩) HS0 ?_
 rotate_left
 · intro W hW; (try dsimp only at hW); go_simp; try (with_reducible rfl)

 clear HS0
 refine run_one (i := 12) (by kernel_rfl) rfl rfl ?_
 intro K hK
 obtain ⟨X60, hX, b60, g60⟩ := tri_al X59
 have h60 := below_next h59 b60
 refine wp_val (v := .pointer (some ⟨X59.heap.size, 0, none⟩)) (w' := X60) (by rw [hX]; kernel_rfl) ?_
 refine hK.out _ _ h60 ?_
 clear hK K hX
 intro _
 have g0 := (FBox.on (FBox.on (FBox.on g35 b58) b59) b60)
 obtain ⟨k0, k1, k2, y0, y1, y2, hlt⟩ := FBox.facts g0
 obtain ⟨X61, hY, h61, v61, p61, s61⟩ := tri_st (b := ba) (A1 := Aa) (c1 := ca') (l1 := la) (A2 := Da) (c2 := da) (l2 := ma) g0 h60 hb0.size
 refine run_one (i := 14) (by kernel_rfl) rfl rfl ?_
 intro K hK
 go_simp
 rw [← hY]
 refine hK.out _ _ h61 ?_
 clear hK K k0 k1 k2 y0 y1 y2 hlt hY g0
 intro _
 have g0 := (p61 _ (Ne.symm (Nat.ne_of_lt (heap_lt (FBox.on (FBox.on g35 b58) b59)))) g60)
 obtain ⟨k0, k1, k2, y0, y1, y2, hlt⟩ := FBox.facts g0
 obtain ⟨X62, hY, h62, v62, p62, s62⟩ := tri_st (b := bb) (A1 := Ab) (c1 := cb') (l1 := lb) (A2 := Db) (c2 := db) (l2 := mb) g0 h61 h59.size
 refine run_one (i := 15) (by kernel_rfl) rfl rfl ?_
 intro K hK
 go_simp
 rw [← hY]
 refine hK.out _ _ h62 ?_
 clear hK K k0 k1 k2 y0 y1 y2 hlt hY g0
 intro _
 have g0 := (p62 _ (Nat.ne_of_lt (heap_lt (FBox.on g58 b59))) (p61 _ (Ne.symm (Nat.ne_of_lt (heap_lt g35))) (FBox.on (FBox.on g58 b59) b60)))
 obtain ⟨k0, k1, k2, y0, y1, y2, hlt⟩ := FBox.facts g0
 obtain ⟨X63, hY, h63, v63, p63, s63⟩ := tri_st (b := bc) (A1 := Ac) (c1 := cc') (l1 := lc) (A2 := Dc) (c2 := dc) (l2 := mc) g0 h62 h35.size
 refine run_one (i := 16) (by kernel_rfl) rfl rfl ?_
 intro K hK
 go_simp
 rw [← hY]
 refine hK.out _ _ h63 ?_
 clear hK K k0 k1 k2 y0 y1 y2 hlt hY g0
 intro _
 refine wpAnyH_done (by kernel_rfl) ?_ _
 refine NoPanic.normal ?_
 go_wp2_with fail
 go_meet
 exact ⟨X35.heap.size, rfl, h35.size, (s63 _ (v62 _ _ (v61 _ _ (FracR.on f59 b60)))), h63⟩
 }
 refine AllReadyH.cons rfl (fun K hK => ?_) ?_
 {
 obtain ⟨X64, hX, b64, g64⟩ := tri_al X58
 have h64 := below_next h58 b64
 refine wp_val (v := .pointer (some ⟨X58.heap.size, 0, none⟩)) (w' := X64) (by rw [hX]; kernel_rfl) ?_
 refine hK.out _ _ h64 ?_
 clear hK K hX
 intro _
 refine run_one (i := 6) (by kernel_rfl) rfl rfl ?_
 intro K hK
 refine wp_call (HFT2q.out X64 h64) (by kernel_rfl) ?_
 rintro e X65 ⟨_, _, _, rfl, ha, hb', f65, b65⟩
 have h65 := below_next h64 b65
 refine ⟨_, rfl, hK.out _ _ h65 ?_⟩
 clear hK K
 intro _
 obtain ⟨ba, Aa, ca', la, Da, da, ma, rfl⟩ := ha.shape
 obtain ⟨bb, Ab, cb', lb, Db, db, mb, rfl⟩ := hb'.shape
 obtain ⟨bc, Ac, cc', lc, Dc, dc, mc, rfl⟩ := f65.shape
 clear ha hb'
 have HS0 := h65
 refine wpAnyH_take (i := 7) (v := ?_) rfl (by kernel_rfl) (by kernel_rfl) (by kernel_rfl) (fun _ _ _ h => h) (Or.inl ⟨by rfl, ?_⟩) HS0 ?_
 rotate_left
 · intro W hW; (try dsimp only at hW); go_simp; try (with_reducible rfl)

 clear HS0
 have HS0 := h65
 refine wpAnyH_take (i := 8) (v := ?_) rfl (by kernel_rfl) (by kernel_rfl) (by kernel_rfl) (fun _ _ _ h => h) (Or.inl ⟨by rfl, ?_⟩) HS0 ?_
 rotate_left
 · intro W hW; (try dsimp only at hW); go_simp; try (with_reducible rfl)

 clear HS0
 have HS0 := h65
 refine wpAnyH_take (i := 9) (v := ?_) rfl (by kernel_rfl) (by kernel_rfl) (by kernel_rfl) (fun _ _ _ h => h) (Or.inl ⟨by rfl, ?_⟩) HS0 ?_
 rotate_left
 · intro W hW; (try dsimp only at hW); go_simp; try (with_reducible rfl)

 clear HS0
 have HS0 := h65
 refine wpAnyH_take (i := 10) (v := ?_) rfl (by kernel_rfl) (by kernel_rfl) (by kernel_rfl) (fun _ _ _ h => h) (Or.inl ⟨by rfl, ?_⟩) HS0 ?_
 rotate_left
 · intro W hW; (try dsimp only at hW); go_simp; try (with_reducible rfl)

 clear HS0
 have g0 := (FBox.on (FBox.on (FBox.on g35 b58) b64) b65)
 obtain ⟨k0, k1, k2, y0, y1, y2, hlt⟩ := FBox.facts g0
 obtain ⟨X66, hY, h66, v66, p66, s66⟩ := tri_st (b := ba) (A1 := Aa) (c1 := ca') (l1 := la) (A2 := Da) (c2 := da) (l2 := ma) g0 h65 hb0.size
 refine run_one (i := 14) (by kernel_rfl) rfl rfl ?_
 intro K hK
 go_simp
 rw [← hY]
 refine hK.out _ _ h66 ?_
 clear hK K k0 k1 k2 y0 y1 y2 hlt hY g0
 intro _
 have g0 := (p66 _ (Ne.symm (Nat.ne_of_lt (heap_lt (FBox.on g35 b58)))) (FBox.on g64 b65))
 obtain ⟨k0, k1, k2, y0, y1, y2, hlt⟩ := FBox.facts g0
 obtain ⟨X67, hY, h67, v67, p67, s67⟩ := tri_st (b := bb) (A1 := Ab) (c1 := cb') (l1 := lb) (A2 := Db) (c2 := db) (l2 := mb) g0 h66 h58.size
 refine run_one (i := 15) (by kernel_rfl) rfl rfl ?_
 intro K hK
 go_simp
 rw [← hY]
 refine hK.out _ _ h67 ?_
 clear hK K k0 k1 k2 y0 y1 y2 hlt hY g0
 intro _
 have g0 := (p67 _ (Nat.ne_of_lt (heap_lt g58)) (p66 _ (Ne.symm (Nat.ne_of_lt (heap_lt g35))) (FBox.on (FBox.on g58 b64) b65)))
 obtain ⟨k0, k1, k2, y0, y1, y2, hlt⟩ := FBox.facts g0
 obtain ⟨X68, hY, h68, v68, p68, s68⟩ := tri_st (b := bc) (A1 := Ac) (c1 := cc') (l1 := lc) (A2 := Dc) (c2 := dc) (l2 := mc) g0 h67 h35.size
 refine run_one (i := 16) (by kernel_rfl) rfl rfl ?_
 intro K hK
 go_simp
 rw [← hY]
 refine hK.out _ _ h68 ?_
 clear hK K k0 k1 k2 y0 y1 y2 hlt hY g0
 intro _
 refine wpAnyH_done (by kernel_rfl) ?_ _
 refine NoPanic.normal ?_
 go_wp2_with fail
 go_meet
 exact ⟨X35.heap.size, rfl, h35.size, (s68 _ (v67 _ _ (v66 _ _ f65))), h68⟩
 }
 exact AllReadyH.nil
 }
 exact AllReadyH.nil
 }
 refine AllReadyH.cons rfl (fun K hK => ?_) ?_
 {
 obtain ⟨X69, hX, b69, g69⟩ := tri_al X0
 have h69 := below_next hb0 b69
 refine wp_val (v := .pointer (some ⟨X0.heap.size, 0, none⟩)) (w' := X69) (by rw [hX]; kernel_rfl) ?_
 refine hK.out _ _ h69 ?_
 clear hK K hX
 intro _
 refine wpAnyH_ready (rs := [6, 11, 13]) (by kernel_rfl) (by simp) ?_
 refine AllReadyH.cons rfl (fun K hK => ?_) ?_
 {
 refine wp_call (HFT2q.out X69 h69) (by kernel_rfl) ?_
 rintro e X70 ⟨_, _, _, rfl, ha, hb', f70, b70⟩
 have h70 := below_next h69 b70
 refine ⟨_, rfl, hK.out _ _ h70 ?_⟩
 clear hK K
 intro _
 obtain ⟨ba, Aa, ca', la, Da, da, ma, rfl⟩ := ha.shape
 obtain ⟨bb, Ab, cb', lb, Db, db, mb, rfl⟩ := hb'.shape
 obtain ⟨bc, Ac, cc', lc, Dc, dc, mc, rfl⟩ := f70.shape
 clear ha hb'
 have HS0 := h70
 refine wpAnyH_take (i := 7) (v := ?_) rfl (by kernel_rfl) (by kernel_rfl) (by kernel_rfl) (fun _ _ _ h => h) (Or.inl ⟨by rfl, ?_⟩) HS0 ?_
 rotate_left
 · intro W hW; (try dsimp only at hW); go_simp; try (with_reducible rfl)

 clear HS0
 have HS0 := h70
 refine wpAnyH_take (i := 8) (v := ?_) rfl (by kernel_rfl) (by kernel_rfl) (by kernel_rfl) (fun _ _ _ h => h) (Or.inl ⟨by rfl, ?_⟩) HS0 ?_
 rotate_left
 · intro W hW; (try dsimp only at hW); go_simp; try (with_reducible rfl)

 clear HS0
 have HS0 := h70
 refine wpAnyH_take (i := 9) (v := ?_) rfl (by kernel_rfl) (by kernel_rfl) (by kernel_rfl) (fun _ _ _ h => h) (Or.inl ⟨by rfl, ?_⟩) HS0 ?_
 rotate_left
 · intro W hW; (try dsimp only at hW); go_simp; try (with_reducible rfl)

 clear HS0
 have HS0 := h70
 refine wpAnyH_take (i := 10) (v := ?_) rfl (by kernel_rfl) (by kernel_rfl) (by kernel_rfl) (fun _ _ _ h => h) (Or.inl ⟨by rfl, ?_⟩) HS0 ?_
 rotate_left
 · intro W hW; (try dsimp only at hW); go_simp; try (with_reducible rfl)

 clear HS0
 refine wpAnyH_ready (rs := [11, 13]) (by kernel_rfl) (by simp) ?_
 refine AllReadyH.cons rfl (fun K hK => ?_) ?_
 {
 obtain ⟨X71, hX, b71, g71⟩ := tri_al X70
 have h71 := below_next h70 b71
 refine wp_val (v := .pointer (some ⟨X70.heap.size, 0, none⟩)) (w' := X71) (by rw [hX]; kernel_rfl) ?_
 refine hK.out _ _ h71 ?_
 clear hK K hX
 intro _
 refine run_one (i := 13) (by kernel_rfl) rfl rfl ?_
 intro K hK
 obtain ⟨X72, hX, b72, g72⟩ := tri_al X71
 have h72 := below_next h71 b72
 refine wp_val (v := .pointer (some ⟨X71.heap.size, 0, none⟩)) (w' := X72) (by rw [hX]; kernel_rfl) ?_
 refine hK.out _ _ h72 ?_
 clear hK K hX
 intro _
 have g0 := (FBox.on g71 b72)
 obtain ⟨k0, k1, k2, y0, y1, y2, hlt⟩ := FBox.facts g0
 obtain ⟨X73, hY, h73, v73, p73, s73⟩ := tri_st (b := ba) (A1 := Aa) (c1 := ca') (l1 := la) (A2 := Da) (c2 := da) (l2 := ma) g0 h72 h70.size
 refine run_one (i := 14) (by kernel_rfl) rfl rfl ?_
 intro K hK
 go_simp
 rw [← hY]
 refine hK.out _ _ h73 ?_
 clear hK K k0 k1 k2 y0 y1 y2 hlt hY g0
 intro _
 have g0 := (p73 _ (Nat.ne_of_lt (heap_lt (FBox.on g69 b70))) (FBox.on (FBox.on (FBox.on g69 b70) b71) b72))
 obtain ⟨k0, k1, k2, y0, y1, y2, hlt⟩ := FBox.facts g0
 obtain ⟨X74, hY, h74, v74, p74, s74⟩ := tri_st (b := bb) (A1 := Ab) (c1 := cb') (l1 := lb) (A2 := Db) (c2 := db) (l2 := mb) g0 h73 hb0.size
 refine run_one (i := 15) (by kernel_rfl) rfl rfl ?_
 intro K hK
 go_simp
 rw [← hY]
 refine hK.out _ _ h74 ?_
 clear hK K k0 k1 k2 y0 y1 y2 hlt hY g0
 intro _
 have g0 := (p74 _ (Ne.symm (Nat.ne_of_lt (heap_lt (FBox.on (FBox.on g69 b70) b71)))) (p73 _ (Ne.symm (Nat.ne_of_lt (heap_lt g71))) g72))
 obtain ⟨k0, k1, k2, y0, y1, y2, hlt⟩ := FBox.facts g0
 obtain ⟨X75, hY, h75, v75, p75, s75⟩ := tri_st (b := bc) (A1 := Ac) (c1 := cc') (l1 := lc) (A2 := Dc) (c2 := dc) (l2 := mc) g0 h74 h71.size
 refine run_one (i := 16) (by kernel_rfl) rfl rfl ?_
 intro K hK
 go_simp
 rw [← hY]
 refine hK.out _ _ h75 ?_
 clear hK K k0 k1 k2 y0 y1 y2 hlt hY g0
 intro _
 refine wpAnyH_done (by kernel_rfl) ?_ _
 refine NoPanic.normal ?_
 go_wp2_with fail
 go_meet
 exact ⟨X71.heap.size, rfl, h71.size, (s75 _ (v74 _ _ (v73 _ _ (FracR.on (FracR.on f70 b71) b72)))), h75⟩
 }
 refine AllReadyH.cons rfl (fun K hK => ?_) ?_
 {
 obtain ⟨X76, hX, b76, g76⟩ := tri_al X70
 have h76 := below_next h70 b76
 refine wp_val (v := .pointer (some ⟨X70.heap.size, 0, none⟩)) (w' := X76) (by rw [hX]; kernel_rfl) ?_
 refine hK.out _ _ h76 ?_
 clear hK K hX
 intro _
 refine run_one (i := 11) (by kernel_rfl) rfl rfl ?_
 intro K hK
 obtain ⟨X77, hX, b77, g77⟩ := tri_al X76
 have h77 := below_next h76 b77
 refine wp_val (v := .pointer (some ⟨X76.heap.size, 0, none⟩)) (w' := X77) (by rw [hX]; kernel_rfl) ?_
 refine hK.out _ _ h77 ?_
 clear hK K hX
 intro _
 have g0 := g77
 obtain ⟨k0, k1, k2, y0, y1, y2, hlt⟩ := FBox.facts g0
 obtain ⟨X78, hY, h78, v78, p78, s78⟩ := tri_st (b := ba) (A1 := Aa) (c1 := ca') (l1 := la) (A2 := Da) (c2 := da) (l2 := ma) g0 h77 h76.size
 refine run_one (i := 14) (by kernel_rfl) rfl rfl ?_
 intro K hK
 go_simp
 rw [← hY]
 refine hK.out _ _ h78 ?_
 clear hK K k0 k1 k2 y0 y1 y2 hlt hY g0
 intro _
 have g0 := (p78 _ (Nat.ne_of_lt (heap_lt (FBox.on (FBox.on g69 b70) b76))) (FBox.on (FBox.on (FBox.on g69 b70) b76) b77))
 obtain ⟨k0, k1, k2, y0, y1, y2, hlt⟩ := FBox.facts g0
 obtain ⟨X79, hY, h79, v79, p79, s79⟩ := tri_st (b := bb) (A1 := Ab) (c1 := cb') (l1 := lb) (A2 := Db) (c2 := db) (l2 := mb) g0 h78 hb0.size
 refine run_one (i := 15) (by kernel_rfl) rfl rfl ?_
 intro K hK
 go_simp
 rw [← hY]
 refine hK.out _ _ h79 ?_
 clear hK K k0 k1 k2 y0 y1 y2 hlt hY g0
 intro _
 have g0 := (p79 _ (Ne.symm (Nat.ne_of_lt (heap_lt (FBox.on g69 b70)))) (p78 _ (Nat.ne_of_lt (heap_lt g76)) (FBox.on g76 b77)))
 obtain ⟨k0, k1, k2, y0, y1, y2, hlt⟩ := FBox.facts g0
 obtain ⟨X80, hY, h80, v80, p80, s80⟩ := tri_st (b := bc) (A1 := Ac) (c1 := cc') (l1 := lc) (A2 := Dc) (c2 := dc) (l2 := mc) g0 h79 h70.size
 refine run_one (i := 16) (by kernel_rfl) rfl rfl ?_
 intro K hK
 go_simp
 rw [← hY]
 refine hK.out _ _ h80 ?_
 clear hK K k0 k1 k2 y0 y1 y2 hlt hY g0
 intro _
 refine wpAnyH_done (by kernel_rfl) ?_ _
 refine NoPanic.normal ?_
 go_wp2_with fail
 go_meet
 exact ⟨X70.heap.size, rfl, h70.size, (s80 _ (v79 _ _ (v78 _ _ (FracR.on (FracR.on f70 b76) b77)))), h80⟩
 }
 exact AllReadyH.nil
 }
 refine AllReadyH.cons rfl (fun K hK => ?_) ?_
 {
 obtain ⟨X81, hX, b81, g81⟩ := tri_al X69
 have h81 := below_next h69 b81
 refine wp_val (v := .pointer (some ⟨X69.heap.size, 0, none⟩)) (w' := X81) (by rw [hX]; kernel_rfl) ?_
 refine hK.out _ _ h81 ?_
 clear hK K hX
 intro _
 refine wpAnyH_ready (rs := [6, 13]) (by kernel_rfl) (by simp) ?_
 refine AllReadyH.cons rfl (fun K hK => ?_) ?_
 {
 refine wp_call (HFT2q.out X81 h81) (by kernel_rfl) ?_
 rintro e X82 ⟨_, _, _, rfl, ha, hb', f82, b82⟩
 have h82 := below_next h81 b82
 refine ⟨_, rfl, hK.out _ _ h82 ?_⟩
 clear hK K
 intro _
 obtain ⟨ba, Aa, ca', la, Da, da, ma, rfl⟩ := ha.shape
 obtain ⟨bb, Ab, cb', lb, Db, db, mb, rfl⟩ := hb'.shape
 obtain ⟨bc, Ac, cc', lc, Dc, dc, mc, rfl⟩ := f82.shape
 clear ha hb'
 have HS0 := h82
 refine wpAnyH_take (i := 7) (v := ?_) rfl (by kernel_rfl) (by kernel_rfl) (by kernel_rfl) (fun _ _ _ h => h) (Or.inl ⟨by rfl, ?_⟩) HS0 ?_
 rotate_left
 · intro W hW; (try dsimp only at hW); go_simp; try (with_reducible rfl)

 clear HS0
 have HS0 := h82
 refine wpAnyH_take (i := 8) (v := ?_) rfl (by kernel_rfl) (by kernel_rfl) (by kernel_rfl) (fun _ _ _ h => h) (Or.inl ⟨by rfl, ?_⟩) HS0 ?_
 rotate_left
 · intro W hW; (try dsimp only at hW); go_simp; try (with_reducible rfl)

 clear HS0
 have HS0 := h82
 refine wpAnyH_take (i := 9) (v := ?_) rfl (by kernel_rfl) (by kernel_rfl) (by kernel_rfl) (fun _ _ _ h => h) (Or.inl ⟨by rfl, ?_⟩) HS0 ?_
 rotate_left
 · intro W hW; (try dsimp only at hW); go_simp; try (with_reducible rfl)

 clear HS0
 have HS0 := h82
 refine wpAnyH_take (i := 10) (v := ?_) rfl (by kernel_rfl) (by kernel_rfl) (by kernel_rfl) (fun _ _ _ h => h) (Or.inl ⟨by rfl, ?_⟩) HS0 ?_
 rotate_left
 · intro W hW; (try dsimp only at hW); go_simp; try (with_reducible rfl)

 clear HS0
 refine run_one (i := 13) (by kernel_rfl) rfl rfl ?_
 intro K hK
 obtain ⟨X83, hX, b83, g83⟩ := tri_al X82
 have h83 := below_next h82 b83
 refine wp_val (v := .pointer (some ⟨X82.heap.size, 0, none⟩)) (w' := X83) (by rw [hX]; kernel_rfl) ?_
 refine hK.out _ _ h83 ?_
 clear hK K hX
 intro _
 have g0 := (FBox.on (FBox.on g81 b82) b83)
 obtain ⟨k0, k1, k2, y0, y1, y2, hlt⟩ := FBox.facts g0
 obtain ⟨X84, hY, h84, v84, p84, s84⟩ := tri_st (b := ba) (A1 := Aa) (c1 := ca') (l1 := la) (A2 := Da) (c2 := da) (l2 := ma) g0 h83 h69.size
 refine run_one (i := 14) (by kernel_rfl) rfl rfl ?_
 intro K hK
 go_simp
 rw [← hY]
 refine hK.out _ _ h84 ?_
 clear hK K k0 k1 k2 y0 y1 y2 hlt hY g0
 intro _
 have g0 := (p84 _ (Nat.ne_of_lt (heap_lt g69)) (FBox.on (FBox.on (FBox.on g69 b81) b82) b83))
 obtain ⟨k0, k1, k2, y0, y1, y2, hlt⟩ := FBox.facts g0
 obtain ⟨X85, hY, h85, v85, p85, s85⟩ := tri_st (b := bb) (A1 := Ab) (c1 := cb') (l1 := lb) (A2 := Db) (c2 := db) (l2 := mb) g0 h84 hb0.size
 refine run_one (i := 15) (by kernel_rfl) rfl rfl ?_
 intro K hK
 go_simp
 rw [← hY]
 refine hK.out _ _ h85 ?_
 clear hK K k0 k1 k2 y0 y1 y2 hlt hY g0
 intro _
 have g0 := (p85 _ (Ne.symm (Nat.ne_of_lt (heap_lt (FBox.on (FBox.on g69 b81) b82)))) (p84 _ (Ne.symm (Nat.ne_of_lt (heap_lt (FBox.on g81 b82)))) g83))
 obtain ⟨k0, k1, k2, y0, y1, y2, hlt⟩ := FBox.facts g0
 obtain ⟨X86, hY, h86, v86, p86, s86⟩ := tri_st (b := bc) (A1 := Ac) (c1 := cc') (l1 := lc) (A2 := Dc) (c2 := dc) (l2 := mc) g0 h85 h82.size
 refine run_one (i := 16) (by kernel_rfl) rfl rfl ?_
 intro K hK
 go_simp
 rw [← hY]
 refine hK.out _ _ h86 ?_
 clear hK K k0 k1 k2 y0 y1 y2 hlt hY g0
 intro _
 refine wpAnyH_done (by kernel_rfl) ?_ _
 refine NoPanic.normal ?_
 go_wp2_with fail
 go_meet
 exact ⟨X82.heap.size, rfl, h82.size, (s86 _ (v85 _ _ (v84 _ _ (FracR.on f82 b83)))), h86⟩
 }
 refine AllReadyH.cons rfl (fun K hK => ?_) ?_
 {
 obtain ⟨X87, hX, b87, g87⟩ := tri_al X81
 have h87 := below_next h81 b87
 refine wp_val (v := .pointer (some ⟨X81.heap.size, 0, none⟩)) (w' := X87) (by rw [hX]; kernel_rfl) ?_
 refine hK.out _ _ h87 ?_
 clear hK K hX
 intro _
 refine run_one (i := 6) (by kernel_rfl) rfl rfl ?_
 intro K hK
 refine wp_call (HFT2q.out X87 h87) (by kernel_rfl) ?_
 rintro e X88 ⟨_, _, _, rfl, ha, hb', f88, b88⟩
 have h88 := below_next h87 b88
 refine ⟨_, rfl, hK.out _ _ h88 ?_⟩
 clear hK K
 intro _
 obtain ⟨ba, Aa, ca', la, Da, da, ma, rfl⟩ := ha.shape
 obtain ⟨bb, Ab, cb', lb, Db, db, mb, rfl⟩ := hb'.shape
 obtain ⟨bc, Ac, cc', lc, Dc, dc, mc, rfl⟩ := f88.shape
 clear ha hb'
 have HS0 := h88
 refine wpAnyH_take (i := 7) (v := ?_) rfl (by kernel_rfl) (by kernel_rfl) (by kernel_rfl) (fun _ _ _ h => h) (Or.inl ⟨by rfl, ?_⟩) HS0 ?_
 rotate_left
 · intro W hW; (try dsimp only at hW); go_simp; try (with_reducible rfl)

 clear HS0
 have HS0 := h88
 refine wpAnyH_take (i := 8) (v := ?_) rfl (by kernel_rfl) (by kernel_rfl) (by kernel_rfl) (fun _ _ _ h => h) (Or.inl ⟨by rfl, ?_⟩) HS0 ?_
 rotate_left
 · intro W hW; (try dsimp only at hW); go_simp; try (with_reducible rfl)

 clear HS0
 have HS0 := h88
 refine wpAnyH_take (i := 9) (v := ?_) rfl (by kernel_rfl) (by kernel_rfl) (by kernel_rfl) (fun _ _ _ h => h) (Or.inl ⟨by rfl, ?_⟩) HS0 ?_
 rotate_left
 · intro W hW; (try dsimp only at hW); go_simp; try (with_reducible rfl)

 clear HS0
 have HS0 := h88
 refine wpAnyH_take (i := 10) (v := ?_) rfl (by kernel_rfl) (by kernel_rfl) (by kernel_rfl) (fun _ _ _ h => h) (Or.inl ⟨by rfl, ?_⟩) HS0 ?_
 rotate_left
 · intro W hW; (try dsimp only at hW); go_simp; try (with_reducible rfl)

 clear HS0
 have g0 := (FBox.on (FBox.on g81 b87) b88)
 obtain ⟨k0, k1, k2, y0, y1, y2, hlt⟩ := FBox.facts g0
 obtain ⟨X89, hY, h89, v89, p89, s89⟩ := tri_st (b := ba) (A1 := Aa) (c1 := ca') (l1 := la) (A2 := Da) (c2 := da) (l2 := ma) g0 h88 h69.size
 refine run_one (i := 14) (by kernel_rfl) rfl rfl ?_
 intro K hK
 go_simp
 rw [← hY]
 refine hK.out _ _ h89 ?_
 clear hK K k0 k1 k2 y0 y1 y2 hlt hY g0
 intro _
 have g0 := (p89 _ (Nat.ne_of_lt (heap_lt g69)) (FBox.on (FBox.on (FBox.on g69 b81) b87) b88))
 obtain ⟨k0, k1, k2, y0, y1, y2, hlt⟩ := FBox.facts g0
 obtain ⟨X90, hY, h90, v90, p90, s90⟩ := tri_st (b := bb) (A1 := Ab) (c1 := cb') (l1 := lb) (A2 := Db) (c2 := db) (l2 := mb) g0 h89 hb0.size
 refine run_one (i := 15) (by kernel_rfl) rfl rfl ?_
 intro K hK
 go_simp
 rw [← hY]
 refine hK.out _ _ h90 ?_
 clear hK K k0 k1 k2 y0 y1 y2 hlt hY g0
 intro _
 have g0 := (p90 _ (Ne.symm (Nat.ne_of_lt (heap_lt (FBox.on g69 b81)))) (p89 _ (Ne.symm (Nat.ne_of_lt (heap_lt g81))) (FBox.on g87 b88)))
 obtain ⟨k0, k1, k2, y0, y1, y2, hlt⟩ := FBox.facts g0
 obtain ⟨X91, hY, h91, v91, p91, s91⟩ := tri_st (b := bc) (A1 := Ac) (c1 := cc') (l1 := lc) (A2 := Dc) (c2 := dc) (l2 := mc) g0 h90 h81.size
 refine run_one (i := 16) (by kernel_rfl) rfl rfl ?_
 intro K hK
 go_simp
 rw [← hY]
 refine hK.out _ _ h91 ?_
 clear hK K k0 k1 k2 y0 y1 y2 hlt hY g0
 intro _
 refine wpAnyH_done (by kernel_rfl) ?_ _
 refine NoPanic.normal ?_
 go_wp2_with fail
 go_meet
 exact ⟨X81.heap.size, rfl, h81.size, (s91 _ (v90 _ _ (v89 _ _ f88))), h91⟩
 }
 exact AllReadyH.nil
 }
 refine AllReadyH.cons rfl (fun K hK => ?_) ?_
 {
 obtain ⟨X92, hX, b92, g92⟩ := tri_al X69
 have h92 := below_next h69 b92
 refine wp_val (v := .pointer (some ⟨X69.heap.size, 0, none⟩)) (w' := X92) (by rw [hX]; kernel_rfl) ?_
 refine hK.out _ _ h92 ?_
 clear hK K hX
 intro _
 refine wpAnyH_ready (rs := [6, 11]) (by kernel_rfl) (by simp) ?_
 refine AllReadyH.cons rfl (fun K hK => ?_) ?_
 {
 refine wp_call (HFT2q.out X92 h92) (by kernel_rfl) ?_
 rintro e X93 ⟨_, _, _, rfl, ha, hb', f93, b93⟩
 have h93 := below_next h92 b93
 refine ⟨_, rfl, hK.out _ _ h93 ?_⟩
 clear hK K
 intro _
 obtain ⟨ba, Aa, ca', la, Da, da, ma, rfl⟩ := ha.shape
 obtain ⟨bb, Ab, cb', lb, Db, db, mb, rfl⟩ := hb'.shape
 obtain ⟨bc, Ac, cc', lc, Dc, dc, mc, rfl⟩ := f93.shape
 clear ha hb'
 have HS0 := h93
 refine wpAnyH_take (i := 7) (v := ?_) rfl (by kernel_rfl) (by kernel_rfl) (by kernel_rfl) (fun _ _ _ h => h) (Or.inl ⟨by rfl, ?_⟩) HS0 ?_
 rotate_left
 · intro W hW; (try dsimp only at hW); go_simp; try (with_reducible rfl)

 clear HS0
 have HS0 := h93
 refine wpAnyH_take (i := 8) (v := ?_) rfl (by kernel_rfl) (by kernel_rfl) (by kernel_rfl) (fun _ _ _ h => h) (Or.inl ⟨by rfl, ?_⟩) HS0 ?_
 rotate_left
 · intro W hW; (try dsimp only at hW); go_simp; try (with_reducible rfl)

 clear HS0
 have HS0 := h93
 refine wpAnyH_take (i := 9) (v := ?_) rfl (by kernel_rfl) (by kernel_rfl) (by kernel_rfl) (fun _ _ _ h => h) (Or.inl ⟨by rfl, ?_⟩) HS0 ?_
 rotate_left
 · intro W hW; (try dsimp only at hW); go_simp; try (with_reducible rfl)

 clear HS0
 have HS0 := h93
 refine wpAnyH_take (i := 10) (v := ?_) rfl (by kernel_rfl) (by kernel_rfl) (by kernel_rfl) (fun _ _ _ h => h) (Or.inl ⟨by rfl, ?_⟩) HS0 ?_
 rotate_left
 · intro W hW; (try dsimp only at hW); go_simp; try (with_reducible rfl)

 clear HS0
 refine run_one (i := 11) (by kernel_rfl) rfl rfl ?_
 intro K hK
 obtain ⟨X94, hX, b94, g94⟩ := tri_al X93
 have h94 := below_next h93 b94
 refine wp_val (v := .pointer (some ⟨X93.heap.size, 0, none⟩)) (w' := X94) (by rw [hX]; kernel_rfl) ?_
 refine hK.out _ _ h94 ?_
 clear hK K hX
 intro _
 have g0 := g94
 obtain ⟨k0, k1, k2, y0, y1, y2, hlt⟩ := FBox.facts g0
 obtain ⟨X95, hY, h95, v95, p95, s95⟩ := tri_st (b := ba) (A1 := Aa) (c1 := ca') (l1 := la) (A2 := Da) (c2 := da) (l2 := ma) g0 h94 h93.size
 refine run_one (i := 14) (by kernel_rfl) rfl rfl ?_
 intro K hK
 go_simp
 rw [← hY]
 refine hK.out _ _ h95 ?_
 clear hK K k0 k1 k2 y0 y1 y2 hlt hY g0
 intro _
 have g0 := (p95 _ (Nat.ne_of_lt (heap_lt (FBox.on (FBox.on g69 b92) b93))) (FBox.on (FBox.on (FBox.on g69 b92) b93) b94))
 obtain ⟨k0, k1, k2, y0, y1, y2, hlt⟩ := FBox.facts g0
 obtain ⟨X96, hY, h96, v96, p96, s96⟩ := tri_st (b := bb) (A1 := Ab) (c1 := cb') (l1 := lb) (A2 := Db) (c2 := db) (l2 := mb) g0 h95 hb0.size
 refine run_one (i := 15) (by kernel_rfl) rfl rfl ?_
 intro K hK
 go_simp
 rw [← hY]
 refine hK.out _ _ h96 ?_
 clear hK K k0 k1 k2 y0 y1 y2 hlt hY g0
 intro _
 have g0 := (p96 _ (Ne.symm (Nat.ne_of_lt (heap_lt g69))) (p95 _ (Nat.ne_of_lt (heap_lt (FBox.on g92 b93))) (FBox.on (FBox.on g92 b93) b94)))
 obtain ⟨k0, k1, k2, y0, y1, y2, hlt⟩ := FBox.facts g0
 obtain ⟨X97, hY, h97, v97, p97, s97⟩ := tri_st (b := bc) (A1 := Ac) (c1 := cc') (l1 := lc) (A2 := Dc) (c2 := dc) (l2 := mc) g0 h96 h69.size
 refine run_one (i := 16) (by kernel_rfl) rfl rfl ?_
 intro K hK
 go_simp
 rw [← hY]
 refine hK.out _ _ h97 ?_
 clear hK K k0 k1 k2 y0 y1 y2 hlt hY g0
 intro _
 refine wpAnyH_done (by kernel_rfl) ?_ _
 refine NoPanic.normal ?_
 go_wp2_with fail
 go_meet
 exact ⟨X69.heap.size, rfl, h69.size, (s97 _ (v96 _ _ (v95 _ _ (FracR.on f93 b94)))), h97⟩
 }
 refine AllReadyH.cons rfl (fun K hK => ?_) ?_
 {
 obtain ⟨X98, hX, b98, g98⟩ := tri_al X92
 have h98 := below_next h92 b98
 refine wp_val (v := .pointer (some ⟨X92.heap.size, 0, none⟩)) (w' := X98) (by rw [hX]; kernel_rfl) ?_
 refine hK.out _ _ h98 ?_
 clear hK K hX
 intro _
 refine run_one (i := 6) (by kernel_rfl) rfl rfl ?_
 intro K hK
 refine wp_call (HFT2q.out X98 h98) (by kernel_rfl) ?_
 rintro e X99 ⟨_, _, _, rfl, ha, hb', f99, b99⟩
 have h99 := below_next h98 b99
 refine ⟨_, rfl, hK.out _ _ h99 ?_⟩
 clear hK K
 intro _
 obtain ⟨ba, Aa, ca', la, Da, da, ma, rfl⟩ := ha.shape
 obtain ⟨bb, Ab, cb', lb, Db, db, mb, rfl⟩ := hb'.shape
 obtain ⟨bc, Ac, cc', lc, Dc, dc, mc, rfl⟩ := f99.shape
 clear ha hb'
 have HS0 := h99
 refine wpAnyH_take (i := 7) (v := ?_) rfl (by kernel_rfl) (by kernel_rfl) (by kernel_rfl) (fun _ _ _ h => h) (Or.inl ⟨by rfl, ?_⟩) HS0 ?_
 rotate_left
 · intro W hW; (try dsimp only at hW); go_simp; try (with_reducible rfl)

 clear HS0
 have HS0 := h99
 refine wpAnyH_take (i := 8) (v := ?_) rfl (by kernel_rfl) (by kernel_rfl) (by kernel_rfl) (fun _ _ _ h => h) (Or.inl ⟨by rfl, ?_⟩) HS0 ?_
 rotate_left
 · intro W hW; (try dsimp only at hW); go_simp; try (with_reducible rfl)

 clear HS0
 have HS0 := h99
 refine wpAnyH_take (i := 9) (v := ?_) rfl (by kernel_rfl) (by kernel_rfl) (by kernel_rfl) (fun _ _ _ h => h) (Or.inl ⟨by rfl, ?_⟩) HS0 ?_
 rotate_left
 · intro W hW; (try dsimp only at hW); go_simp; try (with_reducible rfl)

 clear HS0
 have HS0 := h99
 refine wpAnyH_take (i := 10) (v := ?_) rfl (by kernel_rfl) (by kernel_rfl) (by kernel_rfl) (fun _ _ _ h => h) (Or.inl ⟨by rfl, ?_⟩) HS0 ?_
 rotate_left
 · intro W hW; (try dsimp only at hW); go_simp; try (with_reducible rfl)

 clear HS0
 have g0 := (FBox.on g98 b99)
 obtain ⟨k0, k1, k2, y0, y1, y2, hlt⟩ := FBox.facts g0
 obtain ⟨X100, hY, h100, v100, p100, s100⟩ := tri_st (b := ba) (A1 := Aa) (c1 := ca') (l1 := la) (A2 := Da) (c2 := da) (l2 := ma) g0 h99 h92.size
 refine run_one (i := 14) (by kernel_rfl) rfl rfl ?_
 intro K hK
 go_simp
 rw [← hY]
 refine hK.out _ _ h100 ?_
 clear hK K k0 k1 k2 y0 y1 y2 hlt hY g0
 intro _
 have g0 := (p100 _ (Nat.ne_of_lt (heap_lt (FBox.on g69 b92))) (FBox.on (FBox.on (FBox.on g69 b92) b98) b99))
 obtain ⟨k0, k1, k2, y0, y1, y2, hlt⟩ := FBox.facts g0
 obtain ⟨X101, hY, h101, v101, p101, s101⟩ := tri_st (b := bb) (A1 := Ab) (c1 := cb') (l1 := lb) (A2 := Db) (c2 := db) (l2 := mb) g0 h100 hb0.size
 refine run_one (i := 15) (by kernel_rfl) rfl rfl ?_
 intro K hK
 go_simp
 rw [← hY]
 refine hK.out _ _ h101 ?_
 clear hK K k0 k1 k2 y0 y1 y2 hlt hY g0
 intro _
 have g0 := (p101 _ (Ne.symm (Nat.ne_of_lt (heap_lt g69))) (p100 _ (Nat.ne_of_lt (heap_lt g92)) (FBox.on (FBox.on g92 b98) b99)))
 obtain ⟨k0, k1, k2, y0, y1, y2, hlt⟩ := FBox.facts g0
 obtain ⟨X102, hY, h102, v102, p102, s102⟩ := tri_st (b := bc) (A1 := Ac) (c1 := cc') (l1 := lc) (A2 := Dc) (c2 := dc) (l2 := mc) g0 h101 h69.size
 refine run_one (i := 16) (by kernel_rfl) rfl rfl ?_
 intro K hK
 go_simp
 rw [← hY]
 refine hK.out _ _ h102 ?_
 clear hK K k0 k1 k2 y0 y1 y2 hlt hY g0
 intro _
 refine wpAnyH_done (by kernel_rfl) ?_ _
 refine NoPanic.normal ?_
 go_wp2_with fail
 go_meet
 exact ⟨X69.heap.size, rfl, h69.size, (s102 _ (v101 _ _ (v100 _ _ f99))), h102⟩
 }
 exact AllReadyH.nil
 }
 exact AllReadyH.nil
 }
 refine AllReadyH.cons rfl (fun K hK => ?_) ?_
 {
 obtain ⟨X103, hX, b103, g103⟩ := tri_al X0
 have h103 := below_next hb0 b103
 refine wp_val (v := .pointer (some ⟨X0.heap.size, 0, none⟩)) (w' := X103) (by rw [hX]; kernel_rfl) ?_
 refine hK.out _ _ h103 ?_
 clear hK K hX
 intro _
 refine wpAnyH_ready (rs := [6, 11, 12]) (by kernel_rfl) (by simp) ?_
 refine AllReadyH.cons rfl (fun K hK => ?_) ?_
 {
 refine wp_call (HFT2q.out X103 h103) (by kernel_rfl) ?_
 rintro e X104 ⟨_, _, _, rfl, ha, hb', f104, b104⟩
 have h104 := below_next h103 b104
 refine ⟨_, rfl, hK.out _ _ h104 ?_⟩
 clear hK K
 intro _
 obtain ⟨ba, Aa, ca', la, Da, da, ma, rfl⟩ := ha.shape
 obtain ⟨bb, Ab, cb', lb, Db, db, mb, rfl⟩ := hb'.shape
 obtain ⟨bc, Ac, cc', lc, Dc, dc, mc, rfl⟩ := f104.shape
 clear ha hb'
 have HS0 := h104
 refine wpAnyH_take (i := 7) (v := ?_) rfl (by kernel_rfl) (by kernel_rfl) (by kernel_rfl) (fun _ _ _ h => h) (Or.inl ⟨by rfl, ?_⟩) HS0 ?_
 rotate_left
 · intro W hW; (try dsimp only at hW); go_simp; try (with_reducible rfl)

 clear HS0
 have HS0 := h104
 refine wpAnyH_take (i := 8) (v := ?_) rfl (by kernel_rfl) (by kernel_rfl) (by kernel_rfl) (fun _ _ _ h => h) (Or.inl ⟨by rfl, ?_⟩) HS0 ?_
 rotate_left
 · intro W hW; (try dsimp only at hW); go_simp; try (with_reducible rfl)

 clear HS0
 have HS0 := h104
 refine wpAnyH_take (i := 9) (v := ?_) rfl (by kernel_rfl) (by kernel_rfl) (by kernel_rfl) (fun _ _ _ h => h) (Or.inl ⟨by rfl, ?_⟩) HS0 ?_
 rotate_left
 · intro W hW; (try dsimp only at hW); go_simp; try (with_reducible rfl)

 clear HS0
 have HS0 := h104
 refine wpAnyH_take (i := 10) (v := ?_) rfl (by kernel_rfl) (by kernel_rfl) (by kernel_rfl) (fun _ _ _ h => h) (Or.inl ⟨by rfl, ?_⟩) HS0 ?_
 rotate_left
 · intro W hW; (try dsimp only at hW); go_simp; try (with_reducible rfl)

 clear HS0
 refine wpAnyH_ready (rs := [11, 12]) (by kernel_rfl) (by simp) ?_
 refine AllReadyH.cons rfl (fun K hK => ?_) ?_
 {
 obtain ⟨X105, hX, b105, g105⟩ := tri_al X104
 have h105 := below_next h104 b105
 refine wp_val (v := .pointer (some ⟨X104.heap.size, 0, none⟩)) (w' := X105) (by rw [hX]; kernel_rfl) ?_
 refine hK.out _ _ h105 ?_
 clear hK K hX
 intro _
 refine run_one (i := 12) (by kernel_rfl) rfl rfl ?_
 intro K hK
 obtain ⟨X106, hX, b106, g106⟩ := tri_al X105
 have h106 := below_next h105 b106
 refine wp_val (v := .pointer (some ⟨X105.heap.size, 0, none⟩)) (w' := X106) (by rw [hX]; kernel_rfl) ?_
 refine hK.out _ _ h106 ?_
 clear hK K hX
 intro _
 have g0 := (FBox.on g105 b106)
 obtain ⟨k0, k1, k2, y0, y1, y2, hlt⟩ := FBox.facts g0
 obtain ⟨X107, hY, h107, v107, p107, s107⟩ := tri_st (b := ba) (A1 := Aa) (c1 := ca') (l1 := la) (A2 := Da) (c2 := da) (l2 := ma) g0 h106 h104.size
 refine run_one (i := 14) (by kernel_rfl) rfl rfl ?_
 intro K hK
 go_simp
 rw [← hY]
 refine hK.out _ _ h107 ?_
 clear hK K k0 k1 k2 y0 y1 y2 hlt hY g0
 intro _
 have g0 := (p107 _ (Ne.symm (Nat.ne_of_lt (heap_lt g105))) g106)
 obtain ⟨k0, k1, k2, y0, y1, y2, hlt⟩ := FBox.facts g0
 obtain ⟨X108, hY, h108, v108, p108, s108⟩ := tri_st (b := bb) (A1 := Ab) (c1 := cb') (l1 := lb) (A2 := Db) (c2 := db) (l2 := mb) g0 h107 h105.size
 refine run_one (i := 15) (by kernel_rfl) rfl rfl ?_
 intro K hK
 go_simp
 rw [← hY]
 refine hK.out _ _ h108 ?_
 clear hK K k0 k1 k2 y0 y1 y2 hlt hY g0
 intro _
 have g0 := (p108 _ (Nat.ne_of_lt (heap_lt (FBox.on (FBox.on g103 b104) b105))) (p107 _ (Nat.ne_of_lt (heap_lt (FBox.on g103 b104))) (FBox.on (FBox.on (FBox.on g103 b104) b105) b106)))
 obtain ⟨k0, k1, k2, y0, y1, y2, hlt⟩ := FBox.facts g0
 obtain ⟨X109, hY, h109, v109, p109, s109⟩ := tri_st (b := bc) (A1 := Ac) (c1 := cc') (l1 := lc) (A2 := Dc) (c2 := dc) (l2 := mc) g0 h108 hb0.size
 refine run_one (i := 16) (by kernel_rfl) rfl rfl ?_
 intro K hK
 go_simp
 rw [← hY]
 refine hK.out _ _ h109 ?_
 clear hK K k0 k1 k2 y0 y1 y2 hlt hY g0
 intro _
 refine wpAnyH_done (by kernel_rfl) ?_ _
 refine NoPanic.normal ?_
 go_wp2_with fail
 go_meet
 exact ⟨X0.heap.size, rfl, hb0.size, (s109 _ (v108 _ _ (v107 _ _ (FracR.on (FracR.on f104 b105) b106)))), h109⟩
 }
 refine AllReadyH.cons rfl (fun K hK => ?_) ?_
 {
 obtain ⟨X110, hX, b110, g110⟩ := tri_al X104
 have h110 := below_next h104 b110
 refine wp_val (v := .pointer (some ⟨X104.heap.size, 0, none⟩)) (w' := X110) (by rw [hX]; kernel_rfl) ?_
 refine hK.out _ _ h110 ?_
 clear hK K hX
 intro _
 refine run_one (i := 11) (by kernel_rfl) rfl rfl ?_
 intro K hK
 obtain ⟨X111, hX, b111, g111⟩ := tri_al X110
 have h111 := below_next h110 b111
 refine wp_val (v := .pointer (some ⟨X110.heap.size, 0, none⟩)) (w' := X111) (by rw [hX]; kernel_rfl) ?_
 refine hK.out _ _ h111 ?_
 clear hK K hX
 intro _
 have g0 := g111
 obtain ⟨k0, k1, k2, y0, y1, y2, hlt⟩ := FBox.facts g0
 obtain ⟨X112, hY, h112, v112, p112, s112⟩ := tri_st (b := ba) (A1 := Aa) (c1 := ca') (l1 := la) (A2 := Da) (c2 := da) (l2 := ma) g0 h111 h110.size
 refine run_one (i := 14) (by kernel_rfl) rfl rfl ?_
 intro K hK
 go_simp
 rw [← hY]
 refine hK.out _ _ h112 ?_
 clear hK K k0 k1 k2 y0 y1 y2 hlt hY g0
 intro _
 have g0 := (p112 _ (Nat.ne_of_lt (heap_lt g110)) (FBox.on g110 b111))
 obtain ⟨k0, k1, k2, y0, y1, y2, hlt⟩ := FBox.facts g0
 obtain ⟨X113, hY, h113, v113, p113, s113⟩ := tri_st (b := bb) (A1 := Ab) (c1 := cb') (l1 := lb) (A2 := Db) (c2 := db) (l2 := mb) g0 h112 h104.size
 refine run_one (i := 15) (by kernel_rfl) rfl rfl ?_
 intro K hK
 go_simp
 rw [← hY]
 refine hK.out _ _ h113 ?_
 clear hK K k0 k1 k2 y0 y1 y2 hlt hY g0
 intro _
 have g0 := (p113 _ (Nat.ne_of_lt (heap_lt (FBox.on g103 b104))) (p112 _ (Nat.ne_of_lt (heap_lt (FBox.on (FBox.on g103 b104) b110))) (FBox.on (FBox.on (FBox.on g103 b104) b110) b111)))
 obtain ⟨k0, k1, k2, y0, y1, y2, hlt⟩ := FBox.facts g0
 obtain ⟨X114, hY, h114, v114, p114, s114⟩ := tri_st (b := bc) (A1 := Ac) (c1 := cc') (l1 := lc) (A2 := Dc) (c2 := dc) (l2 := mc) g0 h113 hb0.size
 refine run_one (i := 16) (by kernel_rfl) rfl rfl ?_
 intro K hK
 go_simp
 rw [← hY]
 refine hK.out _ _ h114 ?_
 clear hK K k0 k1 k2 y0 y1 y2 hlt hY g0
 intro _
 refine wpAnyH_done (by kernel_rfl) ?_ _
 refine NoPanic.normal ?_
 go_wp2_with fail
 go_meet
 exact ⟨X0.heap.size, rfl, hb0.size, (s114 _ (v113 _ _ (v112 _ _ (FracR.on (FracR.on f104 b110) b111)))), h114⟩
 }
 exact AllReadyH.nil
 }
 refine AllReadyH.cons rfl (fun K hK => ?_) ?_
 {
 obtain ⟨X115, hX, b115, g115⟩ := tri_al X103
 have h115 := below_next h103 b115
 refine wp_val (v := .pointer (some ⟨X103.heap.size, 0, none⟩)) (w' := X115) (by rw [hX]; kernel_rfl) ?_
 refine hK.out _ _ h115 ?_
 clear hK K hX
 intro _
 refine wpAnyH_ready (rs := [6, 12]) (by kernel_rfl) (by simp) ?_
 refine AllReadyH.cons rfl (fun K hK => ?_) ?_
 {
 refine wp_call (HFT2q.out X115 h115) (by kernel_rfl) ?_
 rintro e X116 ⟨_, _, _, rfl, ha, hb', f116, b116⟩
 have h116 := below_next h115 b116
 refine ⟨_, rfl, hK.out _ _ h116 ?_⟩
 clear hK K
 intro _
 obtain ⟨ba, Aa, ca', la, Da, da, ma, rfl⟩ := ha.shape
 obtain ⟨bb, Ab, cb', lb, Db, db, mb, rfl⟩ := hb'.shape
 obtain ⟨bc, Ac, cc', lc, Dc, dc, mc, rfl⟩ := f116.shape
 clear ha hb'
 have HS0 := h116
 refine wpAnyH_take (i := 7) (v := ?_) rfl (by kernel_rfl) (by kernel_rfl) (by kernel_rfl) (fun _ _ _ h => h) (Or.inl ⟨by rfl, ?_⟩) HS0 ?_
 rotate_left
 · intro W hW; (try dsimp only at hW); go_simp; try (with_reducible rfl)

 clear HS0
 have HS0 := h116
 refine wpAnyH_take (i := 8) (v := ?_) rfl (by kernel_rfl) (by kernel_rfl) (by kernel_rfl) (fun _ _ _ h => h) (Or.inl ⟨by rfl, ?_⟩) HS0 ?_
 rotate_left
 · intro W hW; (try dsimp only at hW); go_simp; try (with_reducible rfl)

 clear HS0
 have HS0 := h116
 refine wpAnyH_take (i := 9) (v := ?_) rfl (by kernel_rfl) (by kernel_rfl) (by kernel_rfl) (fun _ _ _ h => h) (Or.inl ⟨by rfl, ?_⟩) HS0 ?_
 rotate_left
 · intro W hW; (try dsimp only at hW); go_simp; try (with_reducible rfl)

 clear HS0
 have HS0 := h116
 refine wpAnyH_take (i := 10) (v := ?_) rfl (by kernel_rfl) (by kernel_rfl) (by kernel_rfl) (fun _ _ _ h => h) (Or.inl ⟨by rfl, ?_⟩) HS0 ?_
 rotate_left
 · intro W hW; (try dsimp only at hW); go_simp; try (with_reducible rfl)

 clear HS0
 refine run_one (i := 12) (by kernel_rfl) rfl rfl ?_
 intro K hK
 obtain ⟨X117, hX, b117, g117⟩ := tri_al X116
 have h117 := below_next h116 b117
 refine wp_val (v := .pointer (some ⟨X116.heap.size, 0, none⟩)) (w' := X117) (by rw [hX]; kernel_rfl) ?_
 refine hK.out _ _ h117 ?_
 clear hK K hX
 intro _
 have g0 := (FBox.on (FBox.on g115 b116) b117)
 obtain ⟨k0, k1, k2, y0, y1, y2, hlt⟩ := FBox.facts g0
 obtain ⟨X118, hY, h118, v118, p118, s118⟩ := tri_st (b := ba) (A1 := Aa) (c1 := ca') (l1 := la) (A2 := Da) (c2 := da) (l2 := ma) g0 h117 h103.size
 refine run_one (i := 14) (by kernel_rfl) rfl rfl ?_
 intro K hK
 go_simp
 rw [← hY]
 refine hK.out _ _ h118 ?_
 clear hK K k0 k1 k2 y0 y1 y2 hlt hY g0
 intro _
 have g0 := (p118 _ (Ne.symm (Nat.ne_of_lt (heap_lt (FBox.on g115 b116)))) g117)
 obtain ⟨k0, k1, k2, y0, y1, y2, hlt⟩ := FBox.facts g0
 obtain ⟨X119, hY, h119, v119, p119, s119⟩ := tri_st (b := bb) (A1 := Ab) (c1 := cb') (l1 := lb) (A2 := Db) (c2 := db) (l2 := mb) g0 h118 h116.size
 refine run_one (i := 15) (by kernel_rfl) rfl rfl ?_
 intro K hK
 go_simp
 rw [← hY]
 refine hK.out _ _ h119 ?_
 clear hK K k0 k1 k2 y0 y1 y2 hlt hY g0
 intro _
 have g0 := (p119 _ (Nat.ne_of_lt (heap_lt (FBox.on (FBox.on g103 b115) b116))) (p118 _ (Nat.ne_of_lt (heap_lt g103)) (FBox.on (FBox.on (FBox.on g103 b115) b116) b117)))
 obtain ⟨k0, k1, k2, y0, y1, y2, hlt⟩ := FBox.facts g0
 obtain ⟨X120, hY, h120, v120, p120, s120⟩ := tri_st (b := bc) (A1 := Ac) (c1 := cc') (l1 := lc) (A2 := Dc) (c2 := dc) (l2 := mc) g0 h119 hb0.size
 refine run_one (i := 16) (by kernel_rfl) rfl rfl ?_
 intro K hK
 go_simp
 rw [← hY]
 refine hK.out _ _ h120 ?_
 clear hK K k0 k1 k2 y0 y1 y2 hlt hY g0
 intro _
 refine wpAnyH_done (by kernel_rfl) ?_ _
 refine NoPanic.normal ?_
 go_wp2_with fail
 go_meet
 exact ⟨X0.heap.size, rfl, hb0.size, (s120 _ (v119 _ _ (v118 _ _ (FracR.on f116 b117)))), h120⟩
 }
 refine AllReadyH.cons rfl (fun K hK => ?_) ?_
 {
 obtain ⟨X121, hX, b121, g121⟩ := tri_al X115
 have h121 := below_next h115 b121
 refine wp_val (v := .pointer (some ⟨X115.heap.size, 0, none⟩)) (w' := X121) (by rw [hX]; kernel_rfl) ?_
 refine hK.out _ _ h121 ?_
 clear hK K hX
 intro _
 refine run_one (i := 6) (by kernel_rfl) rfl rfl ?_
 intro K hK
 refine wp_call (HFT2q.out X121 h121) (by kernel_rfl) ?_
 rintro e X122 ⟨_, _, _, rfl, ha, hb', f122, b122⟩
 have h122 := below_next h121 b122
 refine ⟨_, rfl, hK.out _ _ h122 ?_⟩
 clear hK K
 intro _
 obtain ⟨ba, Aa, ca', la, Da, da, ma, rfl⟩ := ha.shape
 obtain ⟨bb, Ab, cb', lb, Db, db, mb, rfl⟩ := hb'.shape
 obtain ⟨bc, Ac, cc', lc, Dc, dc, mc, rfl⟩ := f122.shape
 clear ha hb'
 have HS0 := h122
 refine wpAnyH_take (i := 7) (v := ?_) rfl (by kernel_rfl) (by kernel_rfl) (by kernel_rfl) (fun _ _ _ h => h) (Or.inl ⟨by rfl, ?_⟩) HS0 ?_
 rotate_left
 · intro W hW; (try dsimp only at hW); go_simp; try (with_reducible rfl)

 clear HS0
 have HS0 := h122
 refine wpAnyH_take (i := 8) (v := ?_) rfl (by kernel_rfl) (by kernel_rfl) (by kernel_rfl) (fun _ _ _ h => h) (Or.inl ⟨by rfl, ?_⟩) HS0 ?_
 rotate_left
 · intro W hW; (try dsimp only at hW); go_simp; try (with_reducible rfl)

 clear HS0
 have HS0 := h122
 refine wpAnyH_take (i := 9) (v := ?_) rfl (by kernel_rfl) (by kernel_rfl) (by kernel_rfl) (fun _ _ _ h => h) (Or.inl ⟨by rfl, ?_⟩) HS0 ?_
 rotate_left
 · intro W hW; (try dsimp only at hW); go_simp; try (with_reducible rfl)

 clear HS0
 have HS0 := h122
 refine wpAnyH_take (i := 10) (v := ?_) rfl (by kernel_rfl) (by kernel_rfl) (by kernel_rfl) (fun _ _ _ h => h) (Or.inl ⟨by rfl, ?_⟩) HS0 ?_
 rotate_left
 · intro W hW; (try dsimp only at hW); go_simp; try (with_reducible rfl)

 clear HS0
 have g0 := (FBox.on (FBox.on g115 b121) b122)
 obtain ⟨k0, k1, k2, y0, y1, y2, hlt⟩ := FBox.facts g0
 obtain ⟨X123, hY, h123, v123, p123, s123⟩ := tri_st (b := ba) (A1 := Aa) (c1 := ca') (l1 := la) (A2 := Da) (c2 := da) (l2 := ma) g0 h122 h103.size
 refine run_one (i := 14) (by kernel_rfl) rfl rfl ?_
 intro K hK
 go_simp
 rw [← hY]
 refine hK.out _ _ h123 ?_
 clear hK K k0 k1 k2 y0 y1 y2 hlt hY g0
 intro _
 have g0 := (p123 _ (Ne.symm (Nat.ne_of_lt (heap_lt g115))) (FBox.on g121 b122))
 obtain ⟨k0, k1, k2, y0, y1, y2, hlt⟩ := FBox.facts g0
 obtain ⟨X124, hY, h124, v124, p124, s124⟩ := tri_st (b := bb) (A1 := Ab) (c1 := cb') (l1 := lb) (A2 := Db) (c2 := db) (l2 := mb) g0 h123 h115.size
 refine run_one (i := 15) (by kernel_rfl) rfl rfl ?_
 intro K hK
 go_simp
 rw [← hY]
 refine hK.out _ _ h124 ?_
 clear hK K k0 k1 k2 y0 y1 y2 hlt hY g0
 intro _
 have g0 := (p124 _ (Nat.ne_of_lt (heap_lt (FBox.on g103 b115))) (p123 _ (Nat.ne_of_lt (heap_lt g103)) (FBox.on (FBox.on (FBox.on g103 b115) b121) b122)))
 obtain ⟨k0, k1, k2, y0, y1, y2, hlt⟩ := FBox.facts g0
 obtain ⟨X125, hY, h125, v125, p125, s125⟩ := tri_st (b := bc) (A1 := Ac) (c1 := cc') (l1 := lc) (A2 := Dc) (c2 := dc) (l2 := mc) g0 h124 hb0.size
 refine run_one (i := 16) (by kernel_rfl) rfl rfl ?_
 intro K hK
 go_simp
 rw [← hY]
 refine hK.out _ _ h125 ?_
 clear hK K k0 k1 k2 y0 y1 y2 hlt hY g0
 intro _
 refine wpAnyH_done (by kernel_rfl) ?_ _
 refine NoPanic.normal ?_
 go_wp2_with fail
 go_meet
 exact ⟨X0.heap.size, rfl, hb0.size, (s125 _ (v124 _ _ (v123 _ _ f122))), h125⟩
 }
 exact AllReadyH.nil
 }
 refine AllReadyH.cons rfl (fun K hK => ?_) ?_
 {
 obtain ⟨X126, hX, b126, g126⟩ := tri_al X103
 have h126 := below_next h103 b126
 refine wp_val (v := .pointer (some ⟨X103.heap.size, 0, none⟩)) (w' := X126) (by rw [hX]; kernel_rfl) ?_
 refine hK.out _ _ h126 ?_
 clear hK K hX
 intro _
 refine wpAnyH_ready (rs := [6, 11]) (by kernel_rfl) (by simp) ?_
 refine AllReadyH.cons rfl (fun K hK => ?_) ?_
 {
 refine wp_call (HFT2q.out X126 h126) (by kernel_rfl) ?_
 rintro e X127 ⟨_, _, _, rfl, ha, hb', f127, b127⟩
 have h127 := below_next h126 b127
 refine ⟨_, rfl, hK.out _ _ h127 ?_⟩
 clear hK K
 intro _
 obtain ⟨ba, Aa, ca', la, Da, da, ma, rfl⟩ := ha.shape
 obtain ⟨bb, Ab, cb', lb, Db, db, mb, rfl⟩ := hb'.shape
 obtain ⟨bc, Ac, cc', lc, Dc, dc, mc, rfl⟩ := f127.shape
 clear ha hb'
 have HS0 := h127
 refine wpAnyH_take (i := 7) (v := ?_) rfl (by kernel_rfl) (by kernel_rfl) (by kernel_rfl) (fun _ _ _ h => h) (Or.inl ⟨by rfl, ?_⟩) HS0 ?_
 rotate_left
 · intro W hW; (try dsimp only at hW); go_simp; try (with_reducible rfl)

 clear HS0
 have HS0 := h127
 refine wpAnyH_take (i := 8) (v := ?_) rfl (by kernel_rfl) (by kernel_rfl) (by kernel_rfl) (fun _ _ _ h => h) (Or.inl ⟨by rfl, ?_⟩) HS0 ?_
 rotate_left
 · intro W hW; (try dsimp only at hW); go_simp; try (with_reducible rfl)

 clear HS0
 have HS0 := h127
 refine wpAnyH_take (i := 9) (v := ?_) rfl (by kernel_rfl) (by kernel_rfl) (by kernel_rfl) (fun _ _ _ h => h) (Or.inl ⟨by rfl, ?_⟩) HS0 ?_
 rotate_left
 · intro W hW; (try dsimp only at hW); go_simp; try (with_reducible rfl)

 clear HS0
 have HS0 := h127
 refine wpAnyH_take (i := 10) (v := ?_) rfl (by kernel_rfl) (by kernel_rfl) (by kernel_rfl) (fun _ _ _ h => h) (Or.inl ⟨by rfl, ?_⟩) HS0 ?_
 rotate_left
 · intro W hW; (try dsimp only at hW); go_simp; try (with_reducible rfl)

 clear HS0
 refine run_one (i := 11) (by kernel_rfl) rfl rfl ?_
 intro K hK
 obtain ⟨X128, hX, b128, g128⟩ := tri_al X127
 have h128 := below_next h127 b128
 refine wp_val (v := .pointer (some ⟨X127.heap.size, 0, none⟩)) (w' := X128) (by rw [hX]; kernel_rfl) ?_
 refine hK.out _ _ h128 ?_
 clear hK K hX
 intro _
 have g0 := g128
 obtain ⟨k0, k1, k2, y0, y1, y2, hlt⟩ := FBox.facts g0
 obtain ⟨X129, hY, h129, v129, p129, s129⟩ := tri_st (b := ba) (A1 := Aa) (c1 := ca') (l1 := la) (A2 := Da) (c2 := da) (l2 := ma) g0 h128 h127.size
 refine run_one (i := 14) (by kernel_rfl) rfl rfl ?_
 intro K hK
 go_simp
 rw [← hY]
 refine hK.out _ _ h129 ?_
 clear hK K k0 k1 k2 y0 y1 y2 hlt hY g0
 intro _
 have g0 := (p129 _ (Nat.ne_of_lt (heap_lt (FBox.on g126 b127))) (FBox.on (FBox.on g126 b127) b128))
 obtain ⟨k0, k1, k2, y0, y1, y2, hlt⟩ := FBox.facts g0
 obtain ⟨X130, hY, h130, v130, p130, s130⟩ := tri_st (b := bb) (A1 := Ab) (c1 := cb') (l1 := lb) (A2 := Db) (c2 := db) (l2 := mb) g0 h129 h103.size
 refine run_one (i := 15) (by kernel_rfl) rfl rfl ?_
 intro K hK
 go_simp
 rw [← hY]
 refine hK.out _ _ h130 ?_
 clear hK K k0 k1 k2 y0 y1 y2 hlt hY g0
 intro _
 have g0 := (p130 _ (Nat.ne_of_lt (heap_lt g103)) (p129 _ (Nat.ne_of_lt (heap_lt (FBox.on (FBox.on g103 b126) b127))) (FBox.on (FBox.on (FBox.on g103 b126) b127) b128)))
 obtain ⟨k0, k1, k2, y0, y1, y2, hlt⟩ := FBox.facts g0
 obtain ⟨X131, hY, h131, v131, p131, s131⟩ := tri_st (b := bc) (A1 := Ac) (c1 := cc') (l1 := lc) (A2 := Dc) (c2 := dc) (l2 := mc) g0 h130 hb0.size
 refine run_one (i := 16) (by kernel_rfl) rfl rfl ?_
 intro K hK
 go_simp
 rw [← hY]
 refine hK.out _ _ h131 ?_
 clear hK K k0 k1 k2 y0 y1 y2 hlt hY g0
 intro _
 refine wpAnyH_done (by kernel_rfl) ?_ _
 refine NoPanic.normal ?_
 go_wp2_with fail
 go_meet
 exact ⟨X0.heap.size, rfl, hb0.size, (s131 _ (v130 _ _ (v129 _ _ (FracR.on f127 b128)))), h131⟩
 }
 refine AllReadyH.cons rfl (fun K hK => ?_) ?_
 {
 obtain ⟨X132, hX, b132, g132⟩ := tri_al X126
 have h132 := below_next h126 b132
 refine wp_val (v := .pointer (some ⟨X126.heap.size, 0, none⟩)) (w' := X132) (by rw [hX]; kernel_rfl) ?_
 refine hK.out _ _ h132 ?_
 clear hK K hX
 intro _
 refine run_one (i := 6) (by kernel_rfl) rfl rfl ?_
 intro K hK
 refine wp_call (HFT2q.out X132 h132) (by kernel_rfl) ?_
 rintro e X133 ⟨_, _, _, rfl, ha, hb', f133, b133⟩
 have h133 := below_next h132 b133
 refine ⟨_, rfl, hK.out _ _ h133 ?_⟩
 clear hK K
 intro _
 obtain ⟨ba, Aa, ca', la, Da, da, ma, rfl⟩ := ha.shape
 obtain ⟨bb, Ab, cb', lb, Db, db, mb, rfl⟩ := hb'.shape
 obtain ⟨bc, Ac, cc', lc, Dc, dc, mc, rfl⟩ := f133.shape
 clear ha hb'
 have HS0 := h133
 refine wpAnyH_take (i := 7) (v := ?_) rfl (by kernel_rfl) (by kernel_rfl) (by kernel_rfl) (fun _ _ _ h => h) (Or.inl ⟨by rfl, ?_⟩) HS0 ?_
 rotate_left
 · intro W hW; (try dsimp only at hW); go_simp; try (with_reducible rfl)

 clear HS0
 have HS0 := h133
 refine wpAnyH_take (i := 8) (v := ?_) rfl (by kernel_rfl) (by kernel_rfl) (by kernel_rfl) (fun _ _ _ h => h) (Or.inl ⟨by rfl, ?_⟩) HS0 ?_
 rotate_left
 · intro W hW; (try dsimp only at hW); go_simp; try (with_reducible rfl)

 clear HS0
 have HS0 := h133
 refine wpAnyH_take (i := 9) (v := ?_) rfl (by kernel_rfl) (by kernel_rfl) (by kernel_rfl) (fun _ _ _ h => h) (Or.inl ⟨by rfl, ?_⟩) HS0 ?_
 rotate_left
 · intro W hW; (try dsimp only at hW); go_simp; try (with_reducible rfl)

 clear HS0
 have HS0 := h133
 refine wpAnyH_take (i := 10) (v := ?_) rfl (by kernel_rfl) (by kernel_rfl) (by kernel_rfl) (fun _ _ _ h => h) (Or.inl ⟨by rfl, ?_⟩) HS0 ?_
 rotate_left
 · intro W hW; (try dsimp only at hW); go_simp; try (with_reducible rfl)

 clear HS0
 have g0 := (FBox.on g132 b133)
 obtain ⟨k0, k1, k2, y0, y1, y2, hlt⟩ := FBox.facts g0
 obtain ⟨X134, hY, h134, v134, p134, s134⟩ := tri_st (b := ba) (A1 := Aa) (c1 := ca') (l1 := la) (A2 := Da) (c2 := da) (l2 := ma) g0 h133 h126.size
 refine run_one (i := 14) (by kernel_rfl) rfl rfl ?_
 intro K hK
 go_simp
 rw [← hY]
 refine hK.out _ _ h134 ?_
 clear hK K k0 k1 k2 y0 y1 y2 hlt hY g0
 intro _
 have g0 := (p134 _ (Nat.ne_of_lt (heap_lt g126)) (FBox.on (FBox.on g126 b132) b133))
 obtain ⟨k0, k1, k2, y0, y1, y2, hlt⟩ := FBox.facts g0
 obtain ⟨X135, hY, h135, v135, p135, s135⟩ := tri_st (b := bb) (A1 := Ab) (c1 := cb') (l1 := lb) (A2 := Db) (c2 := db) (l2 := mb) g0 h134 h103.size
 refine run_one (i := 15) (by kernel_rfl) rfl rfl ?_
 intro K hK
 go_simp
 rw [← hY]
 refine hK.out _ _ h135 ?_
 clear hK K k0 k1 k2 y0 y1 y2 hlt hY g0
 intro _
 have g0 := (p135 _ (Nat.ne_of_lt (heap_lt g103)) (p134 _ (Nat.ne_of_lt (heap_lt (FBox.on g103 b126))) (FBox.on (FBox.on (FBox.on g103 b126) b132) b133)))
 obtain ⟨k0, k1, k2, y0, y1, y2, hlt⟩ := FBox.facts g0
 obtain ⟨X136, hY, h136, v136, p136, s136⟩ := tri_st (b := bc) (A1 := Ac) (c1 := cc') (l1 := lc) (A2 := Dc) (c2 := dc) (l2 := mc) g0 h135 hb0.size
 refine run_one (i := 16) (by kernel_rfl) rfl rfl ?_
 intro K hK
 go_simp
 rw [← hY]
 refine hK.out _ _ h136 ?_
 clear hK K k0 k1 k2 y0 y1 y2 hlt hY g0
 intro _
 refine wpAnyH_done (by kernel_rfl) ?_ _
 refine NoPanic.normal ?_
 go_wp2_with fail
 go_meet
 exact ⟨X0.heap.size, rfl, hb0.size, (s136 _ (v135 _ _ (v134 _ _ f133))), h136⟩
 }
 exact AllReadyH.nil
 }
 exact AllReadyH.nil
 }
 exact AllReadyH.nil
                  }
                case rest =>
                  obtain ⟨Bb, rfl, hlb, hvb, hbb⟩ := hcut
                  obtain ⟨bA, A5, c5, l5, A6, c6, l6, ea, hja⟩ := (HVA.out.on hbb).opn
                  obtain ⟨bB, A7, c7, l7, A8, c8, l8, eb, hjb⟩ := hvb.opn
                  have hbwc := below_next HBQ.out hbb
                  have HBc := Lib.hid (below_next HBW.out hbwc)
                  have HBR := Lib.hid hbwc
                  obtain ⟨q, hq⟩ : ∃ q, q = linF (l.take k) + linF (l.drop k) := ⟨_, rfl⟩
                  have HPL := Lib.hid (rPlus_any 20 _ _ _ _ wc (by omega) hja hjb HZ1.out HZ2.out)
                  rw [← hq] at HPL
                  have HKN := Lib.hid (show q = knF l (k - 2 + 2) by rw [hq, show k - 2 + 2 = k by omega]; rfl)
                  have HKP := Lib.hid (show k = k - 2 + 2 by omega)
                  have HQZ := Lib.hid (show Sz 41 q by rw [hq]; exact (sz_add HZ1.out HZ2.out).mono (by omega))
                  have p0 : wc.cell? ⟨Ba, 0, none⟩ = some (.bool bA) := by rw [cellsAt ea]; rfl
                  have p1 : wc.cell? ⟨Ba, 1, none⟩ = some (.slice A5 l5.length c5) := by rw [cellsAt ea]; rfl
                  have p2 : wc.cell? ⟨Ba, 2, none⟩ = some (.slice A6 l6.length c6) := by rw [cellsAt ea]; rfl
                  have q0 : wc.cell? ⟨Bb, 0, none⟩ = some (.bool bB) := by rw [cellsAt eb]; rfl
                  have q1 : wc.cell? ⟨Bb, 1, none⟩ = some (.slice A7 l7.length c7) := by rw [cellsAt eb]; rfl
                  have q2 : wc.cell? ⟨Bb, 2, none⟩ = some (.slice A8 l8.length c8) := by rw [cellsAt eb]; rfl
                  clear hlb hvb hbb ea eb hja hjb hbwc hq
                  go_wp2_with fail
                  (with_reducible refine (HPL.out).mono ?_)
                  rintro e w5 ⟨v5, rfl, hv5, hb5⟩
                  obtain ⟨bf, F1, f1, m1, F2, f2, m2, rfl⟩ := hv5.shape
                  obtain ⟨W6, hW6⟩ : ∃ W, W = w5.alloc (.cells #[.bool bf, .slice F1 m1.length f1, .slice F2 m2.length f2] 35) := ⟨_, rfl⟩
                  have hb56 : Below w5.heap.size w5 W6 := by rw [hW6]; exact (Below.refl _ w5).alloc (Nat.le_refl _) _
                  have HQ6 := Lib.hid (hv5.on hb56)
                  have HEF := Lib.hid (show W6.heap[w5.heap.size]? = some (.cells #[.bool bf, .slice F1 m1.length f1, .slice F2 m2.length f2] 35 (0, 0)) by rw [hW6]; exact alloc_at _ _ _ rfl)
                  have hbr := below_next HBR.out (below_next hb5 hb56)
                  have HB6 := Lib.hid (below_next HBW.out hbr)
                  have HE6 := Lib.hid ((hbr.block _ (heap_lt HE3.out)).trans HE3.out)
                  have HL6 := Lib.hid (fun h => (HLEAST.out h).on hbr)
                  have o0 : W6.cell? ⟨w5.heap.size, 0, none⟩ = some (.bool bf) := by rw [cellsAt HEF.out]; rfl
                  have o1 : W6.cell? ⟨w5.heap.size, 1, none⟩ = some (.slice F1 m1.length f1) := by rw [cellsAt HEF.out]; rfl
                  have o2 : W6.cell? ⟨w5.heap.size, 2, none⟩ = some (.slice F2 m2.length f2) := by rw [cellsAt HEF.out]; rfl
                  clear hv5 hb5 hb56 hbr HPL p0 p1 p2 q0 q1 q2
                  by_cases hb0 : bst = 0
                  · have t4 : ((bst : Int) == 0) = true := by rw [hb0]; rfl
                    have HW := Lib.hid (show (knB l (k - 2)).1 = 0 ∨ knF l (k - 2 + 2) < (knB l (k - 2)).2 from .inl (by rw [← HBST.out]; exact hb0))
                    have HEC := Lib.hid HE6.out
                    have HQC := Lib.hid HQ6.out
                    have HBC := Lib.hid HB6.out
                    subst hb0
                    have HSB := Lib.hid (VarQ.store HEC.out HQC.out)
                    obtain ⟨W13, hW13⟩ : ∃ W, W = ((W6.setCell ⟨B1, 0, none⟩ (.bool bf)).setCell ⟨B1, 1, none⟩ (.slice F1 m1.length f1)).setCell ⟨B1, 2, none⟩ (.slice F2 m2.length f2) := ⟨_, rfl⟩
                    have HV13 := Lib.hid (show VarQ W13 B1 q by rw [hW13]; exact HSB.out)
                    have HBE := Lib.hid (show Below w.heap.size w W13 by rw [hW13]; exact ((HBC.out.setCell (p := ⟨B1, 0, none⟩) HLB1.out _).setCell (p := ⟨B1, 1, none⟩) HLB1.out _).setCell (p := ⟨B1, 2, none⟩) HLB1.out _)
                    have z0 := frozenAt HEC.out 0
                    have z1 := frozenAt HEC.out 1
                    have z2 := frozenAt HEC.out 2
                    have hlt12 := heap_lt HEC.out
                    have y0 : World.cell? W6 ⟨B1, 0, none⟩ = some (.bool b0) := by rw [cellsAt HEC.out]; rfl
                    have y1 : World.cell? W6 ⟨B1, 1, none⟩ = some (.slice A3 d3 e3) := by rw [cellsAt HEC.out]; rfl
                    have y2 : World.cell? W6 ⟨B1, 2, none⟩ = some (.slice A4 d4 e4) := by rw [cellsAt HEC.out]; rfl
                    clear HSB
                    rw [hW6] at o0 o1 o2 y0 y1 y2 z0 z1 z2 hlt12
                    go_wp2
                    rw [← hW6, ← hW13]
                    clear hW13
                    go_roundw
                    case rel => exact ⟨k + 1, by go_num, by omega, by omega, by rw [show k + 1 - 2 = k - 2 + 1 from by omega, knB_take HW.out]; show Value.int .i64 _ = Value.int .i64 _; congr 1; have := HKP.out; omega, HV13.out.raw, fun _ => by rw [show k + 1 - 2 = k - 2 + 1 from by omega, knB_take HW.out, ← HKN.out]; exact HV13.out, HBE.out⟩
                    case measure => simp [intOf]; omega
                  · have t4 : ((bst : Int) == 0) = false := by rw [beq_eq_false_iff_ne]; omega
                    obtain ⟨b5, A9, c9, l9, A10, c10, l10, e5, hj5⟩ := (HL6.out hb0).opn
                    have HCP := Lib.hid (rOrder_any 41 _ _ q lst W6 (by omega) HQ6.out hj5 HQZ.out HKSZ.out)
                    have y0 : W6.cell? ⟨B1, 0, none⟩ = some (.bool b5) := by rw [cellsAt e5]; rfl
                    have y1 : W6.cell? ⟨B1, 1, none⟩ = some (.slice A9 l9.length c9) := by rw [cellsAt e5]; rfl
                    have y2 : W6.cell? ⟨B1, 2, none⟩ = some (.slice A10 l10.length c10) := by rw [cellsAt e5]; rfl
                    obtain ⟨o', ho⟩ : ∃ o, o = ordQ q lst := ⟨_, rfl⟩
                    rw [← ho] at HCP
                    have HO := Lib.hid ho
                    rw [hW6] at o0 o1 o2 y0 y1 y2
                    clear e5 hj5 ho
                    go_wp2_with fail
                    rw [← hW6]
                    clear hW6 o0 o1 o2 y0 y1 y2
                    (with_reducible refine (HCP.out).mono ?_)
                    rintro e w11 ⟨rfl, hb11⟩
                    have HBC := Lib.hid (below_next HB6.out hb11)
                    have HEC := Lib.hid ((hb11.block _ (heap_lt HE6.out)).trans HE6.out)
                    have HQC := Lib.hid (HQ6.out.on hb11)
                    have ef := (hb11.block _ (heap_lt HEF.out)).trans HEF.out
                    have o0 : w11.cell? ⟨w5.heap.size, 0, none⟩ = some (.bool bf) := by rw [cellsAt ef]; rfl
                    have o1 : w11.cell? ⟨w5.heap.size, 1, none⟩ = some (.slice F1 m1.length f1) := by rw [cellsAt ef]; rfl
                    have o2 : w11.cell? ⟨w5.heap.size, 2, none⟩ = some (.slice F2 m2.length f2) := by rw [cellsAt ef]; rfl
                    by_cases hol : o' < 0
                    · have t5 : decide (o' < 0) = true := decide_eq_true hol
                      have HW := Lib.hid (show (knB l (k - 2)).1 = 0 ∨ knF l (k - 2 + 2) < (knB l (k - 2)).2 from .inr (by rw [← HKN.out, ← HLST.out, ← ordQ_lt, ← HO.out]; exact hol))
                      clear hb11 ef hol
                      have HSB := Lib.hid (VarQ.store HEC.out HQC.out)
                      obtain ⟨W13, hW13⟩ : ∃ W, W = ((w11.setCell ⟨B1, 0, none⟩ (.bool bf)).setCell ⟨B1, 1, none⟩ (.slice F1 m1.length f1)).setCell ⟨B1, 2, none⟩ (.slice F2 m2.length f2) := ⟨_, rfl⟩
                      have HV13 := Lib.hid (show VarQ W13 B1 q by rw [hW13]; exact HSB.out)
                      have HBE := Lib.hid (show Below w.heap.size w W13 by rw [hW13]; exact ((HBC.out.setCell (p := ⟨B1, 0, none⟩) HLB1.out _).setCell (p := ⟨B1, 1, none⟩) HLB1.out _).setCell (p := ⟨B1, 2, none⟩) HLB1.out _)
                      have z0 := frozenAt HEC.out 0
                      have z1 := frozenAt HEC.out 1
                      have z2 := frozenAt HEC.out 2
                      have hlt12 := heap_lt HEC.out
                      have y0 : World.cell? w11 ⟨B1, 0, none⟩ = some (.bool b0) := by rw [cellsAt HEC.out]; rfl
                      have y1 : World.cell? w11 ⟨B1, 1, none⟩ = some (.slice A3 d3 e3) := by rw [cellsAt HEC.out]; rfl
                      have y2 : World.cell? w11 ⟨B1, 2, none⟩ = some (.slice A4 d4 e4) := by rw [cellsAt HEC.out]; rfl
                      clear HSB
                      go_wp2
                      rw [← hW13]
                      clear hW13
                      go_roundw
                      case rel => exact ⟨k + 1, by go_num, by omega, by omega, by rw [show k + 1 - 2 = k - 2 + 1 from by omega, knB_take HW.out]; show Value.int .i64 _ = Value.int .i64 _; congr 1; have := HKP.out; omega, HV13.out.raw, fun _ => by rw [show k + 1 - 2 = k - 2 + 1 from by omega, knB_take HW.out, ← HKN.out]; exact HV13.out, HBE.out⟩
                      case measure => simp [intOf]; omega
                    · have t5 : decide (o' < 0) = false := decide_eq_false hol
                      have HW := Lib.hid (show ¬ ((knB l (k - 2)).1 = 0 ∨ knF l (k - 2 + 2) < (knB l (k - 2)).2) from fun h => by
                        rcases h with h | h
                        · exact hb0 (by rw [HBST.out]; exact h)
                        · rw [← HKN.out, ← HLST.out, ← ordQ_lt, ← HO.out] at h; exact hol h)
                      have HV3d := Lib.hid ((HL6.out hb0).on hb11)
                      clear hb11 ef hol o0 o1 o2
                      go_wp2
                      go_roundw
                      case rel => exact ⟨k + 1, by go_num, by omega, by omega, by rw [show k + 1 - 2 = k - 2 + 1 from by omega, knB_keep HW.out, ← HBST.out], ⟨b0, A3, d3, e3, A4, d4, e4, HEC.out⟩, fun _ => by rw [show k + 1 - 2 = k - 2 + 1 from by omega, knB_keep HW.out, ← HLST.out]; exact HV3d.out, HBC.out⟩
                      case measure => simp [intOf]; omega
            · have HKE := Lib.hid (show knB l (k - 2) = knB l (nk - 3) by rw [show k - 2 = nk - 3 by have := HM.out; omega])
              clear hbw he3
              go_wp2
              refine bodyPost_ret (v := .tuple #[.int .i64 (bst : Nat), .int .i64 0]) (by simp [results, Tryz.results28, go_sem]) rfl ⟨by rw [HV.out.1, HV.out.2, ← HKE.out, ← HBST.out], HBW.out⟩
  · have HV := Lib.hid (knee_pt hp)
    obtain ⟨cc, hcc⟩ : ∃ z, z = ptC xs ys := ⟨_, rfl⟩
    rw [← hcc] at HCK HV hp
    have t1 : (cc != 0) = true := by rw [bne_iff_ne]; exact hp
    clear hr1 hr2 hp hcc
    go_enter Tryz.func28, Tryz.ntmps28
    go_wp2_with fail
    (with_reducible refine (HCK.out).mono ?_)
    rintro e w1 ⟨rfl, hb1⟩
    have HB1 := Lib.hid hb1
    clear hb1
    go_wp2
    refine bodyPost_ret (v := .tuple #[.int .i64 0, .int .i64 cc]) (by simp [results, Tryz.results28, go_sem]) rfl ⟨by rw [HV.out.1, HV.out.2], HB1.out⟩
end Go.Proofs.YtpmnhdgajkickaaGreatDoor
