import Derived.Test.YtepfmoaihhonlaaGreatDoorR7Ar
/- Package dynamometerref7: rateAt, Rate. -/
namespace Go.Proofs.YtepfmoaihhonlaaGreatDoor
open Go Go.RowKit Go.Proofs

/-- the rate at a time, a fraction -/
def rateQ (l : List (Int × Int × Int)) (t : Nat) : Rat := (((rateN l t).1 : Nat) : Rat) / (((rateN l t).2 : Nat) : Rat)

set_option maxHeartbeats 8000000 in
set_option maxRecDepth 100000 in
theorem rateAt_any (A : Option Addr) (c : Nat) (l : List (Int × Int × Int)) (t : Nat) (w : World) (hr : Rd w 0 w.heap.size 3 A l.length (cells3 l)) (hok : OkL l) (ht : (t : Int) ≤ lenS l) :
    Calls Tryz.prog 66 #[.slice A l.length c, .int .i64 t] w fun e w' => FracPost (rateQ l t) w e w' ∧ Sz 13 (rateQ l t) := by
  have htm := hok.sum
  have hle := hok.le
  have hsf := sumF_lenS hok.ok
  obtain ⟨s, hs1, hs2⟩ := stIx_in (stgs l) t (stgs_ne hok) (by omega)
  have hsum := stIx_sum (stgs l) t (stgs_ne hok)
  have hSA := fun (W : World) (hb : Below w.heap.size w W) => r7StageAt_any A c l t W (hr.old hb) hok (by omega)
  obtain ⟨i, hi⟩ : ∃ i, i = (stIx (stgs l) t).1 := ⟨_, rfl⟩
  obtain ⟨x, hx⟩ : ∃ x, x = (stIx (stgs l) t).2 := ⟨_, rfl⟩
  obtain ⟨a, ha⟩ : ∃ a, a = lenS (l.take i) := ⟨_, rfl⟩
  have hax : (a : Int) + x = t := by
    have h1 := sumF_lenS (l := l.take i) (fun s hs => hok.ok s (List.mem_of_mem_take hs))
    have h2 : stgs (l.take i) = (stgs l).take i := by simp [stgs, List.map_take]
    rw [h2] at h1
    rw [← hi, ← hx] at hsum
    rw [ha, ← h1]
    omega
  rw [← hi] at hs1
  rw [← hx] at hs2
  simp only [← hi, ← ha] at hSA
  have hil : i < l.length := by have := (List.getElem?_eq_some_iff.1 hs1).1; simpa [stgs] using this
  obtain ⟨bk, ok, F, y, z, hA, _, hbk, hs, q0, q1, q2⟩ := hr.at3 hil
  subst hA
  have hse : s = toStg (F, y, z) := by unfold stgs at hs1; rw [List.getElem?_map, hs] at hs1; simpa using hs1.symm
  subst hse
  have hS := hok.ok _ (List.mem_of_getElem? hs)
  have hxF : x ≤ F.toNat := hs2
  have HV := Lib.hid (show rateQ l t = ((y : Int) : Rat) + ((z - y : Int) : Rat) * mkRat (x : Int) F.toNat by
    rw [rate_rat hS (by omega) (by unfold OkS at hS; simp only at hS; omega)]
    unfold rateQ rateN; rw [← hi, ← hx, hs]; rfl)
  unfold OkS at hS
  simp only at hS
  obtain ⟨m1, m2, m3, m4, m5, m6⟩ := hS
  have a0 : 0 ≤ a := by
    have h1 := sumF_lenS (l := l.take i) (fun s hs => hok.ok s (List.mem_of_mem_take hs))
    rw [ha, ← h1]; omega
  have HSA := Lib.hid hSA
  have hii : (i : Int) < (l.length : Int) := by omega
  obtain ⟨W0, hW0⟩ : ∃ W0, W0 = w.alloc (.cells #[.bool false, .slice none 0 0, .slice none 0 0] 39) := ⟨_, rfl⟩
  have hST0 : St w W0 [(w.heap.size, .cells #[.bool false, .slice none 0 0, .slice none 0 0] 39 (0, 0))] := by rw [hW0]; exact (St.start w).alloc _ _ rfl
  have hz0 : W0.heap.size = w.heap.size + 1 := by rw [hW0]; simp
  obtain ⟨W1, hW1⟩ : ∃ W1, W1 = W0.alloc (.cells #[.int .i64 F, .int .i64 y, .int .i64 z] 86) := ⟨_, rfl⟩
  have hz1 : W1.heap.size = w.heap.size + 2 := by rw [hW1]; simp [hz0]
  have HST1 := Lib.hid (show St w W1 [(w.heap.size, .cells #[.bool false, .slice none 0 0, .slice none 0 0] 39 (0, 0)), (w.heap.size + 1, .cells #[.int .i64 F, .int .i64 y, .int .i64 z] 86 (0, 0))] by
    rw [hW1]
    simpa using hST0.alloc _ _ hz0.symm)
  have k0 : W0.cell? ⟨bk, ok + i * 3, none⟩ = some (.int .i64 F) := (hST0.below.cell (p := ⟨bk, ok + i * 3, none⟩) hbk).trans q0
  have k1 : W0.cell? ⟨bk, ok + i * 3 + 1, none⟩ = some (.int .i64 y) := (hST0.below.cell (p := ⟨bk, ok + i * 3 + 1, none⟩) hbk).trans q1
  have k2 : W0.cell? ⟨bk, ok + i * 3 + 2, none⟩ = some (.int .i64 z) := (hST0.below.cell (p := ⟨bk, ok + i * 3 + 2, none⟩) hbk).trans q2
  have HSA0 := Lib.hid (HSA.out W0 hST0.below)
  have z1 : Sz 4 ((y : Int) : Rat) := sz_int (by omega) (by rw [T4_4]; omega)
  have z2 : Sz 4 ((z - y : Int) : Rat) := sz_int (by omega) (by rw [T4_4]; omega)
  have z3 : Sz 4 (mkRat (x : Int) F.toNat) := sz_part (by omega) (by rw [T4_4]; omega) (by rw [T4_4]; omega)
  have HZ := Lib.hid (show Sz 13 (rateQ l t) by rw [HV.out]; exact sz_add z1 (sz_mul z2 z3))
  have HKS := Lib.hid (show ∀ X, St w X [(w.heap.size + 1, .cells #[.int .i64 F, .int .i64 y, .int .i64 z] 86 (0, 0))] → St w X [(w.heap.size + 1, .cells #[.int .i64 F, .int .i64 y, .int .i64 z] 86 (0, 0))] ∧ X.cell? ⟨w.heap.size + 1, 0, none⟩ = some (.int .i64 F) ∧ X.cell? ⟨w.heap.size + 1, 1, none⟩ = some (.int .i64 y) ∧ X.cell? ⟨w.heap.size + 1, 2, none⟩ = some (.int .i64 z) from fun X hX => ⟨hX, hX.cell 0 0 rfl rfl, hX.cell 0 1 rfl rfl, hX.cell 0 2 rfl rfl⟩)
  have HSTP := Lib.hid (show St w W1 [(w.heap.size + 1, .cells #[.int .i64 F, .int .i64 y, .int .i64 z] 86 (0, 0))] from HST1.out.pick _ (by simp))
  have HNE := Lib.hid (show ∀ (k : Nat) (b : Nat) (o : Obj), ([(w.heap.size + 1, .cells #[.int .i64 F, .int .i64 y, .int .i64 z] 86 (0, 0))] : List (Nat × Obj))[k]? = some (b, o) → ¬ b = w.heap.size from fun k b o h => by
    have h' := List.mem_of_getElem? h
    simp at h'
    omega)
  have HFB := Lib.hid (show ∀ X, Below W1.heap.size W1 X → FBox X w.heap.size from fun X hX => (HST1.out.call hX).at 0 rfl)
  have HWY := Lib.hid (fun W => rWhole_any y W (by omega) (by omega))
  have HWZ := Lib.hid (fun W => rWhole_any (z - y) W (by omega) (by omega))
  have HPT := Lib.hid (fun W => rPart_any (x : Int) F W (by omega) (by omega) (by omega) (by omega))
  have HTM := Lib.hid (fun W u v (hu : FracR W u ((z - y : Int) : Rat)) (hv : FracR W v (mkRat (x : Int) F.toNat)) => rTimes_any 4 u v _ _ W (by omega) hu hv z2 z3)
  have HPL := Lib.hid (fun W u v (hu : FracR W u ((y : Int) : Rat)) (hv : FracR W v (((z - y : Int) : Rat) * mkRat (x : Int) F.toNat)) => rPlus_any 8 u v _ _ W (by omega) hu hv (sz_mono z1 (by omega)) (sz_mul z2 z3))
  have ex : (t : Int) - a = (x : Int) := by omega
  have wx : IntKind.i64.wrap (x : Int) = (x : Int) := IntWalk.i64_in _ (by omega)
  have wy : IntKind.i64.wrap (z - y) = z - y := IntWalk.i64_in _ (by omega)
  rw [← HV.out] at HPL
  obtain ⟨q, hq⟩ : ∃ q, q = rateQ l t := ⟨_, rfl⟩
  rw [← hq] at HZ HPL ⊢
  clear hq hs1 hs2 hi hx ha hSA hs q0 q1 q2 hok hr hsf hsum hax HV z1 z2 z3 hST0 HSA
  go_enter Tryz.func66, Tryz.ntmps66
  go_wp2_with fail
  rw [← hW0]
  clear hW0
  (with_reducible refine HSA0.out.mono ?_)
  rintro e w1 ⟨rfl, rfl⟩
  go_upto_region 3 with fail
  try rw [hz0]
  rw [← hW1]
  clear hW1 k0 k1 k2 HSA0
  obtain ⟨f0, f1, f2, f3⟩ := HKS.out W1 HSTP.out
  go_region_held3 (fun X => St w X [(w.heap.size + 1, .cells #[.int .i64 F, .int .i64 y, .int .i64 z] 86 (0, 0))] ∧ X.cell? ⟨w.heap.size + 1, 0, none⟩ = some (.int .i64 F) ∧ X.cell? ⟨w.heap.size + 1, 1, none⟩ = some (.int .i64 y) ∧ X.cell? ⟨w.heap.size + 1, 2, none⟩ = some (.int .i64 z))
    (first
      | exact HKS.out _ HSTP.out.drew
      | (go_split_ands; refine HKS.out _ (St.call ?_ hb1); assumption)
      | (go_split_ands; refine HKS.out _ (St.call ?_ hb2); assumption)
      | (go_split_ands; refine HKS.out _ (St.call ?_ hb3); assumption)
      | (go_split_ands; refine HKS.out _ (St.call ?_ hb4); assumption)
      | (go_split_ands; refine HKS.out _ (St.call ?_ hb5); assumption)
      | (go_split_ands; refine HKS.out _ (St.fr (may := fun i => i = w.heap.size) (by assumption) (fr3 _ _ _) HNE.out (fun i hi => Nat.le_of_eq hi.symm))))
    (first
      | (go_at_call 26; (with_reducible refine (HWY.out _).mono ?_); rintro e w2 ⟨v1, rfl, hv1, hb1⟩)
      | (go_at_call 26; (with_reducible refine (HWZ.out _).mono ?_); rintro e w3 ⟨v2, rfl, hv2, hb2⟩)
      | (go_at_call 82; (with_reducible refine (HPT.out _).mono ?_); rintro e w4 ⟨v3, rfl, hv3, hb3⟩)
      | (go_at_call 25; (with_reducible refine (HTM.out _ v2 v3 (hv2.on hb3) hv3).mono ?_); rintro e w5 ⟨v4, rfl, hv4, hb4⟩)
      | (go_at_call 23; (with_reducible refine (HPL.out _ v1 v4 (((hv1.on hb2).on hb3).on hb4) hv4).mono ?_); rintro e w6 ⟨_, rfl, ⟨A7, c7, l7, A8, c8, l8, rfl, h7, h8⟩, hb5⟩; have hbE : Below W1.heap.size W1 w6 := below_next (below_next (below_next (below_next (below_next (Below.refl _ W1).drew hb1) hb2) hb3) hb4) hb5; obtain ⟨p0, p1, p2, z0, z1, z2, hlt⟩ := (HFB.out _ hbE).facts))
  have HFRT := Lib.hid (frac_ret (w0 := w) (HFB.out _ hbE) rfl h7 h8 (HST1.out.old hbE) (Nat.le_refl _) (fr3 (B := w.heap.size) (.bool (frS q)) (.slice A7 l7.length c7) (.slice A8 l8.length c8)))
  clear h7 h8 hv1 hv2 hv3 hv4 hb1 hb2 hb3 hb4 hb5
  go_wp2
  refine bodyPost_ret (v := .agg #[.bool (frS q), .slice A7 l7.length c7, .slice A8 l8.length c8]) ?_ rfl ⟨⟨_, rfl, HFRT.out.1, HFRT.out.2⟩, HZ.out⟩
  simp [results, Tryz.results66, go_sem, p0, p1, p2]
end Go.Proofs.YtepfmoaihhonlaaGreatDoor

/- Package dynamometerref7: Rate. -/
namespace Go.Proofs.YtepfmoaihhonlaaGreatDoor
open Go Go.RowKit Go.Proofs

theorem rate_low {l : List (Int × Int × Int)} (hok : OkL l) {t : Nat} (ht : (t : Int) ≤ lenS l) : frS (rateQ l t) = false ∧ ratOf (ratQ (rateQ l t)) = ratV (rateN l t).1 (rateN l t).2 := by
  have hd : 0 < (rateN l t).2 := by
    have hsf := sumF_lenS hok.ok
    obtain ⟨s, hs1, _⟩ := stIx_in (stgs l) t (stgs_ne hok) (by omega)
    unfold stgs at hs1
    rw [List.getElem?_map] at hs1
    cases hc : l[(stIx (l.map toStg) t).1]? with
    | none => rw [hc] at hs1; cases hs1
    | some z =>
      have hS := hok.ok _ (List.mem_of_getElem? hc)
      unfold OkS at hS
      unfold rateN stgs
      rw [hc]
      show 0 < z.1.toNat
      omega
  exact ⟨(rat_low _ _ hd).1, by unfold rateQ; rw [ratQ_div _ _ hd]; rfl⟩

set_option maxHeartbeats 2000000 in
set_option maxRecDepth 100000 in
theorem r7Rate_ok (A : Option Addr) (c : Nat) (l : List (Int × Int × Int)) (t : Nat) (w : World) (hr : Rd w 0 w.heap.size 3 A l.length (cells3 l)) (hok : OkL l) (ht : (t : Int) ≤ lenS l) (htab : Tab w.heap.size w) :
    Calls Tryz.prog 16 #[.slice A l.length c, .int .i64 t] w fun e w' => e = .returned (.tuple #[ratV (rateN l t).1 (rateN l t).2, .int .i64 0]) ∧ Below w.heap.size w w' := by
  have htm := hok.sum
  have hle := hok.le
  have HCK := Lib.hid (fun (W : World) (hb : Below w.heap.size w W) => r7Check_any A c l W (hr.old hb) (by omega))
  have HLN := Lib.hid (fun (W : World) (hb : Below w.heap.size w W) => r7Total_any A c l W (hr.old hb) (by omega) hok.ok)
  have HAT := Lib.hid (fun (W : World) (hb : Below w.heap.size w W) => rateAt_any A c l t W (hr.old hb) hok ht)
  obtain ⟨hneg, hV⟩ := rate_low hok ht
  have HRT := Lib.hid (fun (W : World) u (hu : FracR W u (rateQ l t)) (hz : Sz 13 (rateQ l t)) (hb : Below w.heap.size w W) => r7ratio_any u (rateQ l t) W hu hneg (hz.mono (by omega)) ((htab.on hb).mono hb.size))
  rw [hV] at HRT
  rw [show codeS l = 0 from hok.code] at HCK
  have b1 : decide ((t : Int) < 0) = false := by simp
  have b2 : decide (lenS l < (t : Int)) = false := by simpa using ht
  have b3 : ¬ lenS l < (t : Int) := by omega
  obtain ⟨W0, hW0⟩ : ∃ W0, W0 = w.alloc (.cells #[.string ⟨#[]⟩, .string ⟨#[]⟩] 31) := ⟨_, rfl⟩
  have HST0 := Lib.hid (show St w W0 [(w.heap.size, .cells #[.string ⟨#[]⟩, .string ⟨#[]⟩] 31 (0, 0))] by rw [hW0]; exact (St.start w).alloc _ _ rfl)
  obtain ⟨N, hN⟩ : ∃ N, N = (rateN l t).1 := ⟨_, rfl⟩
  obtain ⟨D, hD⟩ : ∃ D, D = (rateN l t).2 := ⟨_, rfl⟩
  rw [← hN, ← hD] at HRT ⊢
  obtain ⟨q, hq⟩ : ∃ q, q = rateQ l t := ⟨_, rfl⟩
  rw [← hq] at HRT HAT
  unfold ratV ratOf at HRT
  clear hN hD hok htab hr hneg hV hq
  go_enter Tryz.func16, Tryz.ntmps16
  go_wp2_with fail
  rw [← hW0]
  clear hW0
  (with_reducible refine (HCK.out W0 HST0.out.below).mono ?_)
  rintro e w1 ⟨rfl, hb1⟩
  have HST1 := Lib.hid (HST0.out.call hb1)
  clear hb1
  go_wp2_with fail
  (with_reducible refine (HLN.out w1 HST1.out.below).mono ?_)
  rintro e w2 ⟨rfl, hb2⟩
  have HST2 := Lib.hid (HST1.out.call hb2)
  clear hb2
  go_wp2_with fail
  (with_reducible refine (HAT.out w2 HST2.out.below).mono ?_)
  rintro e w3 ⟨⟨v, rfl, hv, hb3⟩, hz⟩
  have HST3 := Lib.hid (HST2.out.call hb3)
  have HR := Lib.hid (HRT.out w3 v hv hz HST3.out.below)
  clear hb3 hv hz
  go_wp2_with fail
  (with_reducible refine HR.out.mono ?_)
  rintro e w8 ⟨rfl, hb8⟩
  have hST8 := HST3.out.call hb8
  have r0 := hST8.cell 0 0 rfl rfl
  have r1 := hST8.cell 0 1 rfl rfl
  have z0 := hST8.frozen 0 0 rfl
  have z1 := hST8.frozen 0 1 rfl
  have HFIN := Lib.hid ((hST8.below.setCell (p := ⟨w.heap.size, 0, none⟩) (Nat.le_refl _) (.string ⟨(ratS N D).1.toArray⟩)).setCell (p := ⟨w.heap.size, 1, none⟩) (Nat.le_refl _) (.string ⟨(ratS N D).2.toArray⟩))
  clear hb8 hST8
  go_wp2
  refine bodyPost_ret (v := .tuple #[ratOf (ratS N D), .int .i64 0]) ?_ rfl ⟨rfl, HFIN.out⟩
  simp [results, Tryz.results16, go_sem, r0, r1, ratOf]
-- ANY
set_option maxHeartbeats 2000000 in
set_option maxRecDepth 100000 in
theorem r7Rate_any (A : Option Addr) (c : Nat) (l : List (Int × Int × Int)) (t : Int) (w : World) (hr : Rd w 0 w.heap.size 3 A l.length (cells3 l)) (hl : l.length ≤ 9223372036854775807) (htl : t ≤ 9223372036854775807) (htab : Tab w.heap.size w) :
    Calls Tryz.prog 16 #[.slice A l.length c, .int .i64 t] w fun e w' => e = .returned (.tuple #[ratOf (rateP l t), .int .i64 (rngC l t)]) ∧ Below w.heap.size w w' := by
  have HCK := Lib.hid (fun (W : World) (hb : Below w.heap.size w W) => r7Check_any A c l W (hr.old hb) hl)
  obtain ⟨W0, hW0⟩ : ∃ W0, W0 = w.alloc (.cells #[.string ⟨#[]⟩, .string ⟨#[]⟩] 31) := ⟨_, rfl⟩
  have HST0 := Lib.hid (show St w W0 [(w.heap.size, .cells #[.string ⟨#[]⟩, .string ⟨#[]⟩] 31 (0, 0))] by rw [hW0]; exact (St.start w).alloc _ _ rfl)
  by_cases hc : codeS l = 0
  · have hok := codeS_ok hc
    rw [hc] at HCK
    by_cases h0 : t < 0
    · have HV := Lib.hid (show ratOf (rateP l t) = .agg #[.string ⟨#[]⟩, .string ⟨#[]⟩] ∧ rngC l t = 9 by
        have e : rngC l t = 9 := by unfold rngC; rw [if_neg (by omega), if_pos h0]
        exact ⟨by unfold rateP; rw [if_pos (by omega)]; rfl, e⟩)
      have b1 : decide (t < 0) = true := by simpa using h0
      clear hok hc hr htab
      go_enter Tryz.func16, Tryz.ntmps16
      go_wp2_with fail
      rw [← hW0]
      clear hW0
      (with_reducible refine (HCK.out W0 HST0.out.below).mono ?_)
      rintro e w1 ⟨rfl, hb1⟩
      have hST1 := HST0.out.call hb1
      have r0 := hST1.cell 0 0 rfl rfl
      have r1 := hST1.cell 0 1 rfl rfl
      have z0 := hST1.frozen 0 0 rfl
      have z1 := hST1.frozen 0 1 rfl
      have HFIN := Lib.hid ((hST1.below.setCell (p := ⟨w.heap.size, 0, none⟩) (Nat.le_refl _) (.string ⟨#[]⟩)).setCell (p := ⟨w.heap.size, 1, none⟩) (Nat.le_refl _) (.string ⟨#[]⟩))
      clear hb1 hST1
      go_wp2
      refine bodyPost_ret (v := .tuple #[.agg #[.string ⟨#[]⟩, .string ⟨#[]⟩], .int .i64 9]) ?_ rfl ⟨by rw [HV.out.1, HV.out.2], HFIN.out⟩
      simp [results, Tryz.results16, go_sem, r0, r1]
    · by_cases h1 : lenS l < t
      · have HV := Lib.hid (show ratOf (rateP l t) = .agg #[.string ⟨#[]⟩, .string ⟨#[]⟩] ∧ rngC l t = 9 by
          have e : rngC l t = 9 := by unfold rngC; rw [if_neg (by omega), if_neg h0, if_pos h1]
          exact ⟨by unfold rateP; rw [if_pos (by omega)]; rfl, e⟩)
        have b1 : decide (t < 0) = false := by simpa using h0
        have b2 : decide (lenS l < t) = true := by simpa using h1
        have HLN := Lib.hid (fun (W : World) (hb : Below w.heap.size w W) => r7Total_any A c l W (hr.old hb) (by have := hok.le; omega) hok.ok)
        clear hok hc hr htab
        go_enter Tryz.func16, Tryz.ntmps16
        go_wp2_with fail
        rw [← hW0]
        clear hW0
        (with_reducible refine (HCK.out W0 HST0.out.below).mono ?_)
        rintro e w1 ⟨rfl, hb1⟩
        have HST1 := Lib.hid (HST0.out.call hb1)
        clear hb1
        go_wp2_with fail
        (with_reducible refine (HLN.out w1 HST1.out.below).mono ?_)
        rintro e w2 ⟨rfl, hb2⟩
        have hST1 := HST1.out.call hb2
        have r0 := hST1.cell 0 0 rfl rfl
        have r1 := hST1.cell 0 1 rfl rfl
        have z0 := hST1.frozen 0 0 rfl
        have z1 := hST1.frozen 0 1 rfl
        have HFIN := Lib.hid ((hST1.below.setCell (p := ⟨w.heap.size, 0, none⟩) (Nat.le_refl _) (.string ⟨#[]⟩)).setCell (p := ⟨w.heap.size, 1, none⟩) (Nat.le_refl _) (.string ⟨#[]⟩))
        clear hb2 hST1
        go_wp2
        refine bodyPost_ret (v := .tuple #[.agg #[.string ⟨#[]⟩, .string ⟨#[]⟩], .int .i64 9]) ?_ rfl ⟨by rw [HV.out.1, HV.out.2], HFIN.out⟩
        simp [results, Tryz.results16, go_sem, r0, r1]
      · obtain ⟨k, rfl⟩ : ∃ k : Nat, t = k := ⟨t.toNat, by omega⟩
        have e : rngC l k = 0 := rngC_ok hc (by omega) (by omega)
        refine (r7Rate_ok A c l k w hr hok (by omega) htab).mono ?_
        rintro e' w' ⟨rfl, hb⟩
        exact ⟨by unfold rateP; rw [if_neg (by omega), e]; rfl, hb⟩
  · have HV := Lib.hid (show ratOf (rateP l t) = .agg #[.string ⟨#[]⟩, .string ⟨#[]⟩] ∧ rngC l t = codeS l by
      have e : rngC l t = codeS l := by unfold rngC; rw [if_pos hc]
      exact ⟨by unfold rateP; rw [if_pos (by omega)]; rfl, e⟩)
    obtain ⟨cc, hcc⟩ : ∃ cc, cc = codeS l := ⟨_, rfl⟩
    rw [← hcc] at HCK HV hc
    have t1 : (cc != 0) = true := by simpa using hc
    clear hcc hr htab
    go_enter Tryz.func16, Tryz.ntmps16
    go_wp2_with fail
    rw [← hW0]
    clear hW0
    (with_reducible refine (HCK.out W0 HST0.out.below).mono ?_)
    rintro e w1 ⟨rfl, hb1⟩
    have hST1 := HST0.out.call hb1
    have r0 := hST1.cell 0 0 rfl rfl
    have r1 := hST1.cell 0 1 rfl rfl
    have z0 := hST1.frozen 0 0 rfl
    have z1 := hST1.frozen 0 1 rfl
    have HFIN := Lib.hid ((hST1.below.setCell (p := ⟨w.heap.size, 0, none⟩) (Nat.le_refl _) (.string ⟨#[]⟩)).setCell (p := ⟨w.heap.size, 1, none⟩) (Nat.le_refl _) (.string ⟨#[]⟩))
    clear hb1 hST1
    go_wp2
    refine bodyPost_ret (v := .tuple #[.agg #[.string ⟨#[]⟩, .string ⟨#[]⟩], .int .i64 cc]) ?_ rfl ⟨by rw [HV.out.1, HV.out.2], HFIN.out⟩
    simp [results, Tryz.results16, go_sem, r0, r1]
end Go.Proofs.YtepfmoaihhonlaaGreatDoor
