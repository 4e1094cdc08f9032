import Derived.Test.YtpmnhdgajkickaaGreatDoorG31
import Derived.Test.YtpmnhdgajkickaaGreatDoorG32
import Derived.Test.YtpmnhdgajkickaaGreatDoorG33
import Derived.Test.YtpmnhdgajkickaaGreatDoorG17
import Derived.Test.YtpmnhdgajkickaaGreatDoorG23
import Derived.Test.YtpmnhdgajkickaaGreatDoorG1
/- Package dynamometerref10: result, sum, half. -/
namespace Go.Proofs.YtpmnhdgajkickaaGreatDoor
open Go Go.RowKit Go.Proofs

theorem fit_int (q : Rat) : (decide (((ratQ q).1.length : Int) ≤ 2000) && decide (((ratQ q).2.length : Int) ≤ 2000)) = fitQ q := by
  unfold fitQ
  rw [decide_eq_decide.2 (show (((ratQ q).1.length : Int) ≤ 2000) ↔ (ratQ q).1.length ≤ 2000 by omega), decide_eq_decide.2 (show (((ratQ q).2.length : Int) ≤ 2000) ↔ (ratQ q).2.length ≤ 2000 by omega)]
theorem rRatioT_any (u : Value) (q : Rat) (w : World) (hq : FracR w u q) (hz : Sz 100000 q) (htab : Tab w.heap.size w) :
    Calls Tryz.prog 15 #[u, .int .i64 2000] w fun e w' => e = .returned (.tuple #[ratOf (txtQ q), .bool (fitQ q)]) ∧ Below w.heap.size w w' := by
  cases hs : frS q with
  | false =>
    have := rRatioF_any u q 2000 w hq hs hz htab
    rw [fit_int] at this
    unfold txtQ
    rw [hs, if_neg (by decide)]
    exact this
  | true =>
    have := rRatioN_any u q 2000 w hq hs hz htab
    rw [fit_int] at this
    unfold txtQ
    rw [hs, if_pos rfl]
    exact this
set_option maxHeartbeats 2000000 in
set_option maxRecDepth 100000 in
theorem rResult_any (u : Value) (q : Rat) (w : World) (hq : FracR w u q) (hz : Sz 100000 q) (htab : Tab w.heap.size w) :
    Calls Tryz.prog 62 #[u] w fun e w' => e = .returned (.tuple #[ratOf (rtT q), .int .i64 (rtC q)]) ∧ Below w.heap.size w w' := by
  have HR := Lib.hid (fun W (hb : Below w.heap.size w W) => rRatioT_any u q W (hq.on hb) hz ((htab.on hb).mono hb.size))
  obtain ⟨A1, c1, l1, A2, c2, l2, rfl, _, _⟩ := hq
  obtain ⟨S1, hS1⟩ : ∃ S : ByteArray, S = ⟨(txtQ q).1.toArray⟩ := ⟨_, rfl⟩
  obtain ⟨S2, hS2⟩ : ∃ S : ByteArray, S = ⟨(txtQ q).2.toArray⟩ := ⟨_, rfl⟩
  have hrt : ratOf (txtQ q) = .agg #[.string S1, .string S2] := by rw [hS1, hS2]; rfl
  rw [hrt] at HR
  obtain ⟨fb, hfb⟩ : ∃ fb, fb = fitQ q := ⟨_, rfl⟩
  rw [← hfb] at HR
  obtain ⟨sg, hsg⟩ : ∃ s, s = frS q := ⟨_, rfl⟩
  rw [← hsg] at HR ⊢
  obtain ⟨W0, hW0⟩ : ∃ W0, W0 = (w.alloc (.cells #[.bool sg, .slice A1 l1.length c1, .slice A2 l2.length c2] 35)).alloc (.cells #[.string ⟨#[]⟩, .string ⟨#[]⟩] 23) := ⟨_, rfl⟩
  have HST0 := Lib.hid (show St w W0 [(w.heap.size, .cells #[.bool sg, .slice A1 l1.length c1, .slice A2 l2.length c2] 35 (0, 0)), (w.heap.size + 1, .cells #[.string ⟨#[]⟩, .string ⟨#[]⟩] 23 (0, 0))] by rw [hW0]; exact ((St.start w).alloc _ _ rfl).alloc _ _ (by simp))
  have g0 := HST0.out.cell 0 0 rfl rfl
  have g1 := HST0.out.cell 0 1 rfl rfl
  have g2 := HST0.out.cell 0 2 rfl rfl
  have HV := Lib.hid (show rtT q = if fb = true then txtQ q else ([], []) by rw [hfb]; rfl)
  have HC := Lib.hid (show rtC q = if fb = true then 0 else 3 by rw [hfb]; rfl)
  have HRT := Lib.hid hrt
  clear hrt hS1 hS2 hfb hsg hz htab
  go_enter Tryz.func62, Tryz.ntmps62
  go_wp2_with fail
  rw [← hW0]
  clear hW0
  go_wp2_with fail
  (with_reducible refine (HR.out _ HST0.out.below).mono ?_)
  rintro e w1 ⟨rfl, hb1⟩
  have hST1 := HST0.out.call hb1
  have hST2 := hST1.alloc (.cells #[.string S1, .string S2] 23) w1.heap.size rfl
  have r0 := hST2.cell 1 0 rfl rfl
  have r1 := hST2.cell 1 1 rfl rfl
  have z0 := hST2.frozen 1 0 rfl
  have z1 := hST2.frozen 1 1 rfl
  have k0 := hST2.cell 2 0 rfl rfl
  have k1 := hST2.cell 2 1 rfl rfl
  have hl2 := hST2.lt 1 rfl
  have HFIN := Lib.hid (fun a b => (hST2.below.setCell (p := ⟨w.heap.size + 1, 0, none⟩) (by simp) a).setCell (p := ⟨w.heap.size + 1, 1, none⟩) (by simp) b)
  clear hb1 hST1 hST2 g0 g1 g2
  cases fb with
  | false =>
    go_wp2
    refine bodyPost_ret (v := .tuple #[.agg #[.string ⟨#[]⟩, .string ⟨#[]⟩], .int .i64 3]) (by simp [results, Tryz.results62, go_sem, r0, r1, hl2]) rfl ⟨by rw [HC.out, HV.out]; rfl, HFIN.out _ _⟩
  | true =>
    go_wp2
    refine bodyPost_ret (v := .tuple #[.agg #[.string S1, .string S2], .int .i64 0]) (by simp [results, Tryz.results62, go_sem, r0, r1, hl2]) rfl ⟨by rw [HC.out, HV.out]; simp only [if_true, HRT.out], HFIN.out _ _⟩
theorem cmp_le (x y : Nat) : decide (cmpN x y ≤ 0) = decide (x ≤ y) := by
  unfold cmpN
  rw [decide_eq_decide]
  split
  · constructor
    · intro _; omega
    · intro _; decide
  · split
    · constructor
      · intro _; omega
      · intro _; decide
    · constructor
      · intro h; exact absurd h (by decide)
      · intro h; omega
theorem sum_take_le (l : List Nat) (k : Nat) : (l.take k).sum ≤ l.sum := by
  have h : (l.take k ++ l.drop k).sum = l.sum := by rw [List.take_append_drop]
  rw [List.sum_append] at h
  omega
set_option maxHeartbeats 2000000 in
set_option maxRecDepth 100000 in
theorem rSum_any (A : Option Addr) (n c : Nat) (ns : List Nm) (M : Nat) (w : World) (h : SeqR w A n ns) (hn : n ≤ 100000) (hM : (nmVals ns).sum < T4 ^ M) (hM2 : M ≤ 400000) :
    Calls Tryz.prog 43 #[.slice A n c] w (RNatPost (nmVals ns).sum w) := by
  have hl := h.len
  have HS := Lib.hid h
  have HM := Lib.hid hM
  clear h hM
  go_enter Tryz.func43, Tryz.ntmps43
  go_wp2
  go_loopw [3, 4] (fun ov iv wr => ∃ k Ax cx lx, ov = .slice Ax (lx : List Nat).length cx ∧ iv = .int .i64 (k : Nat) ∧ k ≤ n ∧ RNatR wr Ax cx lx ((nmVals ns).take k).sum ∧ Below w.heap.size w wr) (fun _ iv _ => n - (intOf iv).toNat)
  case atStart => exact ⟨0, none, 0, [], rfl, rfl, Nat.zero_le _, by simpa using rnatr_nil w, Below.refl _ _⟩
  case round =>
    obtain ⟨k, Ax, cx, lx, rfl, rfl, hk, hx, hbw⟩ := hrel
    have HX := Lib.hid hx
    have HBW := Lib.hid hbw
    clear hx
    by_cases hlt : k < n
    · obtain ⟨b, o, y, rfl, hb, hy, hc, hny⟩ := (HS.out.call hbw).at hlt
      have hyx := nmVals_get hy
      have HSM := Lib.hid (show ((nmVals ns).take (k + 1)).sum = ((nmVals ns).take k).sum + y.x by rw [List.take_add_one, hyx]; simp)
      have hyl : y.l.length ≤ M := hny.len (Nat.lt_of_le_of_lt (mem_le_sum (List.mem_of_getElem? hyx)) HM.out)
      have hxl : lx.length ≤ M := HX.out.len (Nat.lt_of_le_of_lt (sum_take_le _ _) HM.out)
      have HA := Lib.hid (rnatAdd_any Ax y.A cx y.c lx y.l _ y.x wr HX.out hny (by omega) (by omega))
      clear hny hyx hy hbw
      go_wp2_with fail
      (with_reducible refine HA.out.mono ?_)
      rintro e w1 ⟨A1, c1, l1, rfl, h1, hb1⟩
      rw [← HSM.out] at h1
      have H1 := Lib.hid h1
      have HB1 := Lib.hid (below_next HBW.out hb1)
      clear h1 hb1 HA
      go_wp2
      go_roundw
      case rel => exact ⟨k + 1, A1, c1, l1, rfl, by go_num, by omega, H1.out, HB1.out⟩
      case measure => simp [intOf]; omega
    · obtain rfl : k = n := by omega
      have hx := HX.out
      rw [List.take_of_length_le (by rw [nmVals_length]; omega)] at hx
      have HX := Lib.hid hx
      clear hx hbw
      go_wp2
      go_ret
      exact ⟨Ax, cx, lx, rfl, HX.out, HBW.out⟩
set_option maxHeartbeats 2000000 in
set_option maxRecDepth 100000 in
theorem rHalf_any (A3 A4 : Option Addr) (c3 c4 : Nat) (l3 l4 : List Nat) (x all K : Nat) (u : Value) (r : Rat) (w : World) (h3 : RNatR w A3 c3 l3 x) (h4 : RNatR w A4 c4 l4 all) (hr : FracR w u r) (hx : x < T4 ^ K) (ha : all < T4 ^ K) (hK : K ≤ 100000) (hz : Sz K r) :
    Calls Tryz.prog 42 #[.slice A3 l3.length c3, .slice A4 l4.length c4, u] w fun e w' => e = .returned (.bool (smB x all r)) ∧ Below w.heap.size w w' := by
  obtain ⟨A1, c1, l1, A2, c2, l2, rfl, h1, h2⟩ := hr
  have hl1 := h1.len hz.1
  have hl2 := h2.len hz.2
  have hl3 := h3.len hx
  have hl4 := h4.len ha
  have hx2 : 2 * x < T4 ^ (K + 1) := by rw [Nat.pow_succ]; have : T4 ^ K * 2 ≤ T4 ^ K * T4 := Nat.mul_le_mul_left _ (by unfold T4; omega); omega
  have hp1 : 2 * x * r.den < T4 ^ (K + 1 + K) := by rw [Nat.pow_add _ (K + 1)]; exact Nat.mul_lt_mul'' hx2 hz.2
  have hp2 : all * frN r < T4 ^ (K + K) := by rw [Nat.pow_add]; exact Nat.mul_lt_mul'' ha hz.1
  obtain ⟨W0, hW0⟩ : ∃ W0, W0 = w.alloc (.cells #[.bool (frS r), .slice A1 l1.length c1, .slice A2 l2.length c2] 35) := ⟨_, rfl⟩
  have HST0 := Lib.hid (show St w W0 [(w.heap.size, .cells #[.bool (frS r), .slice A1 l1.length c1, .slice A2 l2.length c2] 35 (0, 0))] by rw [hW0]; exact (St.start w).alloc _ _ rfl)
  have HN1 := Lib.hid (h1.on HST0.out.below)
  have HN2 := Lib.hid (h2.on HST0.out.below)
  have HN3 := Lib.hid (h3.on HST0.out.below)
  have HN4 := Lib.hid (h4.on HST0.out.below)
  have HO := Lib.hid (fun W => rnatOf_any 2 W (by omega))
  rw [show (2 : Int).toNat = 2 from rfl] at HO
  have HM1 := Lib.hid (fun W A c l (hb : Below W0.heap.size W0 W) (h : RNatR W A c l 2) => rnatMul_any A A3 c c3 l l3 2 x W h (HN3.out.on hb) (by have := h.len (n := 1) (by unfold T4; omega); omega) (by omega))
  have HM2 := Lib.hid (fun W A c l (hb : Below W0.heap.size W0 W) (h : RNatR W A c l (2 * x)) => rnatMul_any A A2 c c2 l l2 _ _ W h (HN2.out.on hb) (by have := h.len hx2; omega) (by omega))
  have HM3 := Lib.hid (fun W (hb : Below W0.heap.size W0 W) => rnatMul_any A4 A1 c4 c1 l4 l1 _ _ W (HN4.out.on hb) (HN1.out.on hb) (by omega) (by omega))
  have HC := Lib.hid (fun W A A' c c' l l' (h : RNatR W A c l (2 * x * r.den)) (h' : RNatR W A' c' l' (all * frN r)) => rnatCmp_any A A' c c' l l' _ _ W h h' (by have := h.len hp1; omega) (by have := h'.len hp2; omega))
  obtain ⟨cv, hcv⟩ : ∃ cv, cv = cmpN (2 * x * r.den) (all * frN r) := ⟨_, rfl⟩
  have hsm : decide (cv ≤ 0) = smB x all r := by rw [hcv, cmp_le, smB_ref]
  rw [← hcv] at HC
  obtain ⟨zb, hzb⟩ : ∃ zb, zb = smB x all r := ⟨_, rfl⟩
  rw [← hzb] at hsm ⊢
  have HKS := Lib.hid (show ∀ X, Below W0.heap.size W0 X → (fun X => Below W0.heap.size W0 X ∧ X.cell? ⟨w.heap.size, 1, none⟩ = some (.slice A1 l1.length c1) ∧ X.cell? ⟨w.heap.size, 2, none⟩ = some (.slice A2 l2.length c2)) X from fun X hX => ⟨hX, (HST0.out.call hX).cell 0 1 rfl rfl, (HST0.out.call hX).cell 0 2 rfl rfl⟩)
  obtain ⟨_, f1, f2⟩ := HKS.out W0 (Below.refl _ W0)
  clear h1 h2 h3 h4 hx ha hz hp1 hp2 hx2 hcv hzb hl1 hl2 hl3 hl4
  go_enter Tryz.func42, Tryz.ntmps42
  go_upto_region 1 with fail
  rw [← hW0]
  clear hW0
  go_region_held3 (fun X => Below W0.heap.size W0 X ∧ X.cell? ⟨w.heap.size, 1, none⟩ = some (.slice A1 l1.length c1) ∧ X.cell? ⟨w.heap.size, 2, none⟩ = some (.slice A2 l2.length c2))
    (first
      | exact HKS.out _ (Below.refl _ W0).drew
      | (go_split_ands; refine HKS.out _ (below_next ?_ hb5); assumption)
      | (go_split_ands; refine HKS.out _ (below_next ?_ hb6); assumption)
      | (go_split_ands; refine HKS.out _ (below_next ?_ hb7); assumption)
      | (go_split_ands; refine HKS.out _ (below_next ?_ hb8); assumption)
      | (go_split_ands; refine HKS.out _ (below_drewN ?_ _); assumption))
    (first
      | (go_at_call 54; (with_reducible refine (HO.out _).mono ?_); rintro e w5 ⟨A5, c5, l5, rfl, hn5, hb5⟩)
      | (go_at_call 56; (with_reducible refine (HM1.out _ A5 c5 l5 (by go_split_ands; assumption) hn5).mono ?_); rintro e w6 ⟨A6, c6, l6, rfl, hn6, hb6⟩)
      | (go_at_call 56; (with_reducible refine (HM2.out _ A6 c6 l6 (by go_split_ands; assumption) hn6).mono ?_); rintro e w7 ⟨A7, c7, l7, rfl, hn7, hb7⟩)
      | (go_at_call 56; (with_reducible refine (HM3.out _ (by go_split_ands; assumption)).mono ?_); rintro e w8 ⟨A8, c8, l8, rfl, hn8, hb8⟩)
      | (go_at_call 51; (with_reducible refine (HC.out _ A7 A8 c7 c8 l7 l8 (hn7.on hb8) hn8).mono ?_); rintro e w9 ⟨rfl, q9, rfl⟩))
  have hbl : Below W0.heap.size W0 (w8.drewN q9) := by go_split_ands; assumption
  have HBF := Lib.hid (below_next HST0.out.below hbl)
  clear hn5 hn6 hn7 hn8 hb5 hb6 hb7 hb8 hbl
  go_wp2
  go_ret
  exact ⟨by rfl, HBF.out⟩
end Go.Proofs.YtpmnhdgajkickaaGreatDoor

/- Package judge: positive, share, between. -/
namespace Go.Proofs.YtpmnhdgajkickaaGreatDoor
open Go Go.RowKit Go.Proofs

/-- what a range's test says of sign, numerator, denominator -/
def inJ : Rg → Bool → Nat → Nat → Bool
  | .share, b, x, y => !b && decide (x ≤ y)
  | .between, b, x, y => !b && decide (0 < x) && decide (x < y)
  | .positive, b, x, _ => !b && decide (0 < x)
theorem inJ_eq (k : Rg) (q : Rat) : inJ k (frS q) (frN q) q.den = inQ k q := by cases k <;> rfl
theorem natr_zero {w : World} {A : Option Addr} {c : Nat} {l : List Nat} {x : Nat} (h : NatR w A c l x) : ((l.length : Int) == 0) = decide (x = 0) := by
  rw [Bool.eq_iff_iff]; simp only [beq_iff_eq, decide_eq_true_eq]
  constructor
  · intro hz
    have : l = [] := List.eq_nil_of_length_eq_zero (by omega)
    subst this
    have := h.val; simpa [val] using this.symm
  · intro hz
    rw [(val_zero W64_pos h.norm).1 (by rw [h.val, hz])]; rfl
theorem cmp_lt (x y : Nat) : decide (cmpN x y < 0) = decide (x < y) := by
  unfold cmpN
  rw [decide_eq_decide]
  split
  · constructor
    · intro _; omega
    · intro _; decide
  · split
    · constructor
      · intro h; exact absurd h (by decide)
      · intro h; omega
    · constructor
      · intro h; exact absurd h (by decide)
      · intro h; omega
set_option maxHeartbeats 8000000 in
set_option maxRecDepth 100000 in
theorem jPositive_any (u : Value) (b : Bool) (x y n : Nat) (w : World) (h : JF w u b x y) (hx : x < W64 ^ n) (hn : n ≤ 900000) :
    Calls Tryz.prog 45 #[u] w fun e w' => e = .returned (.bool (inJ .positive b x y)) ∧ Below w.heap.size w w' := by
  obtain ⟨A1, c1, l1, A2, c2, l2, rfl, h1, h2⟩ := h
  have hl1 := h1.len hx
  obtain ⟨W0, hW0⟩ : ∃ W0, W0 = w.alloc (.cells #[.bool b, .slice A1 l1.length c1, .slice A2 l2.length c2] 53) := ⟨_, rfl⟩
  have HST0 := Lib.hid (show St w W0 [(w.heap.size, .cells #[.bool b, .slice A1 l1.length c1, .slice A2 l2.length c2] 53 (0, 0))] by rw [hW0]; exact (St.start w).alloc _ _ rfl)
  have HZ := Lib.hid (fun W => natZero_any A1 c1 l1 W (by omega))
  rw [natr_zero h1] at HZ
  obtain ⟨zb, hzb⟩ : ∃ zb, zb = decide (x = 0) := ⟨_, rfl⟩
  rw [← hzb] at HZ
  have HV := Lib.hid (show inJ .positive b x y = (!b && !zb) by
    unfold inJ; rw [hzb]; congr 1
    rw [Bool.eq_iff_iff]; simp; omega)
  rw [HV.out]
  have g0 := HST0.out.cell 0 0 rfl rfl
  have g1 := HST0.out.cell 0 1 rfl rfl
  clear h1 h2 hx hzb HV
  cases b with
  | true =>
    go_enter Tryz.func45, Tryz.ntmps45
    go_wp2_with fail
    rw [← hW0]
    clear hW0
    go_wp2
    go_ret
    exact ⟨by rfl, HST0.out.below⟩
  | false =>
    go_enter Tryz.func45, Tryz.ntmps45
    go_wp2_with fail
    rw [← hW0]
    clear hW0
    go_wp2_with fail
    (with_reducible refine (HZ.out _).mono ?_)
    rintro e w1 ⟨rfl, rfl⟩
    go_wp2
    go_ret
    exact ⟨by rfl, HST0.out.below⟩
set_option maxHeartbeats 8000000 in
set_option maxRecDepth 100000 in
theorem jShare_any (u : Value) (b : Bool) (x y n : Nat) (w : World) (h : JF w u b x y) (hx : x < W64 ^ n) (hy : y < W64 ^ n) (hn : n ≤ 900000) :
    Calls Tryz.prog 69 #[u] w fun e w' => e = .returned (.bool (inJ .share b x y)) ∧ Below w.heap.size w w' := by
  obtain ⟨A1, c1, l1, A2, c2, l2, rfl, h1, h2⟩ := h
  have hl1 := h1.len hx
  have hl2 := h2.len hy
  obtain ⟨W0, hW0⟩ : ∃ W0, W0 = w.alloc (.cells #[.bool b, .slice A1 l1.length c1, .slice A2 l2.length c2] 53) := ⟨_, rfl⟩
  have HST0 := Lib.hid (show St w W0 [(w.heap.size, .cells #[.bool b, .slice A1 l1.length c1, .slice A2 l2.length c2] 53 (0, 0))] by rw [hW0]; exact (St.start w).alloc _ _ rfl)
  have HC := Lib.hid (natCmp_any A1 A2 c1 c2 l1 l2 x y W0 (h1.on HST0.out.below) (h2.on HST0.out.below) (by omega) (by omega))
  obtain ⟨cv, hcv⟩ : ∃ cv, cv = cmpN x y := ⟨_, rfl⟩
  rw [← hcv] at HC
  obtain ⟨zb, hzb⟩ : ∃ zb, zb = decide (x ≤ y) := ⟨_, rfl⟩
  have tc : decide (cv ≤ 0) = zb := by rw [hcv, hzb, cmp_le]
  have HV := Lib.hid (show inJ .share b x y = (!b && zb) by unfold inJ; rw [hzb])
  rw [HV.out]
  have g0 := HST0.out.cell 0 0 rfl rfl
  have g1 := HST0.out.cell 0 1 rfl rfl
  have g2 := HST0.out.cell 0 2 rfl rfl
  clear h1 h2 hx hy hzb HV hcv
  cases b with
  | true =>
    go_enter Tryz.func69, Tryz.ntmps69
    go_wp2_with fail
    rw [← hW0]
    clear hW0
    go_wp2
    go_ret
    exact ⟨by rfl, HST0.out.below⟩
  | false =>
    go_enter Tryz.func69, Tryz.ntmps69
    go_wp2_with fail
    rw [← hW0]
    clear hW0
    go_wp2_with fail
    (with_reducible refine (HC.out).mono ?_)
    rintro e w1 ⟨rfl, q, rfl⟩
    go_wp2
    go_ret
    exact ⟨by rfl, below_drewN HST0.out.below q⟩
set_option maxHeartbeats 8000000 in
set_option maxRecDepth 100000 in
theorem jBetween_any (u : Value) (b : Bool) (x y n : Nat) (w : World) (h : JF w u b x y) (hx : x < W64 ^ n) (hy : y < W64 ^ n) (hn : n ≤ 900000) :
    Calls Tryz.prog 31 #[u] w fun e w' => e = .returned (.bool (inJ .between b x y)) ∧ Below w.heap.size w w' := by
  have HP := Lib.hid (fun W (hb : Below w.heap.size w W) => jPositive_any u b x y n W (h.on hb) hx hn)
  obtain ⟨A1, c1, l1, A2, c2, l2, rfl, h1, h2⟩ := h
  have hl1 := h1.len hx
  have hl2 := h2.len hy
  obtain ⟨W0, hW0⟩ : ∃ W0, W0 = w.alloc (.cells #[.bool b, .slice A1 l1.length c1, .slice A2 l2.length c2] 53) := ⟨_, rfl⟩
  have HST0 := Lib.hid (show St w W0 [(w.heap.size, .cells #[.bool b, .slice A1 l1.length c1, .slice A2 l2.length c2] 53 (0, 0))] by rw [hW0]; exact (St.start w).alloc _ _ rfl)
  have HC := Lib.hid (fun W (hb : Below w.heap.size w W) => natCmp_any A1 A2 c1 c2 l1 l2 x y W (h1.on hb) (h2.on hb) (by omega) (by omega))
  obtain ⟨cv, hcv⟩ : ∃ cv, cv = cmpN x y := ⟨_, rfl⟩
  rw [← hcv] at HC
  obtain ⟨zb, hzb⟩ : ∃ zb, zb = decide (x < y) := ⟨_, rfl⟩
  have tc : decide (cv < 0) = zb := by rw [hcv, hzb, cmp_lt]
  obtain ⟨pb, hpb⟩ : ∃ pb, pb = inJ .positive b x y := ⟨_, rfl⟩
  have HV := Lib.hid (show inJ .between b x y = (pb && zb) by rw [hpb]; unfold inJ; rw [hzb])
  rw [← hpb] at HP
  rw [HV.out]
  have g0 := HST0.out.cell 0 0 rfl rfl
  have g1 := HST0.out.cell 0 1 rfl rfl
  have g2 := HST0.out.cell 0 2 rfl rfl
  clear h1 h2 hx hy hzb HV hcv hpb
  cases pb with
  | false =>
    go_enter Tryz.func31, Tryz.ntmps31
    go_wp2_with fail
    rw [← hW0]
    clear hW0
    go_wp2_with fail
    (with_reducible refine (HP.out _ HST0.out.below).mono ?_)
    rintro e w1 ⟨rfl, hb1⟩
    go_wp2
    go_ret
    exact ⟨by rfl, below_next HST0.out.below hb1⟩
  | true =>
    go_enter Tryz.func31, Tryz.ntmps31
    go_wp2_with fail
    rw [← hW0]
    clear hW0
    go_wp2_with fail
    (with_reducible refine (HP.out _ HST0.out.below).mono ?_)
    rintro e w1 ⟨rfl, hb1⟩
    have HST1 := Lib.hid (HST0.out.call hb1)
    have g1 := HST1.out.cell 0 1 rfl rfl
    have g2 := HST1.out.cell 0 2 rfl rfl
    clear hb1
    go_wp2_with fail
    (with_reducible refine (HC.out _ HST1.out.below).mono ?_)
    rintro e w2 ⟨rfl, q, rfl⟩
    go_wp2
    go_ret
    exact ⟨by rfl, below_drewN HST1.out.below q⟩
end Go.Proofs.YtpmnhdgajkickaaGreatDoor
