/- Package judge: Interval. -/
import Derived.Test.YtpmnhdgajkickaaGreatDoorJShort
import Derived.Test.YtpmnhdgajkickaaGreatDoorG39
import Derived.Test.YtpmnhdgajkickaaGreatDoorJFrac2
import Derived.Test.YtpmnhdgajkickaaGreatDoorNatShl
import Derived.Test.YtpmnhdgajkickaaGreatDoorNatAdd
import Derived.Test.YtpmnhdgajkickaaGreatDoorG41
namespace Go.Proofs.YtpmnhdgajkickaaGreatDoor
open Go Go.RowKit Go.Proofs

/-- box B holds a number -/
def NBox (w : World) (B : Nat) (A : Option Addr) (c : Nat) (l : List Nat) : Prop := w.heap[B]? = some (.cells #[.slice A l.length c] 51 (0, 0))
theorem NBox.on {w w' : World} {B c : Nat} {A : Option Addr} {l : List Nat} (h : NBox w B A c l) (hb : Below w.heap.size w w') : NBox w' B A c l := (hb.block B (heap_lt h)).trans h
theorem smB_mul (x D : Nat) (r : Rat) : decide (x * 2 ^ 1 * r.den ≤ frN r * D) = smB x D r := by unfold smB; rw [Nat.pow_one]
set_option maxHeartbeats 8000000 in
set_option maxRecDepth 100000 in
theorem jSmall_any (A Aa : Option Addr) (c ca : Nat) (l la : List Nat) (x D K Br Ba : Nat) (r : Rat) (w : World) (h : NatR w A c l x) (ha : NatR w Aa ca la D) (hr : JVar w Br false (frN r) r.den) (hb : NBox w Ba Aa ca la) (hx : x < W64 ^ K) (hD : D < W64 ^ K) (hr1 : frN r < W64 ^ K) (hr2 : r.den < W64 ^ K) (hK : K ≤ 100000) :
    Calls Tryz.prog 34 #[.slice A l.length c, .pointer (some ⟨Br, 0, none⟩), .pointer (some ⟨Ba, 0, none⟩)] w fun e w' => e = .returned (.bool (smB x D r)) ∧ Below w.heap.size w w' := by
  obtain ⟨A1, c1, l1, A2, c2, l2, hcr, h1, h2⟩ := hr.get
  have hl := h.len hx
  have hla := ha.len hD
  have hl1 := h1.len hr1
  have hl2 := h2.len hr2
  have hW : (1 : Nat) < W64 := by unfold W64; omega
  have hx2 : x * 2 ^ 1 < W64 ^ (K + 1) := by rw [Nat.pow_succ]; exact Nat.mul_lt_mul'' hx (by unfold W64; omega)
  have hp1 : x * 2 ^ 1 * r.den < W64 ^ (K + 1 + K) := by rw [Nat.pow_add _ (K + 1)]; exact Nat.mul_lt_mul'' hx2 hr2
  have hp2 : frN r * D < W64 ^ (K + K) := by rw [Nat.pow_add]; exact Nat.mul_lt_mul'' hr1 hD
  have HS := Lib.hid (fun W (hb : Below w.heap.size w W) => show Calls Tryz.prog 37 #[.slice A l.length c, .int .i64 1] W _ from natShl_any A c l x 1 W (h.on hb) (by omega) (by omega))
  have HM1 := Lib.hid (fun W A' c' l' (hb : Below w.heap.size w W) (h' : NatR W A' c' l' (x * 2 ^ 1)) => natMul_any A' A2 c' c2 l' l2 _ _ W h' (h2.on hb) (by have := h'.len hx2; omega) (by omega))
  have HM2 := Lib.hid (fun W (hb : Below w.heap.size w W) => natMul_any A1 Aa c1 ca l1 la _ _ W (h1.on hb) (ha.on hb) (by omega) (by omega))
  have HC := Lib.hid (fun W A A' c c' l l' (h : NatR W A c l (x * 2 ^ 1 * r.den)) (h' : NatR W A' c' l' (frN r * D)) => natCmp_any A A' c c' l l' _ _ W h h' (by have := h.len hp1; omega) (by have := h'.len hp2; omega))
  obtain ⟨cv, hcv⟩ : ∃ cv, cv = cmpN (x * 2 ^ 1 * r.den) (frN r * D) := ⟨_, rfl⟩
  obtain ⟨zb, hzb⟩ : ∃ zb, zb = smB x D r := ⟨_, rfl⟩
  have tc : decide (cv ≤ 0) = zb := by rw [hcv, cmp_le, smB_mul, hzb]
  rw [← hcv] at HC
  rw [← hzb]
  obtain ⟨X2, hX2⟩ : ∃ X2, X2 = x * 2 ^ 1 := ⟨_, rfl⟩
  rw [← hX2] at HS HM1 HC
  have HKS := Lib.hid (show ∀ X, Below w.heap.size w X → (fun X => Below w.heap.size w X ∧ X.cell? ⟨Br, 1, none⟩ = some (.slice A1 l1.length c1) ∧ X.cell? ⟨Br, 2, none⟩ = some (.slice A2 l2.length c2) ∧ X.cell? ⟨Ba, 0, none⟩ = some (.slice Aa la.length ca)) X from fun X hX => ⟨hX, (hcr X hX).2.1, (hcr X hX).2.2, by rw [cellsAt (hb.on hX)]; rfl⟩)
  obtain ⟨_, f1, f2, f3⟩ := HKS.out w (Below.refl _ w)
  clear h ha hr hb hx hD hr1 hr2 h1 h2 hcr hx2 hp1 hp2 hcv hzb hX2 hl hla hl1 hl2
  go_enter Tryz.func34, Tryz.ntmps34
  go_upto_region 1 with fail
  go_region_held3 (fun X => Below w.heap.size w X ∧ X.cell? ⟨Br, 1, none⟩ = some (.slice A1 l1.length c1) ∧ X.cell? ⟨Br, 2, none⟩ = some (.slice A2 l2.length c2) ∧ X.cell? ⟨Ba, 0, none⟩ = some (.slice Aa la.length ca))
    (first
      | exact HKS.out _ (Below.refl _ w).drew
      | (go_split_ands; refine HKS.out _ (below_next ?_ hb6); assumption)
      | (go_split_ands; refine HKS.out _ (below_next ?_ hb7); assumption)
      | (go_split_ands; refine HKS.out _ (below_next ?_ hb8); assumption)
      | (go_split_ands; refine HKS.out _ (below_drewN ?_ _); assumption))
    (first
      | (go_at_call 37; (with_reducible refine (HS.out _ (by go_split_ands; assumption)).mono ?_); rintro e w6 ⟨A6, c6, l6, rfl, hn6, hb6⟩)
      | (go_at_call 36; (with_reducible refine (HM1.out _ A6 c6 l6 (by go_split_ands; assumption) hn6).mono ?_); rintro e w7 ⟨A7, c7, l7, rfl, hn7, hb7⟩)
      | (go_at_call 36; (with_reducible refine (HM2.out _ (by go_split_ands; assumption)).mono ?_); rintro e w8 ⟨A8, c8, l8, rfl, hn8, hb8⟩)
      | (go_at_call 35; (with_reducible refine (HC.out _ A7 A8 c7 c8 l7 l8 (hn7.on hb8) hn8).mono ?_); rintro e w9 ⟨rfl, q9, rfl⟩))
  have hbl : Below w.heap.size w (w8.drewN q9) := by go_split_ands; assumption
  have HBF := Lib.hid hbl
  clear hn6 hn7 hn8 hb6 hb7 hb8 hbl
  go_wp2
  go_ret
  exact ⟨by rfl, HBF.out⟩

theorem itvC_range {n : Int} {a b c d : List UInt8} (h : n < 1 ∨ 200 < n) : itvC n a b c d = 9 := by unfold itvC; rw [if_pos h]
theorem itvC_one {n : Int} {a b c d : List UInt8} (h : ¬ (n < 1 ∨ 200 < n)) (h2 : shC .between a b ≠ 0) : itvC n a b c d = shC .between a b := by unfold itvC; rw [if_neg h, if_pos h2]
theorem itvC_two {n : Int} {a b c d : List UInt8} (h : ¬ (n < 1 ∨ 200 < n)) (h2 : shC .between a b = 0) : itvC n a b c d = shC .between c d := by unfold itvC; rw [if_neg h, if_neg (by omega)]
theorem itvV_bad {n : Int} {a b c d : List UInt8} (h : itvC n a b c d ≠ 0) : itvV n a b c d = .tuple #[.int .i64 0, .int .i64 0, .bool false, .int .i64 (itvC n a b c d)] := by unfold itvV; rw [if_pos h]
theorem itvV_none {n : Int} {a b c d : List UInt8} (h : itvC n a b c d = 0) (h2 : itvB n.toNat (ratX a b) (ratX c d) = true) : itvV n a b c d = .tuple #[.int .i64 0, .int .i64 0, .bool false, .int .i64 0] := by unfold itvV; rw [if_neg (by omega), if_pos h2]
theorem itvV_some {n : Int} {a b c d : List UInt8} (h : itvC n a b c d = 0) (h2 : itvB n.toNat (ratX a b) (ratX c d) = false) : itvV n a b c d = .tuple #[.int .i64 (itvLo (itvL n.toNat (ratX a b)) ((ratX a b).den ^ n.toNat) (ratX c d) n.toNat : Nat), .int .i64 (itvHi (itvL n.toNat (ratX a b)) ((ratX a b).den ^ n.toNat) (ratX c d) n.toNat : Nat), .bool true, .int .i64 0] := by unfold itvV; rw [if_neg (by omega), if_neg (by rw [h2]; decide)]
theorem itvLo_succ (L : List Nat) (D : Nat) (r : Rat) (j : Nat) : itvLo L D r (j + 1) = if smB (L.take (j + 1)).sum D r = true then j + 1 else itvLo L D r j := rfl
theorem itvDn_succ (L : List Nat) (D : Nat) (r : Rat) (n j : Nat) : itvDn L D r n (j + 1) = if smB (L.drop (n - j)).sum D r = true then n - j else itvDn L D r n j := rfl
theorem itvDn_all (L : List Nat) (D : Nat) (r : Rat) (n : Nat) : itvDn L D r n n = itvHi L D r n := down_first _ n
theorem sum_drop_le (L : List Nat) (m : Nat) : (L.drop m).sum ≤ L.sum := by
  have h : (L.take m ++ L.drop m).sum = L.sum := by rw [List.take_append_drop]
  rw [List.sum_append] at h
  omega
set_option maxHeartbeats 8000000 in
set_option maxRecDepth 100000 in
theorem jInterval_any (Sa Sb Sc Sd : ByteArray) (a b c d : List UInt8) (n : Int) (w : World) (hSa : Sa.data.toList = a) (hSb : Sb.data.toList = b) (hSc : Sc.data.toList = c) (hSd : Sd.data.toList = d) (ha : Sa.size ≤ 9223372036854775800) (hb : Sb.size ≤ 9223372036854775800) (hc : Sc.size ≤ 9223372036854775800) (hd : Sd.size ≤ 9223372036854775800) :
    Calls Tryz.prog 7 #[.int .i64 n, .agg #[.string Sa, .string Sb], .agg #[.string Sc, .string Sd]] w fun e w' => e = .returned (itvV n a b c d) ∧ Below w.heap.size w w' := by
  obtain ⟨W0, hW0⟩ : ∃ W0, W0 = (w.alloc (.cells #[.string Sa, .string Sb] 23)).alloc (.cells #[.string Sc, .string Sd] 23) := ⟨_, rfl⟩
  have HST0 := Lib.hid (show St w W0 [(w.heap.size, .cells #[.string Sa, .string Sb] 23 (0, 0)), (w.heap.size + 1, .cells #[.string Sc, .string Sd] 23 (0, 0))] by rw [hW0]; exact ((St.start w).alloc _ _ rfl).alloc _ _ (by simp))
  have HK := Lib.hid (show ∀ X, Below W0.heap.size W0 X → X.cell? ⟨w.heap.size, 0, none⟩ = some (.string Sa) ∧ X.cell? ⟨w.heap.size, 1, none⟩ = some (.string Sb) ∧ X.cell? ⟨w.heap.size + 1, 0, none⟩ = some (.string Sc) ∧ X.cell? ⟨w.heap.size + 1, 1, none⟩ = some (.string Sd) from fun X hX => ⟨(HST0.out.call hX).cell 0 0 rfl rfl, (HST0.out.call hX).cell 0 1 rfl rfl, (HST0.out.call hX).cell 1 0 rfl rfl, (HST0.out.call hX).cell 1 1 rfl rfl⟩)
  obtain ⟨p0, p1, p2, p3⟩ := HK.out W0 (Below.refl _ _)
  have HIN := Lib.hid (fun W => jInside_any n 1 200 W)
  by_cases hn : n < 1 ∨ 200 < n
  · rw [itvV_bad (by rw [itvC_range hn]; decide), itvC_range hn]
    have hin : (decide (1 ≤ n) && decide (n ≤ 200)) = false := by
      rw [Bool.eq_false_iff]; simp; omega
    rw [hin] at HIN
    clear hn hin hSa hSb hSc hSd ha hb hc hd
    go_enter Tryz.func7, Tryz.ntmps7
    go_wp2_with fail
    rw [← hW0]
    clear hW0
    go_wp2_with fail
    (with_reducible refine (HIN.out _).mono ?_)
    rintro e wi ⟨rfl, hwi⟩
    have hwi' := hwi.symm
    subst hwi'
    go_wp2
    refine bodyPost_ret (v := .tuple #[.int .i64 0, .int .i64 0, .bool false, .int .i64 9]) (by simp [results, Tryz.results7, go_sem]) rfl ⟨rfl, HST0.out.below⟩
  · have hin : (decide (1 ≤ n) && decide (n ≤ 200)) = true := by
      rw [Bool.and_eq_true, decide_eq_true_eq, decide_eq_true_eq]; omega
    rw [hin] at HIN
    clear hin
    by_cases h1 : shC .between a b = 0
    · have HSQ := Lib.hid (fun W => (show Calls Tryz.prog 30 #[.agg #[.string Sa, .string Sb], .func (.func 31) #[] #[]] W _ from jShort_good .between Sa Sb a b W hSa hSb ha hb h1))
      by_cases h2 : shC .between c d = 0
      · have HSR := Lib.hid (fun W => (show Calls Tryz.prog 30 #[.agg #[.string Sc, .string Sd], .func (.func 31) #[] #[]] W _ from jShort_good .between Sc Sd c d W hSc hSd hc hd h2))
        obtain ⟨N, rfl⟩ : ∃ N : Nat, n = N := ⟨n.toNat, by omega⟩
        have hcz : itvC (N : Int) a b c d = 0 := by rw [itvC_two hn h1]; exact h2
        have hVN := itvV_none (n := (N : Int)) hcz
        have hVS := itvV_some (n := (N : Int)) hcz
        rw [Int.toNat_natCast] at hVN hVS
        obtain ⟨V, hV⟩ : ∃ V, V = itvV (N : Int) a b c d := ⟨_, rfl⟩
        rw [← hV] at hVN hVS ⊢
        obtain ⟨z1, z2, z3, z4⟩ := shC_small h1
        obtain ⟨y1, y2, y3, y4⟩ := shC_small h2
        have hlt := (shC_zero h1).2.2.2
        simp only [inQ, Bool.and_eq_true, decide_eq_true_eq] at hlt
        obtain ⟨q, hq⟩ : ∃ q, q = ratX a b := ⟨_, rfl⟩
        obtain ⟨r, hr⟩ : ∃ q, q = ratX c d := ⟨_, rfl⟩
        rw [← hq] at HSQ hVN hVS z1 z2 z3 hlt
        rw [← hr] at HSR hVN hVS y1 y2 y3
        have hW : (1 : Nat) < W64 := by unfold W64; omega
        obtain ⟨K, hK0, hK1⟩ : ∃ K, 401 ≤ K ∧ K ≤ 401 := ⟨401, Nat.le_refl _, Nat.le_refl _⟩
        have hW1 : ∀ z, z < 1000000 → z < W64 ^ K := fun z hz => Nat.lt_of_lt_of_le (show z < W64 ^ 1 by unfold W64; omega) (Nat.pow_le_pow_right (by omega) (by omega))
        have HR1 := Lib.hid (hW1 _ y1)
        have HR2 := Lib.hid (hW1 _ y2)
        obtain ⟨L, hL⟩ : ∃ L, L = itvL N q := ⟨_, rfl⟩
        rw [← hL] at hVS
        have hB : itvB N q r = (decide (itvLo L (q.den ^ N) r N = 0) || decide (itvHi L (q.den ^ N) r N = 0)) := by rw [hL]; rfl
        unfold itvL at hL
        obtain ⟨x, hx⟩ : ∃ x, x = frN q := ⟨_, rfl⟩
        obtain ⟨y, hy⟩ : ∃ y, y = q.den := ⟨_, rfl⟩
        rw [← hx, ← hy] at hL HSQ
        rw [← hy] at hVS hB z2 z3 hlt
        rw [← hx] at z1 hlt
        rw [hB] at hVN hVS
        have hyW : y ≤ W64 ^ 2 := Nat.le_trans (Nat.le_of_lt z2) (by unfold W64; decide)
        have hy3 : y < W64 ^ 3 := Nat.lt_of_le_of_lt hyW (Nat.pow_lt_pow_right hW (by omega))
        have hpw : y ^ N < W64 ^ K := Nat.lt_of_lt_of_le (pow_small (K := 2) (n := N) hyW hW) (Nat.pow_le_pow_right (by omega) (by omega))
        have hxy : x + (y - x) = y := by omega
        have hLL : L.length = N + 1 := by rw [hL, bwL_length]
        have HTK := Lib.hid (show ∀ j, j ≤ N + 1 → (L.take j).sum < W64 ^ K from fun j hj => by rw [hL, bwL_sum _ _ _ _ hj]; exact Nat.lt_of_le_of_lt (bwS_le x (y - x) N j hj) (by rw [hxy]; exact hpw))
        have hls : L.sum < W64 ^ K := by have := HTK.out (N + 1) (Nat.le_refl _); rwa [List.take_of_length_le (by omega)] at this
        have HDR := Lib.hid (show ∀ m, (L.drop m).sum < W64 ^ K from fun m => Nat.lt_of_le_of_lt (sum_drop_le L m) hls)
        have HROW := Lib.hid (fun W u (hu : JF W u false x y) => jRow_any N u x y W hu (by omega) (by omega) hyW)
        rw [← hL] at HROW
        have HPW := Lib.hid (fun W A c l (h : NatR W A c l y) => natPow_any A c l y N 3 W h hy3 (by omega) (by omega))
        obtain ⟨D, hD⟩ : ∃ D, D = y ^ N := ⟨_, rfl⟩
        rw [← hD] at HPW hpw hVN hVS
        have HDW := Lib.hid hpw
        have HVN := Lib.hid hVN
        have HVS := Lib.hid hVS
        have HLL := Lib.hid hLL
        have hN1 : 1 ≤ N := by omega
        have hN2 : N ≤ 200 := by omega
        clear hcz hV hVN hVS z1 z2 z3 z4 y1 y2 y3 y4 hlt hq hr hL hB hx hy hyW hy3 hpw hxy hLL hls hD hW1 h1 h2 hn hSa hSb hSc hSd ha hb hc hd
        go_enter Tryz.func7, Tryz.ntmps7
        go_wp2_with fail
        rw [← hW0]
        clear hW0
        go_wp2_with fail
        (with_reducible refine (HIN.out _).mono ?_)
        rintro e wi ⟨rfl, hwi⟩
        have hwi' := hwi.symm
        subst hwi'
        go_wp2_with fail
        (with_reducible refine (HSQ.out _).mono ?_)
        rintro e w1 ⟨A1, c1, l1, A2, c2, l2, rfl, h1, h2, hb1⟩
        obtain ⟨W2, hW2⟩ : ∃ W2, W2 = w1.alloc (.cells #[.bool false, .slice A1 l1.length c1, .slice A2 l2.length c2] 53) := ⟨_, rfl⟩
        have hb12 : Below w1.heap.size w1 W2 := by rw [hW2]; exact (Below.refl _ w1).alloc (Nat.le_refl _) _
        have HN1 := Lib.hid (h1.on hb12)
        have HN2 := Lib.hid (h2.on hb12)
        have HBX := Lib.hid (show W2.heap[w1.heap.size]? = some (.cells #[.bool false, .slice A1 l1.length c1, .slice A2 l2.length c2] 53 (0, 0)) by rw [hW2]; exact alloc_at _ _ _ rfl)
        have HB2 := Lib.hid (below_next hb1 hb12)
        clear p0 p1 p2 p3 h1 h2 hb1 hb12
        obtain ⟨p0, p1, p2, p3⟩ := HK.out W2 HB2.out
        have o2 := p2
        have o3 := p3
        rw [hW2] at o2 o3
        clear p0 p1 p2 p3
        go_wp2_with fail
        rw [← hW2]
        clear hW2 o2 o3
        (with_reducible refine (HSR.out _).mono ?_)
        rintro e w3 ⟨A3, c3, l3, A4, c4, l4, rfl, h3, h4, hb3⟩
        obtain ⟨W4, hW4⟩ : ∃ W4, W4 = w3.alloc (.cells #[.bool false, .slice A3 l3.length c3, .slice A4 l4.length c4] 53) := ⟨_, rfl⟩
        have hb34 : Below w3.heap.size w3 W4 := by rw [hW4]; exact (Below.refl _ w3).alloc (Nat.le_refl _) _
        have HJR := Lib.hid (show JVar W4 w3.heap.size false (frN r) r.den from ⟨A3, c3, l3, A4, c4, l4, by rw [hW4]; exact alloc_at _ _ _ rfl, h3.on hb34, h4.on hb34⟩)
        have hb24 := below_next hb3 hb34
        have HB4 := Lib.hid (below_next HB2.out hb24)
        have HN1' := Lib.hid (HN1.out.on hb24)
        have HN2' := Lib.hid (HN2.out.on hb24)
        have e := (hb24.block _ (heap_lt HBX.out)).trans HBX.out
        have HBX4 := Lib.hid e
        have o0 : W4.cell? ⟨w1.heap.size, 0, none⟩ = some (.bool false) := by rw [cellsAt e]; rfl
        have o1 : W4.cell? ⟨w1.heap.size, 1, none⟩ = some (.slice A1 l1.length c1) := by rw [cellsAt e]; rfl
        have o2 : W4.cell? ⟨w1.heap.size, 2, none⟩ = some (.slice A2 l2.length c2) := by rw [cellsAt e]; rfl
        rw [hW4] at o0 o1 o2
        clear h3 h4 hb3 hb34 hb24 e
        go_wp2_with fail
        rw [← hW4]
        clear hW4 o0 o1 o2
        (with_reducible refine (HROW.out W4 _ (jf_mk HN1'.out HN2'.out)).mono ?_)
        rintro e w5 ⟨g, ns, rfl, hrow, hvals, hgw, hb5⟩
        have hnl : ns.length = N + 1 := by have := congrArg List.length hvals; rwa [nmVals_length, HLL.out] at this
        have HRW := Lib.hid hrow
        have HVL := Lib.hid hvals
        have HB5 := Lib.hid (below_next HB4.out hb5)
        have HB45 := Lib.hid hb5
        have e := (hb5.block _ (heap_lt HBX4.out)).trans HBX4.out
        have g2 : w5.cell? ⟨w1.heap.size, 2, none⟩ = some (.slice A2 l2.length c2) := by rw [cellsAt e]; rfl
        have HPP := Lib.hid (HPW.out w5 A2 c2 l2 (HN2'.out.on hb5))
        clear hrow hvals hgw hb5 e
        go_wp2_with fail
        (with_reducible refine (HPP.out).mono ?_)
        rintro e w6 ⟨A9, c9, l9, rfl, hn9, hb6⟩
        obtain ⟨W7, hW7⟩ : ∃ W7, W7 = w6.alloc (.cells #[.slice A9 l9.length c9] 51) := ⟨_, rfl⟩
        have hb67 : Below w6.heap.size w6 W7 := by rw [hW7]; exact (Below.refl _ w6).alloc (Nat.le_refl _) _
        have hb57 := below_next hb6 hb67
        have HB7 := Lib.hid (below_next HST0.out.below (below_next HB5.out hb57))
        have HJR7 := Lib.hid (HJR.out.on (below_next HB45.out hb57))
        have HNB7 := Lib.hid (show NBox W7 w6.heap.size A9 c9 l9 by rw [hW7]; exact alloc_at _ _ _ rfl)
        have HN9 := Lib.hid (hn9.on hb67)
        have HRW7 := Lib.hid (HRW.out.on hb57)
        have HSM := Lib.hid (fun W A c l z (hb : Below W7.heap.size W7 W) (h : NatR W A c l z) (hz : z < W64 ^ K) => jSmall_any A A9 c c9 l l9 z D K w3.heap.size w6.heap.size r W h (HN9.out.on hb) (HJR7.out.on hb) (HNB7.out.on hb) hz HDW.out HR1.out HR2.out (by omega))
        clear hn9 hb6 hb67 hb57 g2 HPP
        go_wp2
        rw [← hW7]
        clear hW7
        go_loopw [6, 7, 16, 17, 18] (fun lo hi av bv kv wr => ∃ i : Nat, kv = .int .i64 (i : Nat) ∧ 1 ≤ i ∧ i ≤ N + 1 ∧ lo = .int .i64 ((itvLo L D r (i - 1) : Nat) : Int) ∧ hi = .int .i64 ((itvDn L D r N (i - 1) : Nat) : Int) ∧ (∃ A c l, av = .slice A (l : List Nat).length c ∧ NatR wr A c l (L.take (i - 1)).sum) ∧ (∃ A c l, bv = .slice A (l : List Nat).length c ∧ NatR wr A c l (L.drop (N + 2 - i)).sum) ∧ Below W7.heap.size W7 wr) (fun _ _ _ _ kv _ => N + 1 - (intOf kv).toNat)
        case atStart => exact ⟨1, rfl, by omega, by omega, rfl, rfl, ⟨none, 0, [], rfl, by rw [show 1 - 1 = 0 from rfl, List.take_zero]; exact natr_nil _⟩, ⟨none, 0, [], rfl, by rw [List.drop_of_length_le (by rw [HLL.out]; omega)]; exact natr_nil _⟩, Below.refl _ _⟩
        case round =>
          obtain ⟨i, rfl, hi1, hi2, rfl, rfl, ⟨Aa, ca, la, rfl, hna⟩, ⟨Ab, cb, lb, rfl, hnb⟩, hbw⟩ := hrel
          have HBW := Lib.hid hbw
          by_cases hlt : i ≤ N
          · obtain ⟨j, hj⟩ : ∃ j : Nat, (i : Int) - 1 = (j : Int) := ⟨i - 1, by omega⟩
            obtain ⟨m, hm⟩ : ∃ m : Nat, (N : Int) + 1 - (i : Int) = (m : Int) := ⟨N + 1 - i, by omega⟩
            have HIJ := Lib.hid (show i = j + 1 by omega)
            have HMJ := Lib.hid (show m = N - j by omega)
            have hjl : j ≤ N := by omega
            have hml : m ≤ N := by omega
            obtain ⟨LO, hLO⟩ : ∃ LO, LO = itvLo L D r (i - 1) := ⟨_, rfl⟩
            obtain ⟨HI, hHI⟩ : ∃ HI, HI = itvDn L D r N (i - 1) := ⟨_, rfl⟩
            rw [← hLO, ← hHI]
            obtain ⟨za, hza⟩ : ∃ z, ns[j]? = some z := ⟨ns[j]'(by omega), List.getElem?_eq_getElem (by omega)⟩
            obtain ⟨zb, hzb⟩ : ∃ z, ns[m]? = some z := ⟨ns[m]'(by omega), List.getElem?_eq_getElem (by omega)⟩
            have hax : L[j]? = some za.x := by have := nmVals_get hza; rwa [HVL.out] at this
            have hbx : L[m]? = some zb.x := by have := nmVals_get hzb; rwa [HVL.out] at this
            have hta := sum_take_succ hax
            have hdb := sum_drop_at hbx
            have hrr := HRW7.out.on hbw
            have q0 : wr.cell? ⟨g, j, none⟩ = some (.slice za.A za.l.length za.c) := hrr.1.cell (nmCells_get hza)
            have hnza := hrr.2 za (List.mem_of_getElem? hza)
            rw [show i - 1 = j by omega] at hna hLO hHI
            rw [show N + 2 - i = m + 1 by omega] at hnb
            have hla : la.length ≤ K := hna.len (HTK.out j (by omega))
            have hlb : lb.length ≤ K := hnb.len (HDR.out (m + 1))
            have hlza : za.l.length ≤ K := hnza.len (by have := HTK.out (j + 1) (by omega); omega)
            have HA1 := Lib.hid (natAdd_any Aa za.A ca za.c la za.l _ za.x wr hna hnza (by omega) (by omega))
            rw [← hta] at HA1
            have HNB := Lib.hid hnb
            have HZB := Lib.hid hzb
            have HDB := Lib.hid hdb
            obtain ⟨b1, hb1⟩ : ∃ b1, b1 = smB (L.take (j + 1)).sum D r := ⟨_, rfl⟩
            obtain ⟨b2, hb2⟩ : ∃ b2, b2 = smB (L.drop m).sum D r := ⟨_, rfl⟩
            have HE1 := Lib.hid hb1
            have HE2 := Lib.hid hb2
            have HLO1 := Lib.hid (show itvLo L D r (i + 1 - 1) = if b1 = true then i else LO by rw [show i + 1 - 1 = j + 1 by omega, itvLo_succ, ← hb1, ← hLO, HIJ.out])
            have HHI1 := Lib.hid (show itvDn L D r N (i + 1 - 1) = if b2 = true then m else HI by rw [show i + 1 - 1 = j + 1 by omega, itvDn_succ, ← HMJ.out, ← hb2, ← hHI])
            have HTK1 := Lib.hid (show L.take (i + 1 - 1) = L.take (j + 1) by rw [show i + 1 - 1 = j + 1 by omega])
            have HDR1 := Lib.hid (show L.drop (N + 2 - (i + 1)) = L.drop m by rw [show N + 2 - (i + 1) = m by omega])
            clear hna hnb hbw hza hzb hax hbx hta hdb hrr hnza hb1 hb2 hLO hHI
            go_wp2_with fail
            (with_reducible refine (HA1.out).mono ?_)
            rintro e w8 ⟨A8, c8, l8, rfl, hn8, hb8⟩
            have HB8 := Lib.hid (below_next HBW.out hb8)
            have HC1 := Lib.hid (HSM.out w8 A8 c8 l8 _ HB8.out hn8 (HTK.out (j + 1) (by omega)))
            rw [← HE1.out] at HC1
            have HN8 := Lib.hid hn8
            have HBR8 := Lib.hid hb8
            clear HA1 hn8 hb8 q0
            go_wp2_with fail
            (with_reducible refine (HC1.out).mono ?_)
            rintro e w9 ⟨rfl, hb9⟩
            have HB9 := Lib.hid (below_next HB8.out hb9)
            have HN8D := Lib.hid (HN8.out.on hb9)
            have hrr := HRW7.out.on HB9.out
            have q1 : w9.cell? ⟨g, m, none⟩ = some (.slice zb.A zb.l.length zb.c) := hrr.1.cell (nmCells_get HZB.out)
            have hnzb := hrr.2 zb (List.mem_of_getElem? HZB.out)
            have hlzb : zb.l.length ≤ K := hnzb.len (by have := HDR.out m; have := HDB.out; omega)
            have HA2 := Lib.hid (natAdd_any Ab zb.A cb zb.c lb zb.l _ zb.x w9 (HNB.out.on (below_next HBR8.out hb9)) hnzb (by omega) (by omega))
            rw [← HDB.out] at HA2
            clear HC1 hb9 hrr hnzb
            cases b1 with
            | false =>
              go_wp2_with fail
              (with_reducible refine (HA2.out).mono ?_)
              rintro e w10 ⟨A10, c10, l10, rfl, hn10, hb10⟩
              have HC2 := Lib.hid (HSM.out w10 A10 c10 l10 _ (below_next HB9.out hb10) hn10 (HDR.out m))
              rw [← HE2.out] at HC2
              have HN10 := Lib.hid hn10
              have HB10 := Lib.hid (below_next HB9.out hb10)
              have HN8E := Lib.hid (HN8D.out.on hb10)
              clear HA2 hn10 hb10 q1
              go_wp2_with fail
              (with_reducible refine (HC2.out).mono ?_)
              rintro e w11 ⟨rfl, hb11⟩
              have HB11 := Lib.hid (below_next HB10.out hb11)
              have HN8F := Lib.hid (HN8E.out.on hb11)
              have HN10F := Lib.hid (HN10.out.on hb11)
              clear HC2 hb11
              cases b2 with
              | false =>
                go_wp2
                go_roundw
                case rel => exact ⟨i + 1, by go_num, by omega, by omega, by rw [HLO1.out]; rfl, by rw [HHI1.out]; rfl, ⟨A8, c8, l8, rfl, by rw [HTK1.out]; exact HN8F.out⟩, ⟨A10, c10, l10, rfl, by rw [HDR1.out]; exact HN10F.out⟩, HB11.out⟩
                case measure => simp [intOf]; omega
              | true =>
                go_wp2
                go_roundw
                case rel => exact ⟨i + 1, by go_num, by omega, by omega, by rw [HLO1.out]; rfl, by rw [HHI1.out]; rfl, ⟨A8, c8, l8, rfl, by rw [HTK1.out]; exact HN8F.out⟩, ⟨A10, c10, l10, rfl, by rw [HDR1.out]; exact HN10F.out⟩, HB11.out⟩
                case measure => simp [intOf]; omega
            | true =>
              go_wp2_with fail
              (with_reducible refine (HA2.out).mono ?_)
              rintro e w10 ⟨A10, c10, l10, rfl, hn10, hb10⟩
              have HC2 := Lib.hid (HSM.out w10 A10 c10 l10 _ (below_next HB9.out hb10) hn10 (HDR.out m))
              rw [← HE2.out] at HC2
              have HN10 := Lib.hid hn10
              have HB10 := Lib.hid (below_next HB9.out hb10)
              have HN8E := Lib.hid (HN8D.out.on hb10)
              clear HA2 hn10 hb10 q1
              go_wp2_with fail
              (with_reducible refine (HC2.out).mono ?_)
              rintro e w11 ⟨rfl, hb11⟩
              have HB11 := Lib.hid (below_next HB10.out hb11)
              have HN8F := Lib.hid (HN8E.out.on hb11)
              have HN10F := Lib.hid (HN10.out.on hb11)
              clear HC2 hb11
              cases b2 with
              | false =>
                go_wp2
                go_roundw
                case rel => exact ⟨i + 1, by go_num, by omega, by omega, by rw [HLO1.out]; rfl, by rw [HHI1.out]; rfl, ⟨A8, c8, l8, rfl, by rw [HTK1.out]; exact HN8F.out⟩, ⟨A10, c10, l10, rfl, by rw [HDR1.out]; exact HN10F.out⟩, HB11.out⟩
                case measure => simp [intOf]; omega
              | true =>
                go_wp2
                go_roundw
                case rel => exact ⟨i + 1, by go_num, by omega, by omega, by rw [HLO1.out]; rfl, by rw [HHI1.out]; rfl, ⟨A8, c8, l8, rfl, by rw [HTK1.out]; exact HN8F.out⟩, ⟨A10, c10, l10, rfl, by rw [HDR1.out]; exact HN10F.out⟩, HB11.out⟩
                case measure => simp [intOf]; omega
          · obtain rfl : i = N + 1 := by omega
            obtain ⟨LO, hLO⟩ : ∃ LO, LO = itvLo L D r (N + 1 - 1) := ⟨_, rfl⟩
            obtain ⟨HI, hHI⟩ : ∃ HI, HI = itvDn L D r N (N + 1 - 1) := ⟨_, rfl⟩
            rw [← hLO, ← hHI]
            rw [show N + 1 - 1 = N by omega] at hLO hHI
            rw [itvDn_all] at hHI
            have HBE := Lib.hid (below_next HB7.out hbw)
            have HVN' := HVN.out
            have HVS' := HVS.out
            rw [← hLO, ← hHI] at HVN' HVS'
            have HVN2 := Lib.hid HVN'
            have HVS2 := Lib.hid HVS'
            clear hna hnb hbw HVN' HVS' hLO hHI
            by_cases hl0 : LO = 0
            · have hv := HVN2.out (by rw [hl0]; rfl)
              have HVV := Lib.hid hv
              have tl : ((LO : Int) == 0) = true := by rw [hl0]; rfl
              subst hl0
              clear hv
              go_wp2
              refine bodyPost_ret (v := .tuple #[.int .i64 0, .int .i64 0, .bool false, .int .i64 0]) (by simp [results, Tryz.results7, go_sem]) rfl ⟨by rw [HVV.out], HBE.out⟩
            · have tl : ((LO : Int) == 0) = false := by rw [beq_eq_false_iff_ne]; omega
              have el := decide_eq_false hl0
              by_cases hh0 : HI = 0
              · have hv := HVN2.out (by rw [hh0]; simp)
                have HVV := Lib.hid hv
                subst hh0
                clear hv
                go_wp2
                refine bodyPost_ret (v := .tuple #[.int .i64 0, .int .i64 0, .bool false, .int .i64 0]) (by simp [results, Tryz.results7, go_sem]) rfl ⟨by rw [HVV.out], HBE.out⟩
              · have th : ((HI : Int) == 0) = false := by rw [beq_eq_false_iff_ne]; omega
                have hv := HVS2.out (by rw [decide_eq_false hl0, decide_eq_false hh0]; rfl)
                have HVV := Lib.hid hv
                clear hv el
                go_wp2
                refine bodyPost_ret (v := .tuple #[.int .i64 (LO : Int), .int .i64 (HI : Int), .bool true, .int .i64 0]) (by simp [results, Tryz.results7, go_sem]) rfl ⟨by rw [HVV.out], HBE.out⟩
      · have HSR := Lib.hid (fun W => (show Calls Tryz.prog 30 #[.agg #[.string Sc, .string Sd], .func (.func 31) #[] #[]] W _ from jShort_bad .between Sc Sd c d W hSc hSd hc hd h2))
        rw [itvV_bad (by rw [itvC_two hn h1]; exact h2), itvC_two hn h1]
        obtain ⟨cc, hcc⟩ : ∃ cc, cc = shC .between c d := ⟨_, rfl⟩
        rw [← hcc] at HSR h2 ⊢
        have t2 : (cc != 0) = true := by rw [bne_iff_ne]; exact h2
        clear h1 h2 hcc hn hSa hSb hSc hSd ha hb hc hd
        go_enter Tryz.func7, Tryz.ntmps7
        go_wp2_with fail
        rw [← hW0]
        clear hW0
        go_wp2_with fail
        (with_reducible refine (HIN.out _).mono ?_)
        rintro e wi ⟨rfl, hwi⟩
        have hwi' := hwi.symm
        subst hwi'
        go_wp2_with fail
        (with_reducible refine (HSQ.out _).mono ?_)
        rintro e w1 ⟨A1, c1, l1, A2, c2, l2, rfl, h1, h2, hb1⟩
        obtain ⟨W2, hW2⟩ : ∃ W2, W2 = w1.alloc (.cells #[.bool false, .slice A1 l1.length c1, .slice A2 l2.length c2] 53) := ⟨_, rfl⟩
        have hb12 : Below w1.heap.size w1 W2 := by rw [hW2]; exact (Below.refl _ w1).alloc (Nat.le_refl _) _
        have HN1 := Lib.hid (h1.on hb12)
        have HN2 := Lib.hid (h2.on hb12)
        have HBX := Lib.hid (show W2.heap[w1.heap.size]? = some (.cells #[.bool false, .slice A1 l1.length c1, .slice A2 l2.length c2] 53 (0, 0)) by rw [hW2]; exact alloc_at _ _ _ rfl)
        have HB2 := Lib.hid (below_next hb1 hb12)
        clear p0 p1 p2 p3 h1 h2 hb1 hb12
        obtain ⟨p0, p1, p2, p3⟩ := HK.out W2 HB2.out
        have o2 := p2
        have o3 := p3
        rw [hW2] at o2 o3
        clear p0 p1 p2 p3
        go_wp2_with fail
        rw [← hW2]
        clear hW2 o2 o3
        (with_reducible refine (HSR.out _).mono ?_)
        rintro e w3 ⟨rfl, hb3⟩
        have HB3 := Lib.hid (fun o => ((below_next HST0.out.below (below_next HB2.out hb3)).alloc (below_next HST0.out.below (below_next HB2.out hb3)).size o))
        clear hb3
        go_wp2
        refine bodyPost_ret (v := .tuple #[.int .i64 0, .int .i64 0, .bool false, .int .i64 cc]) (by simp [results, Tryz.results7, go_sem]) rfl ⟨rfl, HB3.out _⟩
    · have HSQ := Lib.hid (fun W => (show Calls Tryz.prog 30 #[.agg #[.string Sa, .string Sb], .func (.func 31) #[] #[]] W _ from jShort_bad .between Sa Sb a b W hSa hSb ha hb h1))
      rw [itvV_bad (by rw [itvC_one hn h1]; exact h1), itvC_one hn h1]
      obtain ⟨cc, hcc⟩ : ∃ cc, cc = shC .between a b := ⟨_, rfl⟩
      rw [← hcc] at HSQ h1 ⊢
      have t2 : (cc != 0) = true := by rw [bne_iff_ne]; exact h1
      clear h1 hcc hn hSa hSb hSc hSd ha hb hc hd
      go_enter Tryz.func7, Tryz.ntmps7
      go_wp2_with fail
      rw [← hW0]
      clear hW0
      go_wp2_with fail
      (with_reducible refine (HIN.out _).mono ?_)
      rintro e wi ⟨rfl, hwi⟩
      have hwi' := hwi.symm
      subst hwi'
      go_wp2_with fail
      (with_reducible refine (HSQ.out _).mono ?_)
      rintro e w1 ⟨rfl, hb1⟩
      have HB3 := Lib.hid (fun o => ((below_next HST0.out.below hb1).alloc (below_next HST0.out.below hb1).size o))
      clear hb1
      go_wp2
      refine bodyPost_ret (v := .tuple #[.int .i64 0, .int .i64 0, .bool false, .int .i64 cc]) (by simp [results, Tryz.results7, go_sem]) rfl ⟨rfl, HB3.out _⟩
end Go.Proofs.YtpmnhdgajkickaaGreatDoor
