import Derived.Test.YtlkjgjojahjapaaGreatDoorR10Trl
import Derived.Test.YtlkjgjojahjapaaGreatDoorG19
import Derived.Test.YtlkjgjojahjapaaGreatDoorG31
import Derived.Test.YtlkjgjojahjapaaGreatDoorG34
import Derived.Test.YtlkjgjojahjapaaGreatDoorNatDivK
/- The reference's trials: high, low, isHigh, isLow. Printed by gen_r10trl2.py. -/
namespace Go.Proofs.YtlkjgjojahjapaaGreatDoor
open Go Go.RowKit Go.Proofs

set_option maxHeartbeats 8000000 in
set_option maxRecDepth 100000 in
theorem rHigh_any (S0 S1 S2 S3 S4 S5 S6 S7 : ByteArray) (A1 A2 : Option Addr) (c1 c2 : Nat) (l1 l2 : List Nat) (x y K : Nat) (r : Rat) (w : World) (hr : prQ (S4, S5) = r) (k0 : cRt S4.data.toList S5.data.toList = 0) (hd : r.den < 1000000) (hn : frN r < 1000000) (h1 : RNatR w A1 c1 l1 x) (h2 : RNatR w A2 c2 l2 y) (hx : x < T4 ^ K) (hy : y < T4 ^ K) (hK : K ≤ 100000) :
    Calls Tryz.prog 129 #[.agg #[.string S0, .string S1, .string S2, .string S3, .string S4, .string S5, .string S6, .string S7], .slice A1 l1.length c1, .slice A2 l2.length c2] w fun e w' => e = .returned (.bool (hiT r x y)) ∧ Below w.heap.size w w' := by
  obtain ⟨W0, hW0⟩ : ∃ W0, W0 = w.alloc (.cells #[.string S0, .string S1, .string S2, .string S3, .string S4, .string S5, .string S6, .string S7] 25) := ⟨_, rfl⟩
  have HST0 := Lib.hid (show St w W0 [(w.heap.size, .cells #[.string S0, .string S1, .string S2, .string S3, .string S4, .string S5, .string S6, .string S7] 25 (0, 0))] by rw [hW0]; exact (St.start w).alloc _ _ rfl)
  have HK := Lib.hid (show ∀ X, Below W0.heap.size W0 X → X.cell? ⟨w.heap.size, 0, none⟩ = some (.string S0) ∧ X.cell? ⟨w.heap.size, 1, none⟩ = some (.string S1) ∧ X.cell? ⟨w.heap.size, 2, none⟩ = some (.string S2) ∧ X.cell? ⟨w.heap.size, 3, none⟩ = some (.string S3) ∧ X.cell? ⟨w.heap.size, 4, none⟩ = some (.string S4) ∧ X.cell? ⟨w.heap.size, 5, none⟩ = some (.string S5) ∧ X.cell? ⟨w.heap.size, 6, none⟩ = some (.string S6) ∧ X.cell? ⟨w.heap.size, 7, none⟩ = some (.string S7) from fun X hX => ⟨(HST0.out.call hX).cell 0 0 rfl rfl, (HST0.out.call hX).cell 0 1 rfl rfl, (HST0.out.call hX).cell 0 2 rfl rfl, (HST0.out.call hX).cell 0 3 rfl rfl, (HST0.out.call hX).cell 0 4 rfl rfl, (HST0.out.call hX).cell 0 5 rfl rfl, (HST0.out.call hX).cell 0 6 rfl rfl, (HST0.out.call hX).cell 0 7 rfl rfl⟩)
  obtain ⟨p0, p1, p2, p3, p4, p5, p6, p7⟩ := HK.out W0 (Below.refl _ _)
  have HF1 := Lib.hid (fun W => rFrom_any S4 S5 _ _ W rfl rfl k0)
  rw [show ratX S4.data.toList S5.data.toList = r from hr] at HF1
  have hl1 := h1.len hx
  have hl2 := h2.len hy
  have x3 : frN r < T4 ^ 2 := T4_2 hn
  have x4 : r.den < T4 ^ 2 := T4_2 hd
  have hm := fun (s t : Nat) (hs : s < T4 ^ K) (ht : t < T4 ^ 2) => T4_mul hs ht
  have HM1 := Lib.hid (fun W A c l (hb : Below w.heap.size w W) (h : RNatR W A c l (frN r)) => rnatMul_any A1 A c1 c l1 l x _ W (h1.on hb) h (by omega) (by have := h.len (n := 2) (by first | exact x3 | exact x4); omega))
  have HM2 := Lib.hid (fun W A c l (hb : Below w.heap.size w W) (h : RNatR W A c l (r.den)) => rnatMul_any A2 A c2 c l2 l y _ W (h2.on hb) h (by omega) (by have := h.len (n := 2) (by first | exact x3 | exact x4); omega))
  have HC1 := Lib.hid (fun W A A' c c' l l' (g : RNatR W A c l (x * (frN r))) (g' : RNatR W A' c' l' (y * (r.den))) => (rnatCmp_any A A' c c' l l' _ _ W g g' (by have := g.len (hm _ _ hx (by first | exact x3 | exact x4)); omega) (by have := g'.len (hm _ _ hy (by first | exact x3 | exact x4)); omega)).mono (R' := fun e w' => e = .returned (.int .i64 (cmpN (x * (frN r)) (y * (r.den)))) ∧ Below W.heap.size W w') fun e w' ⟨he, q, hq⟩ => ⟨he, by rw [hq]; exact below_drewN (Below.refl _ _) q⟩)
  obtain ⟨k, hk⟩ : ∃ k, k = cmpN (x * (frN r)) (y * (r.den)) := ⟨_, rfl⟩
  have hv : hiT r x y = decide (0 ≤ k) := by rw [hk, geT]; rfl
  rw [← hk] at HC1
  rw [hv]
  obtain ⟨t, ht⟩ : ∃ t, t = decide (0 ≤ k) := ⟨_, rfl⟩
  rw [← ht]
  have e1 := ht.symm
  clear ht hv hk hm hx hy hr k0 hd hn h1 h2 x3 x4
  go_enter Tryz.func129, Tryz.ntmps129
  go_wp2_with fail
  rw [← hW0]
  clear hW0
  (with_reducible refine (HF1.out _).mono ?_)
  rintro e w1 ⟨v, rfl, ⟨A3, c3, l3, A4, c4, l4, rfl, n3, n4⟩, hb1⟩
  obtain ⟨W2, hW2⟩ : ∃ W2, W2 = w1.alloc (.cells #[.bool (frS r), .slice A3 l3.length c3, .slice A4 l4.length c4] 33) := ⟨_, rfl⟩
  have hb12 : Below w1.heap.size w1 W2 := by rw [hW2]; exact (Below.refl _ w1).alloc (Nat.le_refl _) _
  have hbx : W2.heap[w1.heap.size]? = some (.cells #[.bool (frS r), .slice A3 l3.length c3, .slice A4 l4.length c4] 33 (0, 0)) := by rw [hW2]; exact alloc_at _ _ _ rfl
  have HB2 := Lib.hid (below_next HST0.out.below (below_next hb1 hb12))
  have HN3 := Lib.hid (n3.on hb12)
  have HN4 := Lib.hid (n4.on hb12)
  have HKB := Lib.hid (show ∀ X, Below W2.heap.size W2 X → (fun X => Below W2.heap.size W2 X ∧ X.cell? ⟨w1.heap.size, 1, none⟩ = some (.slice A3 l3.length c3) ∧ X.cell? ⟨w1.heap.size, 2, none⟩ = some (.slice A4 l4.length c4)) X from fun X hX => by
    have e := (hX.block _ (heap_lt hbx)).trans hbx
    exact ⟨hX, by rw [cellsAt e]; rfl, by rw [cellsAt e]; rfl⟩)
  clear p0 p1 p2 p3 p4 p5 p6 p7 hb1 hb12 hbx n3 n4 hl1 hl2
  go_wp2_with fail
  rw [← hW2]
  clear hW2
  go_region_held3 (fun X => Below W2.heap.size W2 X ∧ X.cell? ⟨w1.heap.size, 1, none⟩ = some (.slice A3 l3.length c3) ∧ X.cell? ⟨w1.heap.size, 2, none⟩ = some (.slice A4 l4.length c4))
    (first
      | exact HKB.out _ (Below.refl _ W2).drew
      | (go_split_ands; refine HKB.out _ (below_next ?_ hb5); assumption)
      | (go_split_ands; refine HKB.out _ (below_next ?_ hb6); assumption)
      | (go_split_ands; refine HKB.out _ (below_next ?_ hb7); assumption))
    (first
      | (go_at_call 57; (with_reducible refine (HM1.out _ _ _ _ (below_next HB2.out (by go_split_ands; assumption)) (HN3.out.on (by go_split_ands; assumption))).mono ?_); rintro e w5 ⟨A5, c5, l5, rfl, hn5, hb5⟩)
      | (go_at_call 57; (with_reducible refine (HM2.out _ _ _ _ (below_next HB2.out (by go_split_ands; assumption)) (HN4.out.on (by go_split_ands; assumption))).mono ?_); rintro e w6 ⟨A6, c6, l6, rfl, hn6, hb6⟩)
      | (go_at_call 61; (with_reducible refine (HC1.out w6 _ _ _ _ _ _ (hn5.on hb6) hn6).mono ?_); rintro e w7 ⟨rfl, hb7⟩))
  have hbl : Below W2.heap.size W2 w7 := by go_split_ands; assumption
  have HBF := Lib.hid (below_next HB2.out hbl)
  clear hbl hn5 hn6 hb5 hb6 hb7
  go_wp2
  go_ret
  exact ⟨rfl, HBF.out⟩
set_option maxHeartbeats 8000000 in
set_option maxRecDepth 100000 in
theorem rLow_any (S0 S1 S2 S3 S4 S5 S6 S7 : ByteArray) (A1 A2 : Option Addr) (c1 c2 : Nat) (l1 l2 : List Nat) (x y K : Nat) (r : Rat) (w : World) (hr : prQ (S6, S7) = r) (k0 : cRt S6.data.toList S7.data.toList = 0) (hd : r.den < 1000000) (hn : frN r < 1000000) (h1 : RNatR w A1 c1 l1 x) (h2 : RNatR w A2 c2 l2 y) (hx : x < T4 ^ K) (hy : y < T4 ^ K) (hK : K ≤ 100000) :
    Calls Tryz.prog 130 #[.agg #[.string S0, .string S1, .string S2, .string S3, .string S4, .string S5, .string S6, .string S7], .slice A1 l1.length c1, .slice A2 l2.length c2] w fun e w' => e = .returned (.bool (loT r x y)) ∧ Below w.heap.size w w' := by
  obtain ⟨W0, hW0⟩ : ∃ W0, W0 = w.alloc (.cells #[.string S0, .string S1, .string S2, .string S3, .string S4, .string S5, .string S6, .string S7] 25) := ⟨_, rfl⟩
  have HST0 := Lib.hid (show St w W0 [(w.heap.size, .cells #[.string S0, .string S1, .string S2, .string S3, .string S4, .string S5, .string S6, .string S7] 25 (0, 0))] by rw [hW0]; exact (St.start w).alloc _ _ rfl)
  have HK := Lib.hid (show ∀ X, Below W0.heap.size W0 X → X.cell? ⟨w.heap.size, 0, none⟩ = some (.string S0) ∧ X.cell? ⟨w.heap.size, 1, none⟩ = some (.string S1) ∧ X.cell? ⟨w.heap.size, 2, none⟩ = some (.string S2) ∧ X.cell? ⟨w.heap.size, 3, none⟩ = some (.string S3) ∧ X.cell? ⟨w.heap.size, 4, none⟩ = some (.string S4) ∧ X.cell? ⟨w.heap.size, 5, none⟩ = some (.string S5) ∧ X.cell? ⟨w.heap.size, 6, none⟩ = some (.string S6) ∧ X.cell? ⟨w.heap.size, 7, none⟩ = some (.string S7) from fun X hX => ⟨(HST0.out.call hX).cell 0 0 rfl rfl, (HST0.out.call hX).cell 0 1 rfl rfl, (HST0.out.call hX).cell 0 2 rfl rfl, (HST0.out.call hX).cell 0 3 rfl rfl, (HST0.out.call hX).cell 0 4 rfl rfl, (HST0.out.call hX).cell 0 5 rfl rfl, (HST0.out.call hX).cell 0 6 rfl rfl, (HST0.out.call hX).cell 0 7 rfl rfl⟩)
  obtain ⟨p0, p1, p2, p3, p4, p5, p6, p7⟩ := HK.out W0 (Below.refl _ _)
  have HF1 := Lib.hid (fun W => rFrom_any S6 S7 _ _ W rfl rfl k0)
  rw [show ratX S6.data.toList S7.data.toList = r from hr] at HF1
  have hl1 := h1.len hx
  have hl2 := h2.len hy
  have x3 : frN r < T4 ^ 2 := T4_2 hn
  have x4 : r.den < T4 ^ 2 := T4_2 hd
  have hm := fun (s t : Nat) (hs : s < T4 ^ K) (ht : t < T4 ^ 2) => T4_mul hs ht
  have HM1 := Lib.hid (fun W A c l (hb : Below w.heap.size w W) (h : RNatR W A c l (r.den)) => rnatMul_any A1 A c1 c l1 l x _ W (h1.on hb) h (by omega) (by have := h.len (n := 2) (by first | exact x3 | exact x4); omega))
  have HM2 := Lib.hid (fun W A c l (hb : Below w.heap.size w W) (h : RNatR W A c l (frN r)) => rnatMul_any A2 A c2 c l2 l y _ W (h2.on hb) h (by omega) (by have := h.len (n := 2) (by first | exact x3 | exact x4); omega))
  have HC1 := Lib.hid (fun W A A' c c' l l' (g : RNatR W A c l (x * (r.den))) (g' : RNatR W A' c' l' (y * (frN r))) => (rnatCmp_any A A' c c' l l' _ _ W g g' (by have := g.len (hm _ _ hx (by first | exact x3 | exact x4)); omega) (by have := g'.len (hm _ _ hy (by first | exact x3 | exact x4)); omega)).mono (R' := fun e w' => e = .returned (.int .i64 (cmpN (x * (r.den)) (y * (frN r)))) ∧ Below W.heap.size W w') fun e w' ⟨he, q, hq⟩ => ⟨he, by rw [hq]; exact below_drewN (Below.refl _ _) q⟩)
  obtain ⟨k, hk⟩ : ∃ k, k = cmpN (x * (r.den)) (y * (frN r)) := ⟨_, rfl⟩
  have hv : loT r x y = decide (k ≤ 0) := by rw [hk, leT]; rfl
  rw [← hk] at HC1
  rw [hv]
  obtain ⟨t, ht⟩ : ∃ t, t = decide (k ≤ 0) := ⟨_, rfl⟩
  rw [← ht]
  have e1 := ht.symm
  clear ht hv hk hm hx hy hr k0 hd hn h1 h2 x3 x4
  go_enter Tryz.func130, Tryz.ntmps130
  go_wp2_with fail
  rw [← hW0]
  clear hW0
  (with_reducible refine (HF1.out _).mono ?_)
  rintro e w1 ⟨v, rfl, ⟨A3, c3, l3, A4, c4, l4, rfl, n3, n4⟩, hb1⟩
  obtain ⟨W2, hW2⟩ : ∃ W2, W2 = w1.alloc (.cells #[.bool (frS r), .slice A3 l3.length c3, .slice A4 l4.length c4] 33) := ⟨_, rfl⟩
  have hb12 : Below w1.heap.size w1 W2 := by rw [hW2]; exact (Below.refl _ w1).alloc (Nat.le_refl _) _
  have hbx : W2.heap[w1.heap.size]? = some (.cells #[.bool (frS r), .slice A3 l3.length c3, .slice A4 l4.length c4] 33 (0, 0)) := by rw [hW2]; exact alloc_at _ _ _ rfl
  have HB2 := Lib.hid (below_next HST0.out.below (below_next hb1 hb12))
  have HN3 := Lib.hid (n3.on hb12)
  have HN4 := Lib.hid (n4.on hb12)
  have HKB := Lib.hid (show ∀ X, Below W2.heap.size W2 X → (fun X => Below W2.heap.size W2 X ∧ X.cell? ⟨w1.heap.size, 1, none⟩ = some (.slice A3 l3.length c3) ∧ X.cell? ⟨w1.heap.size, 2, none⟩ = some (.slice A4 l4.length c4)) X from fun X hX => by
    have e := (hX.block _ (heap_lt hbx)).trans hbx
    exact ⟨hX, by rw [cellsAt e]; rfl, by rw [cellsAt e]; rfl⟩)
  clear p0 p1 p2 p3 p4 p5 p6 p7 hb1 hb12 hbx n3 n4 hl1 hl2
  go_wp2_with fail
  rw [← hW2]
  clear hW2
  go_region_held3 (fun X => Below W2.heap.size W2 X ∧ X.cell? ⟨w1.heap.size, 1, none⟩ = some (.slice A3 l3.length c3) ∧ X.cell? ⟨w1.heap.size, 2, none⟩ = some (.slice A4 l4.length c4))
    (first
      | exact HKB.out _ (Below.refl _ W2).drew
      | (go_split_ands; refine HKB.out _ (below_next ?_ hb5); assumption)
      | (go_split_ands; refine HKB.out _ (below_next ?_ hb6); assumption)
      | (go_split_ands; refine HKB.out _ (below_next ?_ hb7); assumption))
    (first
      | (go_at_call 57; (with_reducible refine (HM1.out _ _ _ _ (below_next HB2.out (by go_split_ands; assumption)) (HN4.out.on (by go_split_ands; assumption))).mono ?_); rintro e w5 ⟨A5, c5, l5, rfl, hn5, hb5⟩)
      | (go_at_call 57; (with_reducible refine (HM2.out _ _ _ _ (below_next HB2.out (by go_split_ands; assumption)) (HN3.out.on (by go_split_ands; assumption))).mono ?_); rintro e w6 ⟨A6, c6, l6, rfl, hn6, hb6⟩)
      | (go_at_call 61; (with_reducible refine (HC1.out w6 _ _ _ _ _ _ (hn5.on hb6) hn6).mono ?_); rintro e w7 ⟨rfl, hb7⟩))
  have hbl : Below W2.heap.size W2 w7 := by go_split_ands; assumption
  have HBF := Lib.hid (below_next HB2.out hbl)
  clear hbl hn5 hn6 hb5 hb6 hb7
  go_wp2
  go_ret
  exact ⟨rfl, HBF.out⟩
theorem tr_T4 {p q : Rat} {n f : Nat} (hg : TrG p q) (hs : TrS p q) (_hf : f ≤ n) (hn : n ≤ 2000) : trU p q n f < T4 ^ 16002 ∧ trD p q n f < T4 ^ 16002 := by
  have a1 := hg.p1
  have a2 := hg.q1
  have a3 := hs.p0
  have a4 := hs.q0
  have x1 : frN p < T4 ^ 2 := T4_2 (by omega)
  have x2 : p.den < T4 ^ 2 := T4_2 a3
  have x3 : frN q < T4 ^ 2 := T4_2 (by omega)
  have x4 : q.den < T4 ^ 2 := T4_2 a4
  have x5 : p.den - frN p < T4 ^ 2 := by omega
  have x6 : q.den - frN q < T4 ^ 2 := by omega
  have u1 := T4_pow (T4_mul x3 x2) (m := f) (by omega)
  have u2 := T4_pow (T4_mul x6 x2) (m := n - f) (by omega)
  have u3 := T4_pow (T4_mul x1 x4) (m := f) (by omega)
  have u4 := T4_pow (T4_mul x5 x4) (m := n - f) (by omega)
  have g1 := T4_mul u1 u2
  have g2 := T4_mul u3 u4
  rw [show (8001 + 8001 : Nat) = 16002 from rfl] at g1 g2
  exact ⟨g1, g2⟩
set_option maxHeartbeats 8000000 in
set_option maxRecDepth 100000 in
theorem rIsHigh_any (S0 S1 S2 S3 S4 S5 S6 S7 : ByteArray) (n f : Nat) (p q r : Rat) (w : World) (hp : prQ (S0, S1) = p) (hq : prQ (S2, S3) = q) (hr : prQ (S4, S5) = r) (k0 : cRt S0.data.toList S1.data.toList = 0) (k1 : cRt S2.data.toList S3.data.toList = 0) (k2 : cRt S4.data.toList S5.data.toList = 0) (hg : TrG p q) (hs : TrS p q) (hd : r.den < 1000000) (hrn : frN r < 1000000) (hf : f ≤ n) (hn : n ≤ 2000) :
    Calls Tryz.prog 85 #[.agg #[.string S0, .string S1, .string S2, .string S3, .string S4, .string S5, .string S6, .string S7], .int .i64 (n : Nat), .int .i64 (f : Nat)] w fun e w' => e = .returned (.bool (hiT r (trU p q n f) (trD p q n f))) ∧ Below w.heap.size w w' := by
  obtain ⟨W0, hW0⟩ : ∃ W0, W0 = w.alloc (.cells #[.string S0, .string S1, .string S2, .string S3, .string S4, .string S5, .string S6, .string S7] 25) := ⟨_, rfl⟩
  have HST0 := Lib.hid (show St w W0 [(w.heap.size, .cells #[.string S0, .string S1, .string S2, .string S3, .string S4, .string S5, .string S6, .string S7] 25 (0, 0))] by rw [hW0]; exact (St.start w).alloc _ _ rfl)
  have HK := Lib.hid (show ∀ X, Below W0.heap.size W0 X → X.cell? ⟨w.heap.size, 0, none⟩ = some (.string S0) ∧ X.cell? ⟨w.heap.size, 1, none⟩ = some (.string S1) ∧ X.cell? ⟨w.heap.size, 2, none⟩ = some (.string S2) ∧ X.cell? ⟨w.heap.size, 3, none⟩ = some (.string S3) ∧ X.cell? ⟨w.heap.size, 4, none⟩ = some (.string S4) ∧ X.cell? ⟨w.heap.size, 5, none⟩ = some (.string S5) ∧ X.cell? ⟨w.heap.size, 6, none⟩ = some (.string S6) ∧ X.cell? ⟨w.heap.size, 7, none⟩ = some (.string S7) from fun X hX => ⟨(HST0.out.call hX).cell 0 0 rfl rfl, (HST0.out.call hX).cell 0 1 rfl rfl, (HST0.out.call hX).cell 0 2 rfl rfl, (HST0.out.call hX).cell 0 3 rfl rfl, (HST0.out.call hX).cell 0 4 rfl rfl, (HST0.out.call hX).cell 0 5 rfl rfl, (HST0.out.call hX).cell 0 6 rfl rfl, (HST0.out.call hX).cell 0 7 rfl rfl⟩)
  obtain ⟨p0, p1, p2, p3, p4, p5, p6, p7⟩ := HK.out W0 (Below.refl _ _)
  have HSD := Lib.hid (fun W => rSides_any S0 S1 S2 S3 S4 S5 S6 S7 n f p q W hp hq k0 k1 hg hs hf hn)
  obtain ⟨z1, z2⟩ := tr_T4 hg hs hf hn
  have HHI := Lib.hid (fun W A1 A2 c1 c2 l1 l2 (h1 : RNatR W A1 c1 l1 (trU p q n f)) (h2 : RNatR W A2 c2 l2 (trD p q n f)) => rHigh_any S0 S1 S2 S3 S4 S5 S6 S7 A1 A2 c1 c2 l1 l2 _ _ 16002 r W hr k2 hd hrn h1 h2 z1 z2 (by omega))
  obtain ⟨t, ht⟩ : ∃ t, t = hiT r (trU p q n f) (trD p q n f) := ⟨_, rfl⟩
  rw [← ht] at HHI ⊢
  unfold RPairPost at HSD
  clear ht z1 z2 hp hq hr k0 k1 k2 hg hs hd hrn hf hn
  go_enter Tryz.func85, Tryz.ntmps85
  go_wp2_with fail
  rw [← hW0]
  clear hW0
  (with_reducible refine (HSD.out _).mono ?_)
  rintro e w1 ⟨A1, c1, l1, A2, c2, l2, rfl, n1, n2, hb1⟩
  have HN := Lib.hid (And.intro n1 n2)
  have HB1 := Lib.hid hb1
  clear p0 p1 p2 p3 p4 p5 p6 p7 n1 n2 hb1
  obtain ⟨p0, p1, p2, p3, p4, p5, p6, p7⟩ := HK.out w1 HB1.out
  go_wp2_with fail
  (with_reducible refine (HHI.out _ _ _ _ _ _ _ HN.out.1 HN.out.2).mono ?_)
  rintro e w2 ⟨rfl, hb2⟩
  have HB2 := Lib.hid (below_next HST0.out.below (below_next HB1.out hb2))
  clear p0 p1 p2 p3 p4 p5 p6 p7 hb2
  go_wp2
  go_ret
  exact ⟨rfl, HB2.out⟩
set_option maxHeartbeats 8000000 in
set_option maxRecDepth 100000 in
theorem rIsLow_any (S0 S1 S2 S3 S4 S5 S6 S7 : ByteArray) (n f : Nat) (p q r : Rat) (w : World) (hp : prQ (S0, S1) = p) (hq : prQ (S2, S3) = q) (hr : prQ (S6, S7) = r) (k0 : cRt S0.data.toList S1.data.toList = 0) (k1 : cRt S2.data.toList S3.data.toList = 0) (k2 : cRt S6.data.toList S7.data.toList = 0) (hg : TrG p q) (hs : TrS p q) (hd : r.den < 1000000) (hrn : frN r < 1000000) (hf : f ≤ n) (hn : n ≤ 2000) :
    Calls Tryz.prog 86 #[.agg #[.string S0, .string S1, .string S2, .string S3, .string S4, .string S5, .string S6, .string S7], .int .i64 (n : Nat), .int .i64 (f : Nat)] w fun e w' => e = .returned (.bool (loT r (trU p q n f) (trD p q n f))) ∧ Below w.heap.size w w' := by
  obtain ⟨W0, hW0⟩ : ∃ W0, W0 = w.alloc (.cells #[.string S0, .string S1, .string S2, .string S3, .string S4, .string S5, .string S6, .string S7] 25) := ⟨_, rfl⟩
  have HST0 := Lib.hid (show St w W0 [(w.heap.size, .cells #[.string S0, .string S1, .string S2, .string S3, .string S4, .string S5, .string S6, .string S7] 25 (0, 0))] by rw [hW0]; exact (St.start w).alloc _ _ rfl)
  have HK := Lib.hid (show ∀ X, Below W0.heap.size W0 X → X.cell? ⟨w.heap.size, 0, none⟩ = some (.string S0) ∧ X.cell? ⟨w.heap.size, 1, none⟩ = some (.string S1) ∧ X.cell? ⟨w.heap.size, 2, none⟩ = some (.string S2) ∧ X.cell? ⟨w.heap.size, 3, none⟩ = some (.string S3) ∧ X.cell? ⟨w.heap.size, 4, none⟩ = some (.string S4) ∧ X.cell? ⟨w.heap.size, 5, none⟩ = some (.string S5) ∧ X.cell? ⟨w.heap.size, 6, none⟩ = some (.string S6) ∧ X.cell? ⟨w.heap.size, 7, none⟩ = some (.string S7) from fun X hX => ⟨(HST0.out.call hX).cell 0 0 rfl rfl, (HST0.out.call hX).cell 0 1 rfl rfl, (HST0.out.call hX).cell 0 2 rfl rfl, (HST0.out.call hX).cell 0 3 rfl rfl, (HST0.out.call hX).cell 0 4 rfl rfl, (HST0.out.call hX).cell 0 5 rfl rfl, (HST0.out.call hX).cell 0 6 rfl rfl, (HST0.out.call hX).cell 0 7 rfl rfl⟩)
  obtain ⟨p0, p1, p2, p3, p4, p5, p6, p7⟩ := HK.out W0 (Below.refl _ _)
  have HSD := Lib.hid (fun W => rSides_any S0 S1 S2 S3 S4 S5 S6 S7 n f p q W hp hq k0 k1 hg hs hf hn)
  obtain ⟨z1, z2⟩ := tr_T4 hg hs hf hn
  have HHI := Lib.hid (fun W A1 A2 c1 c2 l1 l2 (h1 : RNatR W A1 c1 l1 (trU p q n f)) (h2 : RNatR W A2 c2 l2 (trD p q n f)) => rLow_any S0 S1 S2 S3 S4 S5 S6 S7 A1 A2 c1 c2 l1 l2 _ _ 16002 r W hr k2 hd hrn h1 h2 z1 z2 (by omega))
  obtain ⟨t, ht⟩ : ∃ t, t = loT r (trU p q n f) (trD p q n f) := ⟨_, rfl⟩
  rw [← ht] at HHI ⊢
  unfold RPairPost at HSD
  clear ht z1 z2 hp hq hr k0 k1 k2 hg hs hd hrn hf hn
  go_enter Tryz.func86, Tryz.ntmps86
  go_wp2_with fail
  rw [← hW0]
  clear hW0
  (with_reducible refine (HSD.out _).mono ?_)
  rintro e w1 ⟨A1, c1, l1, A2, c2, l2, rfl, n1, n2, hb1⟩
  have HN := Lib.hid (And.intro n1 n2)
  have HB1 := Lib.hid hb1
  clear p0 p1 p2 p3 p4 p5 p6 p7 n1 n2 hb1
  obtain ⟨p0, p1, p2, p3, p4, p5, p6, p7⟩ := HK.out w1 HB1.out
  go_wp2_with fail
  (with_reducible refine (HHI.out _ _ _ _ _ _ _ HN.out.1 HN.out.2).mono ?_)
  rintro e w2 ⟨rfl, hb2⟩
  have HB2 := Lib.hid (below_next HST0.out.below (below_next HB1.out hb2))
  clear p0 p1 p2 p3 p4 p5 p6 p7 hb2
  go_wp2
  go_ret
  exact ⟨rfl, HB2.out⟩
end Go.Proofs.YtlkjgjojahjapaaGreatDoor

/- Sizes of sums, products, quotients of fractions. Plain. -/
namespace Go.Proofs.YtlkjgjojahjapaaGreatDoor
open Go Go.RowKit Go.Proofs

theorem sz_mk {b : Bool} {x y n : Nat} (hy : 0 < y) (hx : x < T4 ^ n) (hY : y < T4 ^ n) : Sz n (mkRat (sg b x) y) := mk_sz hy hx hY
theorem Sz.mono {n m : Nat} {q : Rat} (h : Sz n q) (hm : n ≤ m) : Sz m q := by
  have : T4 ^ n ≤ T4 ^ m := Nat.pow_le_pow_right (by unfold T4; omega) hm
  exact ⟨Nat.lt_of_lt_of_le h.1 this, Nat.lt_of_lt_of_le h.2 this⟩
theorem T4_small {x n : Nat} (h : x < 100000000) (hn : 2 ≤ n) : x < T4 ^ n := Nat.lt_of_lt_of_le (show x < T4 ^ 2 by unfold T4; omega) (Nat.pow_le_pow_right (by unfold T4; omega) hn)
end Go.Proofs.YtlkjgjojahjapaaGreatDoor

/- nat.Int. -/
namespace Go.Proofs.YtlkjgjojahjapaaGreatDoor
open Go Go.RowKit Go.Proofs

end Go.Proofs.YtlkjgjojahjapaaGreatDoor
