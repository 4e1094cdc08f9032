import Derived.Test.YtfeicfohahfhiaaGreatDoorRDivMod
import Derived.Test.YtfeicfohahfhiaaGreatDoorG16
import Derived.Test.YtfeicfohahfhiaaGreatDoorG24
import Derived.Test.YtfeicfohahfhiaaGreatDoorG33
import Derived.Test.YtfeicfohahfhiaaGreatDoorR10Sh
import Derived.Test.YtfeicfohahfhiaaGreatDoorR10Row
import Derived.IntWalk
/- Package dynamometerref0: Pow. -/
namespace Go.Proofs.YtfeicfohahfhiaaGreatDoor
open Go Go.RowKit Go.Proofs

/-- what the loop keeps: powers of x, whose exponents still make n -/
def RPowInv (w wr : World) (x n k : Nat) (va vo : Value) : Prop :=
  ∃ (A1 A2 : Option Addr) (c1 c2 : Nat) (l1 l2 : List Nat) (m e : Nat), va = .slice A1 l1.length c1 ∧ vo = .slice A2 l2.length c2 ∧ RNatR wr A1 c1 l1 (x ^ e) ∧ RNatR wr A2 c2 l2 (x ^ m) ∧ m + e * k = n ∧ Below w.heap.size w wr

set_option maxHeartbeats 2000000 in
set_option maxRecDepth 100000 in
theorem rnatPow_any (A : Option Addr) (c : Nat) (l : List Nat) (x n K : Nat) (w : World) (h : RNatR w A c l x) (hx : x < T4 ^ K) (hK : K * n ≤ 800000) (hn : n ≤ 1000000) :
    Calls Tryz.prog 31 #[.slice A l.length c, .int .i64 n] w (RNatPost (x ^ n) w) := by
  have HN := Lib.hid h
  have HO := Lib.hid (fun W => rnatOf_any 1 W (by omega))
  have HX := Lib.hid hx
  clear h hx
  go_enter Tryz.func31, Tryz.ntmps31
  go_wp2_with fail
  refine (HO.out _).mono ?_
  rintro e1 w1 ⟨A1, c1, l1, rfl, hn1, hb1⟩
  have HN1 := Lib.hid hn1
  have HB1 := Lib.hid hb1
  clear hn1 hb1
  go_wp2_with fail
  go_loopw [0, 1, 5, 7] (fun a i o _ wr => ∃ k : Nat, i = .int .i64 k ∧ k ≤ n ∧ RPowInv w wr x n k a o) (fun _ i _ _ _ => (intOf i).toNat)
  case atStart => exact ⟨n, rfl, Nat.le_refl _, A, A1, c, c1, l, l1, 0, 1, rfl, rfl, by rw [Nat.pow_one]; exact HN.out.on HB1.out, by rw [Nat.pow_zero]; exact HN1.out, by omega, HB1.out⟩
  case round =>
    obtain ⟨k, rfl, hk, A3, A4, c3, c4, l3, l4, m, e, rfl, rfl, h3, h4, hme, hb⟩ := hrel
    by_cases hp : 0 < k
    · have hek : e ≤ e * k := Nat.le_mul_of_pos_right e hp
      have hl3 : l3.length ≤ K * n + 1 := pow_len4 HX.out (show e ≤ n by omega) h3.norm h3.val
      have hl4 : l4.length ≤ K * n + 1 := pow_len4 HX.out (show m ≤ n by omega) h4.norm h4.val
      have t1 : decide ((0 : Int) < ↑k) = true := by simp; omega
      have t2 : decide (0 < k) = true := by simpa using hp
      have HB := Lib.hid hb
      have H3 := Lib.hid h3
      have H4 := Lib.hid h4
      clear hb h3 h4 hek
      by_cases ho : k % 2 = 1
      · have t3 : (((k : Int) % 2) == 1) = true := by simp; omega
        have t4 : ((k % 2) == 1) = true := by simpa using ho
        have HM := Lib.hid (rnatMul_any A4 A3 c4 c3 l4 l3 _ _ wr H4.out H3.out (by omega) (by omega))
        have HS := Lib.hid (fun W (hW : Below wr.heap.size wr W) => rnatMul_any A3 A3 c3 c3 l3 l3 _ _ W (H3.out.on hW) (H3.out.on hW) (by omega) (by omega))
        have HE := Lib.hid (pow_odd_e hme ho)
        clear hme
        go_wp2_with fail
        refine HM.out.mono ?_
        rintro e2 w2 ⟨A5, c5, l5, rfl, h5, hb5⟩
        have H5 := Lib.hid h5
        have HB5 := Lib.hid hb5
        clear h5 hb5
        go_wp2_with fail
        refine (HS.out _ HB5.out).mono ?_
        rintro e3 w3 ⟨A6, c6, l6, rfl, h6, hb6⟩
        have H6 := Lib.hid h6
        have HB6 := Lib.hid hb6
        clear h6 hb6
        go_wp2
        go_roundw
        case rel => exact ⟨k / 2, by first | rfl | go_num, by omega, A6, A5, c6, c5, l6, l5, m + e, e + e, rfl, rfl, by rw [Nat.pow_add]; exact H6.out, by rw [Nat.pow_add]; exact H5.out.on HB6.out, HE.out, HB.out.trans ((HB5.out.trans (HB6.out.mono HB5.out.size)).mono HB.out.size)⟩
        case measure => simp [intOf]; omega
      · have t3 : (((k : Int) % 2) == 1) = false := by simp; omega
        have t4 : ((k % 2) == 1) = false := by simpa using ho
        have HS := Lib.hid (rnatMul_any A3 A3 c3 c3 l3 l3 _ _ wr H3.out H3.out (by omega) (by omega))
        have HE := Lib.hid (pow_even_e hme (show k % 2 = 0 by omega))
        clear hme
        go_wp2_with fail
        refine HS.out.mono ?_
        rintro e3 w3 ⟨A6, c6, l6, rfl, h6, hb6⟩
        have H6 := Lib.hid h6
        have HB6 := Lib.hid hb6
        clear h6 hb6
        go_wp2
        go_roundw
        case rel => exact ⟨k / 2, by first | rfl | go_num, by omega, A6, A4, c6, c4, l6, l4, m, e + e, rfl, rfl, by rw [Nat.pow_add]; exact H6.out, H4.out.on HB6.out, HE.out, HB.out.trans (HB6.out.mono HB.out.size)⟩
        case measure => simp [intOf]; omega
    · obtain rfl : k = 0 := by omega
      have HF := Lib.hid (show RNatPost (x ^ n) w (.returned (.slice A4 l4.length c4)) wr from ⟨A4, c4, l4, rfl, by rw [← hme, Nat.mul_zero, Nat.add_zero]; exact h4, hb⟩)
      clear h3 h4 hme hb
      go_wp2
      go_ret
      exact HF.out
end Go.Proofs.YtfeicfohahfhiaaGreatDoor

/- Binomial: three throws, at most one. Plain. -/
namespace Go.Proofs.YtfeicfohahfhiaaGreatDoor
open Go

theorem bin_half : binE 3 1 [49] [50] = 0 ∧ binV 3 1 [49] [50] = ([49], [50]) := by
  have e1 : ratX [49] [50] = mkRat 1 2 := by
    unfold ratX
    rfl
  have hs : binC 3 [49] [50] = 0 := by
    have h1 : cRt [49] [50] = 0 := by decide
    unfold binC shC
    rw [if_neg (by decide), e1, h1, if_neg (by decide), if_neg (by decide)]
    decide
  have e2 : binQ 3 1 (mkRat 1 2) = mkRat 1 2 := by decide
  have e3 : Lib.decDigits 1 = [49] := by rw [Lib.decDigits]; rfl
  have e4 : Lib.decDigits 2 = [50] := by rw [Lib.decDigits]; rfl
  have h1 : frS (mkRat 1 2) = false := by decide
  have h2 : frN (mkRat 1 2) = 1 := by decide
  have h3 : (mkRat 1 2).den = 2 := by decide
  have hr : ratQ (mkRat 1 2) = ([49], [50]) := by unfold ratQ; rw [h2, h3, e3, e4]
  have hf : fitQ (mkRat 1 2) = true := by unfold fitQ; rw [hr]; rfl
  unfold binE binV
  rw [if_pos hs, if_pos hs, e1, show (3 : Int).toNat = 3 from rfl, e2]
  unfold rtC rtT txtQ
  rw [if_pos hf, if_pos hf, h1, hr]
  exact ⟨rfl, rfl⟩
end Go.Proofs.YtfeicfohahfhiaaGreatDoor

/- Package dynamometerref10: Binomial. -/
namespace Go.Proofs.YtfeicfohahfhiaaGreatDoor
open Go Go.RowKit Go.Proofs

theorem binV_bad {n k : Int} {a b : List UInt8} (h : binC n a b ≠ 0) : binV n k a b = ([], []) ∧ binE n k a b = binC n a b := by
  unfold binV binE; rw [if_neg h, if_neg h]; exact ⟨rfl, rfl⟩
theorem binV_good {n k : Int} {a b : List UInt8} (h : binC n a b = 0) : binV n k a b = rtT (binQ n.toNat k (ratX a b)) ∧ binE n k a b = rtC (binQ n.toNat k (ratX a b)) := by
  unfold binV binE; rw [if_pos h, if_pos h]; exact ⟨rfl, rfl⟩
theorem rat_none : ratOf ([], []) = .agg #[.string ⟨#[]⟩, .string ⟨#[]⟩] := rfl
/-- a share's parts -/
theorem share_parts {a b : List UInt8} (h : shC .share a b = 0) : frN (ratX a b) ≤ (ratX a b).den ∧ (ratX a b).den ≤ T4 ^ 2 := by
  obtain ⟨h1, h2, h3, h4⟩ := shC_zero h
  obtain ⟨s1, s2, _⟩ := shC_small h
  simp only [inQ, Bool.and_eq_true, decide_eq_true_eq] at h4
  refine ⟨h4.2, ?_⟩
  have : T4 ^ 2 = 100000000 := by unfold T4; rfl
  omega
set_option maxHeartbeats 8000000 in
set_option maxRecDepth 100000 in
theorem rBinomial_any (Sa Sb : ByteArray) (a b : List UInt8) (n k : Int) (w : World) (hSa : Sa.data.toList = a) (hSb : Sb.data.toList = b) (ha : Sa.size ≤ 9223372036854775800) (hb : Sb.size ≤ 9223372036854775800) (hk0 : -9223372036854775808 ≤ k) (hk1 : k ≤ 9223372036854775807) (htab : Tab w.heap.size w) :
    Calls Tryz.prog 7 #[.int .i64 n, .int .i64 k, .agg #[.string Sa, .string Sb]] w fun e w' => e = .returned (.tuple #[ratOf (binV n k a b), .int .i64 (binE n k a b)]) ∧ Below w.heap.size w w' := by
  obtain ⟨W0, hW0⟩ : ∃ W0, W0 = (w.alloc (.cells #[.string Sa, .string Sb] 23)).alloc (.cells #[.string ⟨#[]⟩, .string ⟨#[]⟩] 23) := ⟨_, rfl⟩
  have HST0 := Lib.hid (show St w W0 [(w.heap.size, .cells #[.string Sa, .string Sb] 23 (0, 0)), (w.heap.size + 1, .cells #[.string ⟨#[]⟩, .string ⟨#[]⟩] 23 (0, 0))] by rw [hW0]; exact ((St.start w).alloc _ _ rfl).alloc _ _ (by simp))
  have HFIN := Lib.hid (show ∀ W, Below W0.heap.size W0 W → ∀ x y, Below w.heap.size w ((W.setCell ⟨w.heap.size + 1, 0, none⟩ x).setCell ⟨w.heap.size + 1, 1, none⟩ y) from fun W hb x y => ((below_next HST0.out.below hb).setCell (p := ⟨w.heap.size + 1, 0, none⟩) (by simp) x).setCell (p := ⟨w.heap.size + 1, 1, none⟩) (by simp) y)
  have HK := Lib.hid (show ∀ X, Below W0.heap.size W0 X → X.cell? ⟨w.heap.size, 0, none⟩ = some (.string Sa) ∧ X.cell? ⟨w.heap.size, 1, none⟩ = some (.string Sb) ∧ X.cell? ⟨w.heap.size + 1, 0, none⟩ = some (.string ⟨#[]⟩) ∧ X.cell? ⟨w.heap.size + 1, 1, none⟩ = some (.string ⟨#[]⟩) ∧ X.frozen? ⟨w.heap.size + 1, 0, none⟩ = false ∧ X.frozen? ⟨w.heap.size + 1, 1, none⟩ = false ∧ w.heap.size + 1 < X.heap.size from fun X hX => ⟨(HST0.out.call hX).cell 0 0 rfl rfl, (HST0.out.call hX).cell 0 1 rfl rfl, (HST0.out.call hX).cell 1 0 rfl rfl, (HST0.out.call hX).cell 1 1 rfl rfl, (HST0.out.call hX).frozen 1 0 rfl, (HST0.out.call hX).frozen 1 1 rfl, (HST0.out.call hX).lt 1 rfl⟩)
  obtain ⟨p0, p1, k0, k1, z0, z1, hl0⟩ := HK.out W0 (Below.refl _ _)
  by_cases hn : n < 0 ∨ 200 < n
  · have hc : binC n a b = 9 := by unfold binC; rw [if_pos hn]
    obtain ⟨hv, he⟩ := binV_bad (n := n) (k := k) (a := a) (b := b) (by rw [hc]; decide)
    rw [hv, he, hc, rat_none]
    clear hv he hc hSa hSb
    by_cases h1 : n < 0
    · have t1 : decide (n < 0) = true := decide_eq_true h1
      go_enter Tryz.func7, Tryz.ntmps7
      go_wp2
      rw [← hW0]
      refine bodyPost_ret (v := .tuple #[.agg #[.string ⟨#[]⟩, .string ⟨#[]⟩], .int .i64 9]) (by simp [results, Tryz.results7, go_sem, k0, k1]) rfl ⟨rfl, HST0.out.below⟩
    · have t1 : decide (n < 0) = false := decide_eq_false h1
      have t2 : decide (200 < n) = true := decide_eq_true (by omega)
      go_enter Tryz.func7, Tryz.ntmps7
      go_wp2
      rw [← hW0]
      refine bodyPost_ret (v := .tuple #[.agg #[.string ⟨#[]⟩, .string ⟨#[]⟩], .int .i64 9]) (by simp [results, Tryz.results7, go_sem, k0, k1]) rfl ⟨rfl, HST0.out.below⟩
  · have t1 : decide (n < 0) = false := decide_eq_false (by omega)
    have t2 : decide (200 < n) = false := decide_eq_false (by omega)
    have hcn : binC n a b = shC .share a b := by unfold binC; rw [if_neg hn]
    have HSF := Lib.hid (fun W => rShortR_any Sa Sb a b 0 1 false W hSa hSb ha hb (by omega) (by omega) (by omega) (by omega))
    rw [show shR 0 1 false a b = shC .share a b from shR_eq .share a b, ← hcn] at HSF
    obtain ⟨cc, hcc⟩ : ∃ cc, cc = binC n a b := ⟨_, rfl⟩
    rw [← hcc] at HSF
    by_cases hc0 : cc = 0
    · rw [hc0] at hcc HSF
      have hsh : shC .share a b = 0 := by rw [← hcn]; exact hcc.symm
      have hcz := (shC_zero hsh).1
      obtain ⟨hv, he⟩ := binV_good (k := k) hcc.symm
      rw [hv, he]
      have HFR := Lib.hid (fun W => rFrom_any Sa Sb a b W hSa hSb hcz)
      obtain ⟨hs1, hs2⟩ := share_parts hsh
      unfold binQ binS
      obtain ⟨q, hq⟩ : ∃ q, q = ratX a b := ⟨_, rfl⟩
      rw [← hq] at HFR hs1 hs2 ⊢
      obtain ⟨N, rfl⟩ : ∃ N : Nat, n = N := ⟨n.toNat, by omega⟩
      rw [Int.toNat_natCast]
      have hN : N ≤ 200 := by omega
      obtain ⟨J, hJ⟩ : ∃ J : Nat, (J : Int) = max 0 (min k (N : Int) + 1) := ⟨(max 0 (min k (N : Int) + 1)).toNat, by omega⟩
      rw [show (min (k + 1) ((N : Int) + 1)).toNat = J by omega]
      have hJ1 : J ≤ N + 1 := by omega
      obtain ⟨x, hx⟩ : ∃ x, x = frN q := ⟨_, rfl⟩
      obtain ⟨y, hy⟩ : ∃ y, y = q.den - frN q := ⟨_, rfl⟩
      have hxy : x + y = q.den := by omega
      rw [← hy, ← hx]
      obtain ⟨K, hK0, hK1⟩ : ∃ K, 401 ≤ K ∧ K ≤ 401 := ⟨401, Nat.le_refl _, Nat.le_refl _⟩
      have hpw : q.den ^ N < T4 ^ K := Nat.lt_of_lt_of_le (pow_small (K := 2) (n := N) hs2 T4_pos) (Nat.pow_le_pow_right (by unfold T4; omega) (by omega))
      have hbs : bwS x y N J < T4 ^ K := Nat.lt_of_le_of_lt (bwS_le x y N J hJ1) (by rw [hxy]; exact hpw)
      have hpp : 0 < q.den ^ N := Nat.pow_pos (fr_den q)
      have HCH := Lib.hid (fun W u (hu : FracR W u q) => rChances_any N u q W hN hu hs2 hs1)
      rw [← hy, ← hx] at HCH
      have hd3 : q.den < T4 ^ 3 := Nat.lt_of_le_of_lt hs2 (Nat.pow_lt_pow_right T4_pos (by omega))
      have HPW := Lib.hid (fun W A c l (h : RNatR W A c l q.den) => rnatPow_any A c l q.den N 3 W h hd3 (by omega) (by omega))
      have HSM := Lib.hid (fun W A c (ns : List Nm) (h : SeqR W A (N + 1) ns) (hv : nmVals ns = bwL x y N) => rSum_any A J c (ns.take J) K W (h.take hJ1) (by omega) (by
        have e : nmVals (ns.take J) = (nmVals ns).take J := by simp [nmVals, List.map_take]
        rw [e, hv, bwL_sum x y N J hJ1]; exact hbs) (by omega))
      have HSV := Lib.hid (show ∀ ns : List Nm, nmVals ns = bwL x y N → (nmVals (ns.take J)).sum = bwS x y N J from fun ns hv => by
        have e : nmVals (ns.take J) = (nmVals ns).take J := by simp [nmVals, List.map_take]
        rw [e, hv, bwL_sum x y N J hJ1])
      obtain ⟨S, hS⟩ : ∃ S, S = bwS x y N J := ⟨_, rfl⟩
      obtain ⟨D, hD⟩ : ∃ D, D = q.den ^ N := ⟨_, rfl⟩
      rw [← hS] at hbs HSV
      rw [← hD] at hpw hpp HPW
      rw [← hS, ← hD]
      have HLW := Lib.hid (fun W A A' c c' l l' (h : RNatR W A c l S) (h' : RNatR W A' c' l' D) => rLowest_any false A A' c c' l l' S D W h h' (by have := h.len hbs; omega) (by have := h'.len hpw; omega) hpp)
      rw [show sg false S = ((S : Nat) : Int) from rfl] at HLW
      have hz2 : Sz K (mkRat ((S : Nat) : Int) D) := sz_part hpp (by rw [Int.natAbs_natCast]; exact hbs) hpw
      obtain ⟨r, hr⟩ : ∃ r, r = mkRat ((S : Nat) : Int) D := ⟨_, rfl⟩
      rw [← hr] at HLW hz2 ⊢
      have HRS := Lib.hid (fun W u (hb : Below w.heap.size w W) (hu : FracR W u r) => rResult_any u r W hu (sz_mono hz2 (by omega)) ((htab.on hb).mono hb.size))
      have hrt : ratOf (rtT r) = .agg #[.string ⟨(rtT r).1.toArray⟩, .string ⟨(rtT r).2.toArray⟩] := rfl
      obtain ⟨R1, hR1⟩ : ∃ R : ByteArray, R = ⟨(rtT r).1.toArray⟩ := ⟨_, rfl⟩
      obtain ⟨R2, hR2⟩ : ∃ R : ByteArray, R = ⟨(rtT r).2.toArray⟩ := ⟨_, rfl⟩
      rw [← hR1, ← hR2] at hrt
      obtain ⟨rc, hrc⟩ : ∃ rc, rc = rtC r := ⟨_, rfl⟩
      rw [hrt, ← hrc] at HRS ⊢
      obtain ⟨M, hM⟩ : ∃ M : Int, min k (N : Int) = M := ⟨_, rfl⟩
      obtain ⟨M1, hM1⟩ : ∃ M1 : Int, M1 = M + 1 := ⟨_, rfl⟩
      have hw1 : IntKind.i64.wrap (M + 1) = M1 := by rw [hM1]; exact Go.IntWalk.i64_in _ (by omega)
      have hq2 : max 0 M1 = (J : Int) := by omega
      have hJc : (J : Int) ≤ (N : Int) + 1 := by omega
      have hJ0 : (0 : Int) ≤ (J : Int) := by omega
      clear hM1 hJ
      clear hv he hcc hcn hSa hSb hq hxy hx hy hbs hpw hpp hd3 hS hD hz2 hr hrt hR1 hR2 hrc hsh hcz hs1 hs2 hc0
      go_enter Tryz.func7, Tryz.ntmps7
      go_wp2_with fail
      rw [← hW0]
      clear hW0
      go_wp2_with fail
      (with_reducible refine (HSF.out _).mono ?_)
      rintro e w1 ⟨rfl, hb1⟩
      have HB1 := Lib.hid hb1
      clear p0 p1 k0 k1 z0 z1 hl0
      obtain ⟨p0, p1, -, -, -, -, -⟩ := HK.out w1 hb1
      clear hb1
      go_wp2_with fail
      (with_reducible refine (HFR.out _).mono ?_)
      rintro e w3 ⟨v3, rfl, hv3, hb3⟩
      have HB3 := Lib.hid (below_next HB1.out hb3)
      have HF3 := Lib.hid hv3
      obtain ⟨A5, c5, l5, A6, c6, l6, rfl, _, hn6⟩ := hv3
      have HN6 := Lib.hid hn6
      obtain ⟨W4, hW4⟩ : ∃ W4, W4 = w3.alloc (.cells #[.bool (frS q), .slice A5 l5.length c5, .slice A6 l6.length c6] 56) := ⟨_, rfl⟩
      have hb34 : Below w3.heap.size w3 W4 := by rw [hW4]; exact (Below.refl _ w3).alloc (Nat.le_refl _) _
      have HB4 := Lib.hid (below_next HB3.out hb34)
      have HF4 := Lib.hid (HF3.out.on hb34)
      have HN4 := Lib.hid (HN6.out.on hb34)
      have hbx : W4.heap[w3.heap.size]? = some (.cells #[.bool (frS q), .slice A5 l5.length c5, .slice A6 l6.length c6] 56 (0, 0)) := by rw [hW4]; exact alloc_at _ _ _ rfl
      have HBX := Lib.hid hbx
      have g0 : W4.cell? ⟨w3.heap.size, 0, none⟩ = some (.bool (frS q)) := by rw [cellsAt hbx]; rfl
      have g1 : W4.cell? ⟨w3.heap.size, 1, none⟩ = some (.slice A5 l5.length c5) := by rw [cellsAt hbx]; rfl
      have g2 : W4.cell? ⟨w3.heap.size, 2, none⟩ = some (.slice A6 l6.length c6) := by rw [cellsAt hbx]; rfl
      clear p0 p1 hbx hb34 hb3 hn6
      go_wp2_with fail
      rw [← hW4]
      clear hW4
      (with_reducible refine (HCH.out _ _ HF4.out).mono ?_)
      rintro e w9 ⟨v9, ns, rfl, hrow, hvals, hb9⟩
      have hnl := chOut_len hvals
      obtain ⟨b9, o9, c9, e9, hsq, hcap, hmax⟩ := rowR_all hrow (by omega)
      rw [hnl] at e9 hsq hcap
      subst e9
      have hJ9 : (J : Int) ≤ (c9 : Int) := by omega
      have HSQ := Lib.hid hsq
      have HVL := Lib.hid hvals
      have HB9 := Lib.hid (below_next HB4.out hb9)
      have HN9 := Lib.hid (HN4.out.on hb9)
      have hbx9 := (hb9.block _ (heap_lt HBX.out)).trans HBX.out
      have HBX9 := Lib.hid hbx9
      have hw3 : w.heap.size + 1 < w3.heap.size := by have := HB3.out.size; have := HST0.out.lt 1 rfl; omega
      have HKS := Lib.hid (show ∀ X, Below w9.heap.size w9 X → (fun X => Below w.heap.size w X ∧ X.cell? ⟨w3.heap.size, 2, none⟩ = some (.slice A6 l6.length c6)) X from fun X hX => ⟨below_next HST0.out.below (below_next HB9.out hX), by
        have e := (hX.block _ (heap_lt HBX9.out)).trans HBX9.out
        rw [cellsAt e]; rfl⟩)
      have HKF := Lib.hid (show ∀ X, Below w9.heap.size w9 X → ∀ x y, (fun X => Below w.heap.size w X ∧ X.cell? ⟨w3.heap.size, 2, none⟩ = some (.slice A6 l6.length c6)) ((X.setCell ⟨w.heap.size + 1, 0, none⟩ x).setCell ⟨w.heap.size + 1, 1, none⟩ y) from fun X hX x y => ⟨HFIN.out X (below_next HB9.out hX) x y, by
        have e := (hX.block _ (heap_lt HBX9.out)).trans HBX9.out
        have e2 := (Below.heap_setCell (X.setCell ⟨w.heap.size + 1, 0, none⟩ x) ⟨w.heap.size + 1, 1, none⟩ y w3.heap.size (by show w3.heap.size ≠ w.heap.size + 1; omega)).trans ((Below.heap_setCell X ⟨w.heap.size + 1, 0, none⟩ x w3.heap.size (by show w3.heap.size ≠ w.heap.size + 1; omega)).trans e)
        rw [cellsAt e2]; rfl⟩)
      have g2 : w9.cell? ⟨w3.heap.size, 2, none⟩ = some (.slice A6 l6.length c6) := by rw [cellsAt hbx9]; rfl
      clear g0 g1 g2 hrow hvals hb9 hsq hbx9
      go_upto_region 8 with fail
      go_region_held3 (fun X => Below w.heap.size w X ∧ X.cell? ⟨w3.heap.size, 2, none⟩ = some (.slice A6 l6.length c6))
        (first
          | exact HKS.out _ (Below.refl _ w9).drew
          | exact HKS.out _ (below_next (Below.refl _ w9).drew hb11)
          | exact HKS.out _ (below_next (below_next (Below.refl _ w9).drew hb11) hb12)
          | exact HKS.out _ (below_next (below_next (below_next (Below.refl _ w9).drew hb11) hb12) hb13)
          | exact HKS.out _ (below_next (below_next (below_next (below_next (Below.refl _ w9).drew hb11) hb12) hb13) hb14)
          | exact HKF.out _ (below_next (below_next (below_next (below_next (Below.refl _ w9).drew hb11) hb12) hb13) hb14) _ _)
        (first
          | (go_at_call 30; (with_reducible refine (HSM.out _ _ c9 ns ?_ HVL.out).mono ?_); (exact HSQ.out.call (Below.refl _ w9).drew); rintro e w11 ⟨A11, c11, l11, rfl, hn11, hb11⟩; rw [HSV.out ns HVL.out] at hn11)
          | (go_at_call 31; (with_reducible refine (HPW.out _ A6 c6 l6 ?_).mono ?_); (exact HN9.out.on (below_next (Below.refl _ w9).drew hb11)); rintro e w12 ⟨A12, c12, l12, rfl, hn12, hb12⟩)
          | (go_at_call 29; (with_reducible refine (HLW.out _ A11 A12 c11 c12 l11 l12 (hn11.on hb12) hn12).mono ?_); rintro e w13 ⟨v13, rfl, hv13, hb13⟩)
          | (go_at_call 28; (with_reducible refine (HRS.out _ v13 ?_ hv13).mono ?_); (exact below_next HST0.out.below (below_next HB9.out (below_next (below_next (below_next (Below.refl _ w9).drew hb11) hb12) hb13))); rintro e w14 ⟨rfl, hb14⟩; (obtain ⟨-, -, k0, k1, z0, z1, hl0⟩ := HK.out w14 (below_next HB9.out (below_next (below_next (below_next (below_next (Below.refl _ w9).drew hb11) hb12) hb13) hb14)))))
      have HB14 := Lib.hid (HFIN.out w14 (below_next HB9.out (below_next (below_next (below_next (below_next (Below.refl _ w9).drew hb11) hb12) hb13) hb14)) (.string R1) (.string R2))
      clear hn11 hn12 hv13 hb11 hb12 hb13 hb14
      go_wp2
      refine bodyPost_ret (v := .tuple #[.agg #[.string R1, .string R2], .int .i64 rc]) (by simp [results, Tryz.results7, go_sem, k0, k1, hl0]) rfl ⟨rfl, HB14.out⟩
    · obtain ⟨hv, he⟩ := binV_bad (n := n) (k := k) (a := a) (b := b) (by rw [← hcc]; exact hc0)
      have t3 : (cc != 0) = true := by rw [bne_iff_ne]; exact hc0
      rw [hv, he, ← hcc, rat_none]
      clear hv he hcc hcn hSa hSb hc0
      go_enter Tryz.func7, Tryz.ntmps7
      go_wp2_with fail
      rw [← hW0]
      clear hW0
      go_wp2_with fail
      (with_reducible refine (HSF.out _).mono ?_)
      rintro e w1 ⟨rfl, hb1⟩
      clear p0 p1 k0 k1 z0 z1 hl0
      obtain ⟨p0, p1, k0, k1, z0, z1, hl0⟩ := HK.out w1 hb1
      go_wp2
      refine bodyPost_ret (v := .tuple #[.agg #[.string ⟨#[]⟩, .string ⟨#[]⟩], .int .i64 cc]) (by simp [results, Tryz.results7, go_sem, k0, k1]) rfl ⟨rfl, HFIN.out _ hb1 _ _⟩
end Go.Proofs.YtfeicfohahfhiaaGreatDoor
