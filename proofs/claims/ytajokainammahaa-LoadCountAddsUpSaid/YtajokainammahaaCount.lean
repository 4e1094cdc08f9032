/- Package load: arrival, Count. -/
import Derived.Test.YtajokainammahaaFirst
namespace Go.Proofs.Ytajokainammahaa
open Go Go.RowKit Go.Proofs

/-- the arrival k -/
def arr (l : List (Int × Int × Int)) (k : Nat) : Option Nat := fst (2 * k + 1) 2 0 0 (stgs l)
set_option maxHeartbeats 2000000 in
set_option maxRecDepth 100000 in
theorem arrival_any (P : Nat) (A : Option Addr) (c : Nat) (l : List (Int × Int × Int)) (k : Nat) (w : World) (hL : LineR w P A c l) (hok : OkL l) (hk : k ≤ 1000000000000000000) :
    Calls Try.prog 19 #[.pointer (some ⟨P, 0, none⟩), .int .i64 k] w fun e w' => e = .returned (firstV (arr l k)) ∧ Below w.heap.size w w' := by
  have HPR := Lib.hid (fun (W : World) B (hW : W.heap[B]? = some (.cells #[.int .i64 2, .int .i64 k] 3 (0, 0))) => prod_block (zs := [2, (k : Int)]) (W := W) (B := B) hW (by simp) (by intro q hq; simp at hq; omega))
  have HO1 := Lib.hid (fun W => natOf_any 1 W (by omega))
  have HO2 := Lib.hid (fun W => natOf_any 2 W (by omega))
  have hpk : prodN [2, (k : Int)] = 2 * k := by simp only [prodN, Nat.mul_one]; show 2 * k = _; rfl
  have hW3 : W64 ^ 3 = 6277101735386680763835789423207666416102355444464034512896 := by unfold W64; rfl
  have HAD := Lib.hid (fun (W : World) A5 c5 l5 A6 c6 l6 (h5 : NatR W A5 c5 l5 (prodN [2, (k : Int)])) (h6 : NatR W A6 c6 l6 (1 : Int).toNat) => natAdd_any A5 A6 c5 c6 l5 l6 _ _ W h5 h6 (by have := small_len h5 (by have := W9c; omega); omega) (by have := small_len h6 (by have := W9c; show 1 < _; omega); omega))
  have HFI := Lib.hid (fun (W : World) A5 c5 l5 A6 c6 l6 (hb : Below w.heap.size w W) (h5 : NatR W A5 c5 l5 (2 * k + 1)) (h6 : NatR W A6 c6 l6 2) => first_any P A c l A5 A6 c5 c6 l5 l6 (2 * k + 1) 2 W (hL.on hb) hok h5 h6 (by rw [hW3]; omega) (by rw [hW3]; omega))
  have HPK := Lib.hid hpk
  obtain ⟨r, hr⟩ : ∃ r, r = arr l k := ⟨_, rfl⟩
  have hr' : fst (2 * k + 1) 2 0 0 (stgs l) = r := hr.symm
  rw [← hr]
  simp only [hr'] at HFI
  clear hpk hW3 hL hok hr hr'
  cases r with
  | none =>
    simp only [firstV] at HFI ⊢
    go_enter Try.func19, Try.ntmps19
    go_wp2_with fail
    refine (HPR.out _ _ (alloc_at w _ _ rfl)).mono ?_
    rintro e w1 ⟨A1, c1, l1, rfl, hn1, hb1⟩
    have hb1' : Below w.heap.size w w1 := below_next ((Below.refl _ w).alloc (Nat.le_refl _) _) hb1
    have HN1 := Lib.hid hn1
    have HB1 := Lib.hid hb1'
    clear hn1 hb1 hb1'
    go_wp2_with fail
    refine (HO1.out _).mono ?_
    rintro e w2 ⟨A2, c2, l2, rfl, hn2, hb2⟩
    have HA := Lib.hid (HAD.out w2 A1 c1 l1 A2 c2 l2 (HN1.out.on hb2) hn2)
    have HB2 := Lib.hid (below_next HB1.out hb2)
    clear hn2 hb2
    go_wp2_with fail
    refine HA.out.mono ?_
    rintro e w3 ⟨A3, c3, l3, rfl, hn3, hb3⟩
    have HN3 := Lib.hid hn3
    have HB3 := Lib.hid (below_next HB2.out hb3)
    clear hn3 hb3
    go_wp2_with fail
    refine (HO2.out _).mono ?_
    rintro e w4 ⟨A4, c4, l4, rfl, hn4, hb4⟩
    have HF := Lib.hid (HFI.out w4 A3 c3 l3 A4 c4 l4 (below_next HB3.out hb4) (by have := HN3.out.on hb4; rw [HPK.out] at this; exact this) hn4)
    have HB4 := Lib.hid (below_next HB3.out hb4)
    clear hn4 hb4
    go_wp2_with fail
    refine HF.out.mono ?_
    rintro e w5 ⟨rfl, hb5⟩
    go_wp2
    go_ret2
    exact ⟨rfl, below_next HB4.out hb5⟩
  | some T =>
    simp only [firstV] at HFI ⊢
    go_enter Try.func19, Try.ntmps19
    go_wp2_with fail
    refine (HPR.out _ _ (alloc_at w _ _ rfl)).mono ?_
    rintro e w1 ⟨A1, c1, l1, rfl, hn1, hb1⟩
    have hb1' : Below w.heap.size w w1 := below_next ((Below.refl _ w).alloc (Nat.le_refl _) _) hb1
    have HN1 := Lib.hid hn1
    have HB1 := Lib.hid hb1'
    clear hn1 hb1 hb1'
    go_wp2_with fail
    refine (HO1.out _).mono ?_
    rintro e w2 ⟨A2, c2, l2, rfl, hn2, hb2⟩
    have HA := Lib.hid (HAD.out w2 A1 c1 l1 A2 c2 l2 (HN1.out.on hb2) hn2)
    have HB2 := Lib.hid (below_next HB1.out hb2)
    clear hn2 hb2
    go_wp2_with fail
    refine HA.out.mono ?_
    rintro e w3 ⟨A3, c3, l3, rfl, hn3, hb3⟩
    have HN3 := Lib.hid hn3
    have HB3 := Lib.hid (below_next HB2.out hb3)
    clear hn3 hb3
    go_wp2_with fail
    refine (HO2.out _).mono ?_
    rintro e w4 ⟨A4, c4, l4, rfl, hn4, hb4⟩
    have HF := Lib.hid (HFI.out w4 A3 c3 l3 A4 c4 l4 (below_next HB3.out hb4) (by have := HN3.out.on hb4; rw [HPK.out] at this; exact this) hn4)
    have HB4 := Lib.hid (below_next HB3.out hb4)
    clear hn4 hb4
    go_wp2_with fail
    refine HF.out.mono ?_
    rintro e w5 ⟨rfl, hb5⟩
    go_wp2
    go_ret2
    exact ⟨rfl, below_next HB4.out hb5⟩

/-- how many arrivals are before a time -/
def befN (l : List (Int × Int × Int)) (t : Nat) : Nat := if t = 0 then 0 else upto (place l (t - 1))
/-- what Count returns: the number and the error -/
def countV (l : List (Int × Int × Int)) (a b : Int) : Int × Int := if codeS l ≠ 0 then (0, codeS l) else if a < 0 ∨ b < a ∨ 1000000000001 < b then (0, 9) else ((befN l b.toNat : Int) - befN l a.toNat, 0)
theorem befN_small {l : List (Int × Int × Int)} (hok : OkL l) (t : Nat) : befN l t ≤ 100000000000000 := by
  unfold befN
  split
  · omega
  · exact (upto_small hok _).1

set_option maxHeartbeats 2000000 in
set_option maxRecDepth 100000 in
theorem count_any (A : Option Addr) (c : Nat) (l : List (Int × Int × Int)) (a b : Int) (w : World) (hr : Rd w 0 w.heap.size 3 A l.length (cells3 l)) (hl : l.length ≤ 9223372036854775807) :
    Calls Try.prog 6 #[.slice A l.length c, .int .i64 a, .int .i64 b] w fun e w' => e = .returned (.tuple #[.int .i64 (countV l a b).1, .int .i64 (countV l a b).2]) ∧ Below w.heap.size w w' := by
  have HCK := Lib.hid (loadCheck_any A c l w hr hl)
  have HR := Lib.hid hr
  clear hr
  by_cases hc : codeS l = 0
  · have hok := codeS_ok hc
    rw [hc] at HCK
    by_cases hbad : a < 0 ∨ b < a ∨ 1000000000001 < b
    · have HV := Lib.hid (show countV l a b = (0, 9) by unfold countV; rw [if_neg (by omega), if_pos hbad])
      clear hok hc
      go_enter Try.func6, Try.ntmps6
      go_wp2_with fail
      refine HCK.out.mono ?_
      rintro e w1 ⟨rfl, hb1⟩
      rcases hbad with h | h | h
      · have b1 : decide (a < 0) = true := by simpa using h
        go_wp2
        go_ret2
        exact ⟨by rw [HV.out]; rfl, hb1⟩
      · by_cases h0 : a < 0
        · have b1 : decide (a < 0) = true := by simpa using h0
          go_wp2
          go_ret2
          exact ⟨by rw [HV.out]; rfl, hb1⟩
        · have b1 : decide (a < 0) = false := by simpa using h0
          have b2 : decide (b < a) = true := by simpa using h
          go_wp2
          go_ret2
          exact ⟨by rw [HV.out]; rfl, hb1⟩
      · by_cases h0 : a < 0
        · have b1 : decide (a < 0) = true := by simpa using h0
          go_wp2
          go_ret2
          exact ⟨by rw [HV.out]; rfl, hb1⟩
        · have b1 : decide (a < 0) = false := by simpa using h0
          by_cases h2 : b < a
          · have b2 : decide (b < a) = true := by simpa using h2
            go_wp2
            go_ret2
            exact ⟨by rw [HV.out]; rfl, hb1⟩
          · have b2 : decide (b < a) = false := by simpa using h2
            have b3 : decide (1000000000001 < b) = true := by simpa using h
            go_wp2
            go_ret2
            exact ⟨by rw [HV.out]; rfl, hb1⟩
    · obtain ⟨an, rfl⟩ : ∃ an : Nat, a = an := ⟨a.toNat, by omega⟩
      obtain ⟨bn, rfl⟩ : ∃ bn : Nat, b = bn := ⟨b.toNat, by omega⟩
      have HV := Lib.hid (show countV l an bn = ((befN l bn : Int) - befN l an, 0) by unfold countV; rw [if_neg (by omega), if_neg hbad]; rfl)
      have b1 : decide ((an : Int) < 0) = false := by simp
      have b2 : decide ((bn : Int) < an) = false := by simp; omega
      have b3 : decide (1000000000001 < (bn : Int)) = false := by simp; omega
      have s1 := befN_small hok an
      have s2 := befN_small hok bn
      have HNW := Lib.hid (fun (W : World) (hb : Below w.heap.size w W) => newLine_any A c l W (HR.out.old hb) hok)
      have HBF := Lib.hid (fun (W : World) P t (hL : LineR W P A c l) (ht : t ≤ 1000000000001) => before_any P A c l t W hL hok (by omega))
      obtain ⟨x1, hx1⟩ : ∃ x, x = befN l an := ⟨_, rfl⟩
      obtain ⟨x2, hx2⟩ : ∃ x, x = befN l bn := ⟨_, rfl⟩
      rw [← hx1, ← hx2] at HV
      rw [← hx1] at s1
      rw [← hx2] at s2
      have HX1 := Lib.hid hx1
      have HX2 := Lib.hid hx2
      clear hok hc hx1 hx2
      go_enter Try.func6, Try.ntmps6
      go_wp2_with fail
      refine HCK.out.mono ?_
      rintro e w1 ⟨rfl, hb1⟩
      have HB1 := Lib.hid hb1
      clear hb1
      go_wp2_with fail
      refine (HNW.out _ HB1.out).mono ?_
      rintro e w2 ⟨P, rfl, hP, hL, hb2⟩
      have HB2 := Lib.hid (below_next HB1.out hb2)
      have HL := Lib.hid hL
      have H1 := Lib.hid (show Calls Try.prog 18 #[.pointer (some ⟨P, 0, none⟩), .int .i64 bn] w2 fun e w' => e = .returned (.int .i64 (x2 : Int)) ∧ Below w2.heap.size w2 w' from by
        rw [HX2.out]; exact HBF.out w2 P bn hL (by omega))
      clear hL hb2 hP
      go_wp2_with fail
      refine H1.out.mono ?_
      rintro e w3 ⟨rfl, hb3⟩
      have HB3 := Lib.hid (below_next HB2.out hb3)
      have H2 := Lib.hid (show Calls Try.prog 18 #[.pointer (some ⟨P, 0, none⟩), .int .i64 an] w3 fun e w' => e = .returned (.int .i64 (x1 : Int)) ∧ Below w3.heap.size w3 w' from by
        rw [HX1.out]; exact HBF.out w3 P an (HL.out.on hb3) (by omega))
      clear hb3
      go_wp2_with fail
      refine H2.out.mono ?_
      rintro e w4 ⟨rfl, hb4⟩
      go_wp2
      go_ret2
      exact ⟨by rw [HV.out]; rfl, below_next HB3.out hb4⟩
  · have HV := Lib.hid (show countV l a b = (0, codeS l) by unfold countV; rw [if_pos hc])
    obtain ⟨cc, hcc⟩ : ∃ cc, cc = codeS l := ⟨_, rfl⟩
    rw [← hcc] at HCK HV hc
    have t1 : (cc != 0) = true := by simpa using hc
    clear hcc
    go_enter Try.func6, Try.ntmps6
    go_wp2_with fail
    refine HCK.out.mono ?_
    rintro e w1 ⟨rfl, hb1⟩
    go_wp2
    go_ret2
    exact ⟨by rw [HV.out]; rfl, hb1⟩
end Go.Proofs.Ytajokainammahaa
