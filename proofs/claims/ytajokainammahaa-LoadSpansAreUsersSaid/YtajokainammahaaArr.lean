/- Package load: arrival. -/
import Derived.Test.YtajokainammahaaFirst
namespace Go.Proofs.Ytajokainammahaa
open Go Go.RowKit Go.Proofs

/-- the arrival k -/
def arr (l : List (Int × Int × Int)) (k : Nat) : Option Nat := fst (2 * k + 1) 2 0 0 (stgs l)
set_option maxHeartbeats 2000000 in
set_option maxRecDepth 100000 in
theorem arrival_any (P : Nat) (A : Option Addr) (c : Nat) (l : List (Int × Int × Int)) (k : Nat) (w : World) (hL : LineR w P A c l) (hok : OkL l) (hk : k ≤ 1000000000000000000) :
    Calls Try.prog 19 #[.pointer (some ⟨P, 0, none⟩), .int .i64 k] w fun e w' => e = .returned (firstV (arr l k)) ∧ Below w.heap.size w w' := by
  have HPR := Lib.hid (fun (W : World) B (hW : W.heap[B]? = some (.cells #[.int .i64 2, .int .i64 k] 3 (0, 0))) => prod_block (zs := [2, (k : Int)]) (W := W) (B := B) hW (by simp) (by intro q hq; simp at hq; omega))
  have HO1 := Lib.hid (fun W => natOf_any 1 W (by omega))
  have HO2 := Lib.hid (fun W => natOf_any 2 W (by omega))
  have hpk : prodN [2, (k : Int)] = 2 * k := by simp only [prodN, Nat.mul_one]; show 2 * k = _; rfl
  have hW3 : W64 ^ 3 = 6277101735386680763835789423207666416102355444464034512896 := by unfold W64; rfl
  have HAD := Lib.hid (fun (W : World) A5 c5 l5 A6 c6 l6 (h5 : NatR W A5 c5 l5 (prodN [2, (k : Int)])) (h6 : NatR W A6 c6 l6 (1 : Int).toNat) => natAdd_any A5 A6 c5 c6 l5 l6 _ _ W h5 h6 (by have := small_len h5 (by have := W9c; omega); omega) (by have := small_len h6 (by have := W9c; show 1 < _; omega); omega))
  have HFI := Lib.hid (fun (W : World) A5 c5 l5 A6 c6 l6 (hb : Below w.heap.size w W) (h5 : NatR W A5 c5 l5 (2 * k + 1)) (h6 : NatR W A6 c6 l6 2) => first_any P A c l A5 A6 c5 c6 l5 l6 (2 * k + 1) 2 W (hL.on hb) hok h5 h6 (by rw [hW3]; omega) (by rw [hW3]; omega))
  have HPK := Lib.hid hpk
  obtain ⟨r, hr⟩ : ∃ r, r = arr l k := ⟨_, rfl⟩
  have hr' : fst (2 * k + 1) 2 0 0 (stgs l) = r := hr.symm
  rw [← hr]
  simp only [hr'] at HFI
  clear hpk hW3 hL hok hr hr'
  cases r with
  | none =>
    simp only [firstV] at HFI ⊢
    go_enter Try.func19, Try.ntmps19
    go_wp2_with fail
    refine (HPR.out _ _ (alloc_at w _ _ rfl)).mono ?_
    rintro e w1 ⟨A1, c1, l1, rfl, hn1, hb1⟩
    have hb1' : Below w.heap.size w w1 := below_next ((Below.refl _ w).alloc (Nat.le_refl _) _) hb1
    have HN1 := Lib.hid hn1
    have HB1 := Lib.hid hb1'
    clear hn1 hb1 hb1'
    go_wp2_with fail
    refine (HO1.out _).mono ?_
    rintro e w2 ⟨A2, c2, l2, rfl, hn2, hb2⟩
    have HA := Lib.hid (HAD.out w2 A1 c1 l1 A2 c2 l2 (HN1.out.on hb2) hn2)
    have HB2 := Lib.hid (below_next HB1.out hb2)
    clear hn2 hb2
    go_wp2_with fail
    refine HA.out.mono ?_
    rintro e w3 ⟨A3, c3, l3, rfl, hn3, hb3⟩
    have HN3 := Lib.hid hn3
    have HB3 := Lib.hid (below_next HB2.out hb3)
    clear hn3 hb3
    go_wp2_with fail
    refine (HO2.out _).mono ?_
    rintro e w4 ⟨A4, c4, l4, rfl, hn4, hb4⟩
    have HF := Lib.hid (HFI.out w4 A3 c3 l3 A4 c4 l4 (below_next HB3.out hb4) (by have := HN3.out.on hb4; rw [HPK.out] at this; exact this) hn4)
    have HB4 := Lib.hid (below_next HB3.out hb4)
    clear hn4 hb4
    go_wp2_with fail
    refine HF.out.mono ?_
    rintro e w5 ⟨rfl, hb5⟩
    go_wp2
    go_ret2
    exact ⟨rfl, below_next HB4.out hb5⟩
  | some T =>
    simp only [firstV] at HFI ⊢
    go_enter Try.func19, Try.ntmps19
    go_wp2_with fail
    refine (HPR.out _ _ (alloc_at w _ _ rfl)).mono ?_
    rintro e w1 ⟨A1, c1, l1, rfl, hn1, hb1⟩
    have hb1' : Below w.heap.size w w1 := below_next ((Below.refl _ w).alloc (Nat.le_refl _) _) hb1
    have HN1 := Lib.hid hn1
    have HB1 := Lib.hid hb1'
    clear hn1 hb1 hb1'
    go_wp2_with fail
    refine (HO1.out _).mono ?_
    rintro e w2 ⟨A2, c2, l2, rfl, hn2, hb2⟩
    have HA := Lib.hid (HAD.out w2 A1 c1 l1 A2 c2 l2 (HN1.out.on hb2) hn2)
    have HB2 := Lib.hid (below_next HB1.out hb2)
    clear hn2 hb2
    go_wp2_with fail
    refine HA.out.mono ?_
    rintro e w3 ⟨A3, c3, l3, rfl, hn3, hb3⟩
    have HN3 := Lib.hid hn3
    have HB3 := Lib.hid (below_next HB2.out hb3)
    clear hn3 hb3
    go_wp2_with fail
    refine (HO2.out _).mono ?_
    rintro e w4 ⟨A4, c4, l4, rfl, hn4, hb4⟩
    have HF := Lib.hid (HFI.out w4 A3 c3 l3 A4 c4 l4 (below_next HB3.out hb4) (by have := HN3.out.on hb4; rw [HPK.out] at this; exact this) hn4)
    have HB4 := Lib.hid (below_next HB3.out hb4)
    clear hn4 hb4
    go_wp2_with fail
    refine HF.out.mono ?_
    rintro e w5 ⟨rfl, hb5⟩
    go_wp2
    go_ret2
    exact ⟨rfl, below_next HB4.out hb5⟩

/-- how many arrivals are before a time -/
def befN (l : List (Int × Int × Int)) (t : Nat) : Nat := if t = 0 then 0 else upto (place l (t - 1))
/-- what Count returns: the number and the error -/
def countV (l : List (Int × Int × Int)) (a b : Int) : Int × Int := if codeS l ≠ 0 then (0, codeS l) else if a < 0 ∨ b < a ∨ 1000000000001 < b then (0, 9) else ((befN l b.toNat : Int) - befN l a.toNat, 0)
theorem befN_small {l : List (Int × Int × Int)} (hok : OkL l) (t : Nat) : befN l t ≤ 100000000000000 := by
  unfold befN
  split
  · omega
  · exact (upto_small hok _).1
end Go.Proofs.Ytajokainammahaa
