import Derived.Test.YtnpfdelklolchaaGreatDoorG17
import Derived.Test.YtnpfdelklolchaaGreatDoorNatAdd
import Derived.Test.YtnpfdelklolchaaGreatDoorG0
import Derived.Test.YtnpfdelklolchaaGreatDoorShelfB
import Derived.WalkSpells
import Derived.WalkLawsBesides
import Derived.Handy
import Derived.Test.YtnpfdelklolchaaGreatDoorFracPlus
import Derived.Test.YtnpfdelklolchaaGreatDoorG12
import Derived.Deep.QuietTactic
import Derived.BigQuiet
import Derived.Test.YtnpfdelklolchaaGreatDoorG11
import Derived.Test.YtnpfdelklolchaaGreatDoorG1
import Derived.Test.YtnpfdelklolchaaGreatDoorG15
import Derived.Deep.RegionHeld3
/- Package nat: Parse: the number with some decimal digits. -/
namespace Go.Proofs.YtnpfdelklolchaaGreatDoor
open Go Go.RowKit Go.Proofs

theorem parseM_ok (M : Nat) (hM : 10 ^ 18 ≤ M) : ∀ (l : List UInt8) (acc : Nat), (∀ c ∈ l, 48 ≤ c.toNat ∧ c.toNat ≤ 57) → acc * 10 ^ l.length + dgV l < 10 ^ 18 → Lib.parseUintM M acc l = .ok (acc * 10 ^ l.length + dgV l)
  | [], acc, _, _ => by simp [Lib.parseUintM, dgV]
  | c :: r, acc, hd, hb => by
    have hc := hd c (by simp)
    have e : acc * 10 ^ (c :: r).length + dgV (c :: r) = (acc * 10 + (c.toNat - 48)) * 10 ^ r.length + dgV r := by
      have h1 := dgV_from r (10 * 0 + (c.toNat - 48))
      have h2 : dgV (c :: r) = (10 * 0 + (c.toNat - 48)) * 10 ^ r.length + dgV r := by
        unfold dgV at *
        rw [List.foldl_cons]; exact h1
      rw [h2, List.length_cons, Nat.pow_succ, Nat.add_mul, Nat.mul_zero, Nat.add_mul, Nat.zero_mul, Nat.zero_add]
      have : acc * (10 ^ r.length * 10) = acc * 10 * 10 ^ r.length := by rw [Nat.mul_comm (10 ^ r.length) 10, Nat.mul_assoc]
      omega
    rw [e] at hb ⊢
    have hp : 0 < 10 ^ r.length := Nat.pow_pos (by omega)
    have hle : acc * 10 + (c.toNat - 48) ≤ (acc * 10 + (c.toNat - 48)) * 10 ^ r.length := Nat.le_mul_of_pos_right _ hp
    have h10 : (10 : Nat) ^ 18 = 1000000000000000000 := by decide
    unfold Lib.parseUintM
    rw [if_pos hc, if_neg (by omega), if_neg (by omega)]
    exact parseM_ok M hM r _ (fun x hx => hd x (by simp [hx])) hb
theorem parse_ok {l : List UInt8} (hd : ∀ c ∈ l, 48 ≤ c.toNat ∧ c.toNat ≤ 57) (h0 : l ≠ []) (hl : l.length ≤ 18) : Lib.parseUintB 64 l = .ok (dgV l) := by
  unfold Lib.parseUintB
  rw [if_neg h0, parseM_ok _ (by decide) l 0 hd (by
    have := dgV_lt hd
    have h2 : (10 : Nat) ^ l.length ≤ 10 ^ 18 := Nat.pow_le_pow_right (by omega) hl
    omega)]
  simp
theorem ten_W64 (k : Nat) : 10 ^ k ≤ W64 ^ k := Nat.pow_le_pow_left (by unfold W64; omega) _
/-- k digits are read -/
def PrsR (w wr : World) (L : List UInt8) (k : Nat) (v : Value) : Prop := ∃ A c l, v = .slice A l.length c ∧ NatR wr A c l (dgV (L.take k)) ∧ Below w.heap.size w wr
/-- the word of a number below 10^18 -/
theorem word_rd (w : World) (x : Nat) : Rd (w.alloc (.cells #[.int .u64 (x : Int)] 110)) 0 (w.alloc (.cells #[.int .u64 (x : Int)] 110)).heap.size 1 (some ⟨w.heap.size, 0, none⟩) [x].length (u64s [x]) := by
  refine ⟨by simp [u64s], fun _ => ⟨w.heap.size, 0, rfl, Nat.zero_le _, by simp, fun j u hj => ?_⟩⟩
  have hj' := (List.getElem?_eq_some_iff.1 hj).1
  simp [u64s] at hj'
  subst hj'
  rw [cellsAt (alloc_at w _ _ rfl)]
  simp [u64s] at hj ⊢
  exact hj

set_option maxHeartbeats 4000000 in
set_option maxRecDepth 100000 in
theorem natParse_any (S : ByteArray) (L : List UInt8) (w : World) (hSL : S.data.toList = L) (hL : L.length ≤ 2000) (hd : ∀ c ∈ L, 48 ≤ c.toNat ∧ c.toNat ≤ 57) :
    Calls Tryz.prog 121 #[.string S] w (NatPost (dgV L) w) := by
  have HD := Lib.hid hd
  have HOF := Lib.hid (fun W => natOf_any 10 W (by omega))
  rw [show (10 : Int).toNat = 10 from rfl] at HOF
  have HSL := Lib.hid hSL
  clear hd hSL
  go_enter Tryz.func121, Tryz.ntmps121
  go_wp2_with fail
  go_loopw [0, 3, 4, 5, 6] (fun s v _ _ _ wr => ∃ (T : ByteArray) (k : Nat), s = .string T ∧ k ≤ L.length ∧ T.data.toList = L.drop k ∧ PrsR w wr L k v) (fun s _ _ _ _ _ => match s with | .string T => T.size | _ => 0)
  case atStart => exact ⟨S, 0, rfl, Nat.zero_le _, by rw [List.drop_zero]; exact HSL.out, none, 0, [], rfl, natr_nil _, Below.refl _ _⟩
  case round =>
    obtain ⟨T, k, rfl, hk, hT, A, c, l, rfl, hn, hb⟩ := hrel
    have hTs : T.size = L.length - k := by
      have := congrArg List.length hT
      rw [List.length_drop] at this
      rw [← this]; exact Array.length_toList.symm
    have hTs1 : T.size ≤ L.length - k := Nat.le_of_eq hTs
    have hTs2 : L.length - k ≤ T.size := Nat.le_of_eq hTs.symm
    have hl : l.length ≤ k := hn.len (Nat.lt_of_lt_of_le (dgV_lt (fun c hc => HD.out c (List.mem_of_mem_take hc))) (by rw [List.length_take]; exact Nat.le_trans (Nat.pow_le_pow_right (by omega) (Nat.min_le_left _ _)) (ten_W64 k)))
    have HT := Lib.hid hT
    have HN := Lib.hid hn
    have HB := Lib.hid hb
    clear hT hn hb hTs
    by_cases hlt : 0 < T.size
    · obtain ⟨n, hn1⟩ : ∃ n, n = min T.size 18 := ⟨_, rfl⟩
      have hn0 : 0 < n := by omega
      have hn2 : n ≤ T.size := by omega
      have hn3 : n ≤ 18 := by omega
      have hmn : min (T.size : Int) 18 = (n : Int) := by omega
      have t1 : decide ((0 : Int) < (T.size : Int)) = true := decide_eq_true (by omega)
      have t2 : decide (0 < T.size) = true := decide_eq_true hlt
      clear hn1
      have hE : (T.extract 0 n).data.toList = (L.drop k).take n := by
        rw [← HT.out, Lib.extract_data]; simp
      have hPd : ∀ c ∈ (L.drop k).take n, 48 ≤ c.toNat ∧ c.toNat ≤ 57 := fun c hc => HD.out c (List.mem_of_mem_drop (List.mem_of_mem_take hc))
      have hPl : ((L.drop k).take n).length = n := by rw [List.length_take, List.length_drop]; omega
      have hES : (T.extract 0 n).size = n := by
        have h1 := congrArg List.length hE
        rw [hPl] at h1
        exact Eq.trans Array.length_toList.symm h1
      have hPO : Lib.parseUintB 64 (T.extract 0 n).data.toList = .ok (dgV ((L.drop k).take n)) := by
        rw [hE]
        exact parse_ok hPd (fun hc => by rw [hc] at hPl; simp at hPl; omega) (by omega)
      have HP := Lib.hid (fun W => Tryz.strconv_ParseUint_10_at64_ok (T.extract 0 n) (by omega) _ hPO W)
      have hxb := dgV_lt hPd
      rw [hPl] at hxb
      have hpw : (10 : Nat) ^ n ≤ 10 ^ 18 := Nat.pow_le_pow_right (by omega) hn3
      obtain ⟨x, hx⟩ : ∃ x, x = dgV ((L.drop k).take n) := ⟨_, rfl⟩
      have HV := Lib.hid (show dgV (L.take (k + n)) = dgV (L.take k) * 10 ^ n + x by
        rw [hx, List.take_add, dgV_app, hPl])
      rw [← hx] at HP hxb
      have hx64 : x < 18446744073709551616 := by omega
      clear hPd hPl hE hx hpw hxb hES hPO
      go_wp2_with fail
      (with_reducible refine (HP.out _).mono ?_)
      rintro e w1 ⟨rfl, hw1⟩
      have HB1 := Lib.hid (show Below wr.heap.size wr w1 by
        rcases hw1 with rfl | rfl
        · exact Below.refl _ _
        · exact Lib.bytesWorld_below _ _ _)
      clear hw1
      go_wp2_with fail
      (with_reducible refine (HOF.out _).mono ?_)
      rintro e w2 ⟨A2, c2, l2, rfl, hn2', hb2⟩
      have HPW := Lib.hid (natPow_any A2 c2 l2 10 n 1 w2 hn2' (by unfold W64; omega) (by omega) (by omega))
      have HB2 := Lib.hid (below_next HB1.out hb2)
      clear hn2' hb2
      go_wp2_with fail
      (with_reducible refine HPW.out.mono ?_)
      rintro e w3 ⟨A3, c3, l3, rfl, hn3', hb3⟩
      have hl3 : l3.length ≤ n := hn3'.len (by have := ten_W64 n; have : (10 : Nat) ^ n < W64 ^ n := Nat.pow_lt_pow_left (by unfold W64; omega) (by omega); exact this)
      have HB3 := Lib.hid (below_next HB2.out hb3)
      have HM := Lib.hid (natMul_any A A3 c c3 l l3 _ _ w3 (HN.out.on HB3.out) hn3' (by omega) (by omega))
      clear hn3' hb3
      go_wp2_with fail
      (with_reducible refine HM.out.mono ?_)
      rintro e w4 ⟨A4, c4, l4, rfl, hn4, hb4⟩
      have hk18 : dgV (L.take k) * 10 ^ n < W64 ^ (k + n) := by
        rw [Nat.pow_add]
        refine Nat.mul_lt_mul'' (Nat.lt_of_lt_of_le (dgV_lt (fun c hc => HD.out c (List.mem_of_mem_take hc))) ?_) (Nat.pow_lt_pow_left (by unfold W64; omega) (by omega))
        rw [List.length_take]; exact Nat.le_trans (Nat.pow_le_pow_right (by omega) (Nat.min_le_left _ _)) (ten_W64 k)
      have hl4 : l4.length ≤ k + n := hn4.len hk18
      have HN4 := Lib.hid hn4
      have HB4 := Lib.hid (below_next HB3.out hb4)
      have hRD := word_rd w4 x
      have HCU := Lib.hid (cut_any (some ⟨w4.heap.size, 0, none⟩) 1 [x] _ hRD (by simp) (by unfold maxLen; omega) (fun h => by cases h))
      have HNC := Lib.hid (natr_cut hRD (fun d hd => by simp at hd; subst hd; unfold W64; omega) (by simp) (show 1 ≤ maxLen by unfold maxLen; omega) (fun h => by cases h))
      have HB5 := Lib.hid (HB4.out.alloc HB4.out.size (.cells #[.int .u64 (x : Int)] 110))
      rw [show val W64 [x] = x by simp [val]] at HNC
      have htl := trim_length [x]
      obtain ⟨l5, hl5⟩ : ∃ l5, l5 = trim [x] := ⟨_, rfl⟩
      rw [← hl5] at HCU HNC htl
      simp only [List.length_cons, List.length_nil, Nat.zero_add] at htl HCU
      clear hn4 hb4 hRD hl5 hk18
      go_wp2_with fail
      (with_reducible refine HCU.out.mono ?_)
      rintro e w5 ⟨rfl, rfl⟩
      have HAD := Lib.hid (natAdd_any A4 (some ⟨w4.heap.size, 0, none⟩) c4 1 l4 l5 _ _ _ (HN4.out.on ((Below.refl _ w4).alloc (Nat.le_refl _) (.cells #[.int .u64 (x : Int)] 110))) HNC.out (by omega) (by omega))
      go_wp2_with fail
      (with_reducible refine HAD.out.mono ?_)
      rintro e w6 ⟨A6, c6, l6, rfl, hn6, hb6⟩
      rw [← HV.out] at hn6
      have HN6 := Lib.hid hn6
      have HB6 := Lib.hid (HB.out.trans ((below_next HB5.out hb6).mono HB.out.size))
      clear hn6 hb6
      go_wp2
      go_roundw
      case rel => exact ⟨_, k + n, rfl, by omega, by rw [Lib.extract_to_end, HT.out, List.drop_drop], A6, c6, l6, rfl, HN6.out, HB6.out⟩
      case measure => simp; omega
    · have hk' : k = L.length := by omega
      have t1 : decide ((0 : Int) < (T.size : Int)) = false := decide_eq_false (by omega)
      have t2 : decide (0 < T.size) = false := decide_eq_false hlt
      have HF := Lib.hid (show NatPost (dgV L) w (.returned (.slice A l.length c)) wr from ⟨A, c, l, rfl, by have := HN.out; rw [hk', List.take_length] at this; exact this, HB.out⟩)
      clear hk'
      go_wp2
      go_ret
      exact HF.out
end Go.Proofs.YtnpfdelklolchaaGreatDoor

/- How large the parts of fractions can be: plain. -/
namespace Go.Proofs.YtnpfdelklolchaaGreatDoor

theorem sz_mono {n m : Nat} {a : Rat} (h : Sz n a) (hnm : n ≤ m) : Sz m a := by
  have : T4 ^ n ≤ T4 ^ m := Nat.pow_le_pow_right (by unfold T4; omega) hnm
  exact ⟨Nat.lt_of_lt_of_le h.1 this, Nat.lt_of_lt_of_le h.2 this⟩
end Go.Proofs.YtnpfdelklolchaaGreatDoor

/- ref0.Digits: the number with these digits. -/
namespace Go.Proofs.YtnpfdelklolchaaGreatDoor
open Go Go.RowKit Go.Proofs

end Go.Proofs.YtnpfdelklolchaaGreatDoor

/- ref0.FromRatio. Printed by gen_fromr.py. -/
namespace Go.Proofs.YtnpfdelklolchaaGreatDoor
open Go Go.RowKit Go.Proofs

end Go.Proofs.YtnpfdelklolchaaGreatDoor

/- Package dynamometerref10: CheckRatio. -/
namespace Go.Proofs.YtnpfdelklolchaaGreatDoor
open Go Go.RowKit Go.Proofs

theorem cRt_form {a b : List UInt8} (h : dgB (unsg a) = false ∨ dgB b = false ∨ b = [48] ∨ a = [45, 48]) : cRt a b = 2 := by unfold cRt codeRt; rw [if_pos h]
theorem cRt_size {a b : List UInt8} (h : ¬ (dgB (unsg a) = false ∨ dgB b = false ∨ b = [48] ∨ a = [45, 48])) (h2 : 2000 < (unsg a).length ∨ 2000 < b.length) : cRt a b = 3 := by unfold cRt codeRt; rw [if_neg h, if_pos h2]
theorem cRt_gcd {a b : List UInt8} (h : ¬ (dgB (unsg a) = false ∨ dgB b = false ∨ b = [48] ∨ a = [45, 48])) (h2 : ¬ (2000 < (unsg a).length ∨ 2000 < b.length)) (G : Nat) (hG : G = Nat.gcd (dgV (unsg a)) (dgV b)) : cRt a b = if G = 1 then 0 else 2 := by
  unfold cRt codeRt
  rw [if_neg h, if_neg h2, hG]
theorem cmp_one {x : Nat} : (cmpN x 1 != 0) = decide (x ≠ 1) := by
  unfold cmpN
  by_cases h : x = 1
  · subst h; rfl
  · rw [decide_eq_true h]
    split
    · rfl
    · first | rfl | (rw [if_neg h]; rfl) | (split <;> first | rfl | omega)
end Go.Proofs.YtnpfdelklolchaaGreatDoor
