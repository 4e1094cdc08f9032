import Derived.Test.YtpmnhdgajkickaaGreatDoorB10
import Derived.Test.YtpmnhdgajkickaaGreatDoorNatDivK
import Derived.Test.YtpmnhdgajkickaaGreatDoorB4
import Derived.Test.YtpmnhdgajkickaaGreatDoorB3
import Derived.Test.YtpmnhdgajkickaaGreatDoorB0
import Derived.Test.YtpmnhdgajkickaaGreatDoorShelfB
import Derived.Test.YtpmnhdgajkickaaGreatDoorB13
import Derived.WalkSpells
import Derived.WalkLawsBesides
import Derived.Handy
/- How long a power's number is; the exponents of powers by squares. -/
namespace Go.Proofs.YtpmnhdgajkickaaGreatDoor

theorem pow_bound {B x K e n : Nat} (hB : 1 < B) (hx : x < B ^ K) (he : e ≤ n) : x ^ e < B ^ (K * n + 1) := by
  have h1 : x ^ e ≤ (B ^ K) ^ e := Nat.pow_le_pow_left (Nat.le_of_lt hx) e
  rw [← Nat.pow_mul] at h1
  have h2 : B ^ (K * e) ≤ B ^ (K * n) := Nat.pow_le_pow_right (by omega) (Nat.mul_le_mul_left K he)
  have h3 : B ^ (K * n) < B ^ (K * n + 1) := Nat.pow_lt_pow_right hB (Nat.lt_succ_self _)
  omega
theorem pow_len64 {l : List Nat} {x K e n : Nat} (hx : x < W64 ^ K) (he : e ≤ n) (hn : Norm W64 l) (hv : val W64 l = x ^ e) : l.length ≤ K * n + 1 :=
  len_of_lt hn hv (pow_bound W64_pos hx he)
theorem pow_odd_e {m e k n : Nat} (h : m + e * k = n) (hk : k % 2 = 1) : m + e + (e + e) * (k / 2) = n := by
  have h1 : e * k = e * (2 * (k / 2) + 1) := by congr 1; omega
  have h2 : e * (2 * (k / 2) + 1) = (e + e) * (k / 2) + e := by grind
  omega
theorem pow_even_e {m e k n : Nat} (h : m + e * k = n) (hk : k % 2 = 0) : m + (e + e) * (k / 2) = n := by
  have h1 : e * k = e * (2 * (k / 2)) := by congr 1; omega
  have h2 : e * (2 * (k / 2)) = (e + e) * (k / 2) := by grind
  omega
end Go.Proofs.YtpmnhdgajkickaaGreatDoor

/- Package nat: Pow. -/
namespace Go.Proofs.YtpmnhdgajkickaaGreatDoor
open Go Go.RowKit Go.Proofs

/-- what the loop keeps: powers of x, whose exponents still make n -/
def PowKeep (w wr : World) (x n k : Nat) (va vo : Value) : Prop :=
  ∃ (A1 A2 : Option Addr) (c1 c2 : Nat) (l1 l2 : List Nat) (m e : Nat), va = .slice A1 l1.length c1 ∧ vo = .slice A2 l2.length c2 ∧ NatR wr A1 c1 l1 (x ^ e) ∧ NatR wr A2 c2 l2 (x ^ m) ∧ m + e * k = n ∧ Below w.heap.size w wr
theorem nat_one_new (w : World) : NatR (w.alloc (.cells #[.int .u64 1] 103)) (some ⟨w.heap.size, 0, none⟩) 1 [1] 1 := by
  refine ⟨⟨by simp [u64s], fun _ => ⟨w.heap.size, 0, rfl, Nat.zero_le _, by simp, fun j u hj => ?_⟩⟩, ⟨?_, ?_⟩, ?_, by simp, by unfold maxLen; omega, fun h => by cases h⟩
  · have hj' := (List.getElem?_eq_some_iff.1 hj).1
    simp [u64s] at hj'
    subst hj'
    rw [cellsAt (alloc_at w _ _ rfl)]
    simp [u64s] at hj ⊢
    exact hj
  · intro d hd
    simp at hd
    subst hd; unfold W64; omega
  · simp
  · simp [val]

set_option maxHeartbeats 2000000 in
set_option maxRecDepth 100000 in
theorem natPow_any (A : Option Addr) (c : Nat) (l : List Nat) (x n K : Nat) (w : World) (h : NatR w A c l x) (hx : x < W64 ^ K) (hK : K * n ≤ 800000) (hn : n ≤ 1000000) :
    Calls Tryz.prog 33 #[.slice A l.length c, .int .i64 n] w (NatPost (x ^ n) w) := by
  have HN := Lib.hid h
  have HX := Lib.hid hx
  have HB0 := Lib.hid ((Below.refl w.heap.size w).alloc (Nat.le_refl _) (.cells #[.int .u64 1] 103))
  have HONE := Lib.hid (nat_one_new w)
  clear h hx
  go_enter Tryz.func33, Tryz.ntmps33
  go_wp2_with fail
  go_loopw [0, 1, 5, 7, 8] (fun a i o _ _ wr => ∃ k : Nat, i = .int .i64 k ∧ k ≤ n ∧ PowKeep w wr x n k a o) (fun _ i _ _ _ _ => (intOf i).toNat)
  case atStart => exact ⟨n, rfl, Nat.le_refl _, A, _, c, 1, l, [1], 0, 1, rfl, rfl, by rw [Nat.pow_one]; exact HN.out.on HB0.out, by rw [Nat.pow_zero]; exact HONE.out, by omega, HB0.out⟩
  case round =>
    obtain ⟨k, rfl, hk, A3, A4, c3, c4, l3, l4, m, e, rfl, rfl, h3, h4, hme, hb⟩ := hrel
    by_cases hp : 0 < k
    · have hek : e ≤ e * k := Nat.le_mul_of_pos_right e hp
      have hl3 : l3.length ≤ K * n + 1 := pow_len64 HX.out (show e ≤ n by omega) h3.norm h3.val
      have hl4 : l4.length ≤ K * n + 1 := pow_len64 HX.out (show m ≤ n by omega) h4.norm h4.val
      have t1 : decide ((0 : Int) < ↑k) = true := by simp; omega
      have t2 : decide (0 < k) = true := by simpa using hp
      have HB := Lib.hid hb
      have H3 := Lib.hid h3
      have H4 := Lib.hid h4
      clear hb h3 h4 hek
      by_cases ho : k % 2 = 1
      · have t3 : decide (0 < (k : Int) % 2) = true := by simp; omega
        have t4 : decide (0 < k % 2) = true := by simp; omega
        have HM := Lib.hid (natMul_any A4 A3 c4 c3 l4 l3 _ _ wr H4.out H3.out (by omega) (by omega))
        go_wp2_with fail
        refine HM.out.mono ?_
        rintro e2 w2 ⟨A5, c5, l5, rfl, h5, hb5⟩
        have H5 := Lib.hid h5
        have HB5 := Lib.hid hb5
        clear h5 hb5
        by_cases h1 : 1 < k
        · have t5 : decide (1 < (k : Int)) = true := by simp; omega
          have t6 : decide (1 < k) = true := by simpa using h1
          have HS := Lib.hid (fun W (hW : Below wr.heap.size wr W) => natMul_any A3 A3 c3 c3 l3 l3 _ _ W (H3.out.on hW) (H3.out.on hW) (by omega) (by omega))
          have HE := Lib.hid (pow_odd_e hme ho)
          clear hme
          go_wp2_with fail
          refine (HS.out _ HB5.out).mono ?_
          rintro e3 w3 ⟨A6, c6, l6, rfl, h6, hb6⟩
          have H6 := Lib.hid h6
          have HB6 := Lib.hid hb6
          clear h6 hb6
          go_wp2
          go_roundw
          case rel => exact ⟨k / 2, by first | rfl | go_num, by omega, A6, A5, c6, c5, l6, l5, m + e, e + e, rfl, rfl, by rw [Nat.pow_add]; exact H6.out, by rw [Nat.pow_add]; exact H5.out.on HB6.out, HE.out, HB.out.trans ((HB5.out.trans (HB6.out.mono HB5.out.size)).mono HB.out.size)⟩
          case measure => simp [intOf]; omega
        · obtain rfl : k = 1 := by omega
          have HE := Lib.hid (show m + e + e * 0 = n by omega)
          clear hme
          go_wp2
          go_roundw
          case rel => exact ⟨0, by first | rfl | go_num, by omega, A3, A5, c3, c5, l3, l5, m + e, e, rfl, rfl, H3.out.on HB5.out, by rw [Nat.pow_add]; exact H5.out, HE.out, HB.out.trans (HB5.out.mono HB.out.size)⟩
          case measure => simp [intOf]
      · have t3 : decide (0 < (k : Int) % 2) = false := by simp; omega
        have t4 : decide (0 < k % 2) = false := by simp; omega
        have t5 : decide (1 < (k : Int)) = true := by simp; omega
        have t6 : decide (1 < k) = true := by simp; omega
        have HS := Lib.hid (natMul_any A3 A3 c3 c3 l3 l3 _ _ wr H3.out H3.out (by omega) (by omega))
        have HE := Lib.hid (pow_even_e hme (show k % 2 = 0 by omega))
        clear hme
        go_wp2_with fail
        refine HS.out.mono ?_
        rintro e3 w3 ⟨A6, c6, l6, rfl, h6, hb6⟩
        have H6 := Lib.hid h6
        have HB6 := Lib.hid hb6
        clear h6 hb6
        go_wp2
        go_roundw
        case rel => exact ⟨k / 2, by first | rfl | go_num, by omega, A6, A4, c6, c4, l6, l4, m, e + e, rfl, rfl, by rw [Nat.pow_add]; exact H6.out, H4.out.on HB6.out, HE.out, HB.out.trans (HB6.out.mono HB.out.size)⟩
        case measure => simp [intOf]; omega
    · obtain rfl : k = 0 := by omega
      have HF := Lib.hid (show NatPost (x ^ n) w (.returned (.slice A4 l4.length c4)) wr from ⟨A4, c4, l4, rfl, by rw [← hme, Nat.mul_zero, Nat.add_zero]; exact h4, hb⟩)
      clear h3 h4 hme hb
      go_wp2
      go_ret
      exact HF.out
end Go.Proofs.YtpmnhdgajkickaaGreatDoor

/- Package nat: Parse: the number with some decimal digits. -/
namespace Go.Proofs.YtpmnhdgajkickaaGreatDoor
open Go Go.RowKit Go.Proofs

theorem parseM_ok (M : Nat) (hM : 10 ^ 18 ≤ M) : ∀ (l : List UInt8) (acc : Nat), (∀ c ∈ l, 48 ≤ c.toNat ∧ c.toNat ≤ 57) → acc * 10 ^ l.length + dgV l < 10 ^ 18 → Lib.parseUintM M acc l = .ok (acc * 10 ^ l.length + dgV l)
  | [], acc, _, _ => by simp [Lib.parseUintM, dgV]
  | c :: r, acc, hd, hb => by
    have hc := hd c (by simp)
    have e : acc * 10 ^ (c :: r).length + dgV (c :: r) = (acc * 10 + (c.toNat - 48)) * 10 ^ r.length + dgV r := by
      have h1 := dgV_from r (10 * 0 + (c.toNat - 48))
      have h2 : dgV (c :: r) = (10 * 0 + (c.toNat - 48)) * 10 ^ r.length + dgV r := by
        unfold dgV at *
        rw [List.foldl_cons]; exact h1
      rw [h2, List.length_cons, Nat.pow_succ, Nat.add_mul, Nat.mul_zero, Nat.add_mul, Nat.zero_mul, Nat.zero_add]
      have : acc * (10 ^ r.length * 10) = acc * 10 * 10 ^ r.length := by rw [Nat.mul_comm (10 ^ r.length) 10, Nat.mul_assoc]
      omega
    rw [e] at hb ⊢
    have hp : 0 < 10 ^ r.length := Nat.pow_pos (by omega)
    have hle : acc * 10 + (c.toNat - 48) ≤ (acc * 10 + (c.toNat - 48)) * 10 ^ r.length := Nat.le_mul_of_pos_right _ hp
    have h10 : (10 : Nat) ^ 18 = 1000000000000000000 := by decide
    unfold Lib.parseUintM
    rw [if_pos hc, if_neg (by omega), if_neg (by omega)]
    exact parseM_ok M hM r _ (fun x hx => hd x (by simp [hx])) hb
theorem parse_ok {l : List UInt8} (hd : ∀ c ∈ l, 48 ≤ c.toNat ∧ c.toNat ≤ 57) (h0 : l ≠ []) (hl : l.length ≤ 18) : Lib.parseUintB 64 l = .ok (dgV l) := by
  unfold Lib.parseUintB
  rw [if_neg h0, parseM_ok _ (by decide) l 0 hd (by
    have := dgV_lt hd
    have h2 : (10 : Nat) ^ l.length ≤ 10 ^ 18 := Nat.pow_le_pow_right (by omega) hl
    omega)]
  simp
theorem ten_W64 (k : Nat) : 10 ^ k ≤ W64 ^ k := Nat.pow_le_pow_left (by unfold W64; omega) _
/-- k digits are read -/
def PrsR (w wr : World) (L : List UInt8) (k : Nat) (v : Value) : Prop := ∃ A c l, v = .slice A l.length c ∧ NatR wr A c l (dgV (L.take k)) ∧ Below w.heap.size w wr
/-- the word of a number below 10^18 -/
theorem word_rd (w : World) (x : Nat) : Rd (w.alloc (.cells #[.int .u64 (x : Int)] 103)) 0 (w.alloc (.cells #[.int .u64 (x : Int)] 103)).heap.size 1 (some ⟨w.heap.size, 0, none⟩) [x].length (u64s [x]) := by
  refine ⟨by simp [u64s], fun _ => ⟨w.heap.size, 0, rfl, Nat.zero_le _, by simp, fun j u hj => ?_⟩⟩
  have hj' := (List.getElem?_eq_some_iff.1 hj).1
  simp [u64s] at hj'
  subst hj'
  rw [cellsAt (alloc_at w _ _ rfl)]
  simp [u64s] at hj ⊢
  exact hj

set_option maxHeartbeats 4000000 in
set_option maxRecDepth 100000 in
theorem natParse_any (S : ByteArray) (L : List UInt8) (w : World) (hSL : S.data.toList = L) (hL : L.length ≤ 2000) (hd : ∀ c ∈ L, 48 ≤ c.toNat ∧ c.toNat ≤ 57) :
    Calls Tryz.prog 94 #[.string S] w (NatPost (dgV L) w) := by
  have HD := Lib.hid hd
  have HOF := Lib.hid (fun W => natOf_any 10 W (by omega))
  rw [show (10 : Int).toNat = 10 from rfl] at HOF
  have HSL := Lib.hid hSL
  clear hd hSL
  go_enter Tryz.func94, Tryz.ntmps94
  go_wp2_with fail
  go_loopw [0, 3, 4, 5, 6] (fun s v _ _ _ wr => ∃ (T : ByteArray) (k : Nat), s = .string T ∧ k ≤ L.length ∧ T.data.toList = L.drop k ∧ PrsR w wr L k v) (fun s _ _ _ _ _ => match s with | .string T => T.size | _ => 0)
  case atStart => exact ⟨S, 0, rfl, Nat.zero_le _, by rw [List.drop_zero]; exact HSL.out, none, 0, [], rfl, natr_nil _, Below.refl _ _⟩
  case round =>
    obtain ⟨T, k, rfl, hk, hT, A, c, l, rfl, hn, hb⟩ := hrel
    have hTs : T.size = L.length - k := by
      have := congrArg List.length hT
      rw [List.length_drop] at this
      rw [← this]; exact Array.length_toList.symm
    have hTs1 : T.size ≤ L.length - k := Nat.le_of_eq hTs
    have hTs2 : L.length - k ≤ T.size := Nat.le_of_eq hTs.symm
    have hl : l.length ≤ k := hn.len (Nat.lt_of_lt_of_le (dgV_lt (fun c hc => HD.out c (List.mem_of_mem_take hc))) (by rw [List.length_take]; exact Nat.le_trans (Nat.pow_le_pow_right (by omega) (Nat.min_le_left _ _)) (ten_W64 k)))
    have HT := Lib.hid hT
    have HN := Lib.hid hn
    have HB := Lib.hid hb
    clear hT hn hb hTs
    by_cases hlt : 0 < T.size
    · obtain ⟨n, hn1⟩ : ∃ n, n = min T.size 18 := ⟨_, rfl⟩
      have hn0 : 0 < n := by omega
      have hn2 : n ≤ T.size := by omega
      have hn3 : n ≤ 18 := by omega
      have hmn : min (T.size : Int) 18 = (n : Int) := by omega
      have t1 : decide ((0 : Int) < (T.size : Int)) = true := decide_eq_true (by omega)
      have t2 : decide (0 < T.size) = true := decide_eq_true hlt
      clear hn1
      have hE : (T.extract 0 n).data.toList = (L.drop k).take n := by
        rw [← HT.out, Lib.extract_data]; simp
      have hPd : ∀ c ∈ (L.drop k).take n, 48 ≤ c.toNat ∧ c.toNat ≤ 57 := fun c hc => HD.out c (List.mem_of_mem_drop (List.mem_of_mem_take hc))
      have hPl : ((L.drop k).take n).length = n := by rw [List.length_take, List.length_drop]; omega
      have hES : (T.extract 0 n).size = n := by
        have h1 := congrArg List.length hE
        rw [hPl] at h1
        exact Eq.trans Array.length_toList.symm h1
      have hPO : Lib.parseUintB 64 (T.extract 0 n).data.toList = .ok (dgV ((L.drop k).take n)) := by
        rw [hE]
        exact parse_ok hPd (fun hc => by rw [hc] at hPl; simp at hPl; omega) (by omega)
      have HP := Lib.hid (fun W => Tryz.strconv_ParseUint_10_at64_ok (T.extract 0 n) (by omega) _ hPO W)
      have hxb := dgV_lt hPd
      rw [hPl] at hxb
      have hpw : (10 : Nat) ^ n ≤ 10 ^ 18 := Nat.pow_le_pow_right (by omega) hn3
      obtain ⟨x, hx⟩ : ∃ x, x = dgV ((L.drop k).take n) := ⟨_, rfl⟩
      have HV := Lib.hid (show dgV (L.take (k + n)) = dgV (L.take k) * 10 ^ n + x by
        rw [hx, List.take_add, dgV_app, hPl])
      rw [← hx] at HP hxb
      have hx64 : x < 18446744073709551616 := by omega
      clear hPd hPl hE hx hpw hxb hES hPO
      go_wp2_with fail
      (with_reducible refine (HP.out _).mono ?_)
      rintro e w1 ⟨rfl, hw1⟩
      have HB1 := Lib.hid (show Below wr.heap.size wr w1 by
        rcases hw1 with rfl | rfl
        · exact Below.refl _ _
        · exact Lib.bytesWorld_below _ _ _)
      clear hw1
      go_wp2_with fail
      (with_reducible refine (HOF.out _).mono ?_)
      rintro e w2 ⟨A2, c2, l2, rfl, hn2', hb2⟩
      have HPW := Lib.hid (natPow_any A2 c2 l2 10 n 1 w2 hn2' (by unfold W64; omega) (by omega) (by omega))
      have HB2 := Lib.hid (below_next HB1.out hb2)
      clear hn2' hb2
      go_wp2_with fail
      (with_reducible refine HPW.out.mono ?_)
      rintro e w3 ⟨A3, c3, l3, rfl, hn3', hb3⟩
      have hl3 : l3.length ≤ n := hn3'.len (by have := ten_W64 n; have : (10 : Nat) ^ n < W64 ^ n := Nat.pow_lt_pow_left (by unfold W64; omega) (by omega); exact this)
      have HB3 := Lib.hid (below_next HB2.out hb3)
      have HM := Lib.hid (natMul_any A A3 c c3 l l3 _ _ w3 (HN.out.on HB3.out) hn3' (by omega) (by omega))
      clear hn3' hb3
      go_wp2_with fail
      (with_reducible refine HM.out.mono ?_)
      rintro e w4 ⟨A4, c4, l4, rfl, hn4, hb4⟩
      have hk18 : dgV (L.take k) * 10 ^ n < W64 ^ (k + n) := by
        rw [Nat.pow_add]
        refine Nat.mul_lt_mul'' (Nat.lt_of_lt_of_le (dgV_lt (fun c hc => HD.out c (List.mem_of_mem_take hc))) ?_) (Nat.pow_lt_pow_left (by unfold W64; omega) (by omega))
        rw [List.length_take]; exact Nat.le_trans (Nat.pow_le_pow_right (by omega) (Nat.min_le_left _ _)) (ten_W64 k)
      have hl4 : l4.length ≤ k + n := hn4.len hk18
      have HN4 := Lib.hid hn4
      have HB4 := Lib.hid (below_next HB3.out hb4)
      have hRD := word_rd w4 x
      have HCU := Lib.hid (cut_any (some ⟨w4.heap.size, 0, none⟩) 1 [x] _ hRD (by simp) (by unfold maxLen; omega) (fun h => by cases h))
      have HNC := Lib.hid (natr_cut hRD (fun d hd => by simp at hd; subst hd; unfold W64; omega) (by simp) (show 1 ≤ maxLen by unfold maxLen; omega) (fun h => by cases h))
      have HB5 := Lib.hid (HB4.out.alloc HB4.out.size (.cells #[.int .u64 (x : Int)] 103))
      rw [show val W64 [x] = x by simp [val]] at HNC
      have htl := trim_length [x]
      obtain ⟨l5, hl5⟩ : ∃ l5, l5 = trim [x] := ⟨_, rfl⟩
      rw [← hl5] at HCU HNC htl
      simp only [List.length_cons, List.length_nil, Nat.zero_add] at htl HCU
      clear hn4 hb4 hRD hl5 hk18
      go_wp2_with fail
      (with_reducible refine HCU.out.mono ?_)
      rintro e w5 ⟨rfl, rfl⟩
      have HAD := Lib.hid (natAdd_any A4 (some ⟨w4.heap.size, 0, none⟩) c4 1 l4 l5 _ _ _ (HN4.out.on ((Below.refl _ w4).alloc (Nat.le_refl _) (.cells #[.int .u64 (x : Int)] 103))) HNC.out (by omega) (by omega))
      go_wp2_with fail
      (with_reducible refine HAD.out.mono ?_)
      rintro e w6 ⟨A6, c6, l6, rfl, hn6, hb6⟩
      rw [← HV.out] at hn6
      have HN6 := Lib.hid hn6
      have HB6 := Lib.hid (HB.out.trans ((below_next HB5.out hb6).mono HB.out.size))
      clear hn6 hb6
      go_wp2
      go_roundw
      case rel => exact ⟨_, k + n, rfl, by omega, by rw [Lib.extract_to_end, HT.out, List.drop_drop], A6, c6, l6, rfl, HN6.out, HB6.out⟩
      case measure => simp; omega
    · have hk' : k = L.length := by omega
      have t1 : decide ((0 : Int) < (T.size : Int)) = false := decide_eq_false (by omega)
      have t2 : decide (0 < T.size) = false := decide_eq_false hlt
      have HF := Lib.hid (show NatPost (dgV L) w (.returned (.slice A l.length c)) wr from ⟨A, c, l, rfl, by have := HN.out; rw [hk', List.take_length] at this; exact this, HB.out⟩)
      clear hk'
      go_wp2
      go_ret
      exact HF.out
end Go.Proofs.YtpmnhdgajkickaaGreatDoor
