import Derived.Test.YtlkjgjojahjapaaGreatDoorG17
import Derived.Test.YtlkjgjojahjapaaGreatDoorG4
import Derived.Test.YtlkjgjojahjapaaGreatDoorG0
import Derived.Test.YtlkjgjojahjapaaGreatDoorShelfB
import Derived.Test.YtlkjgjojahjapaaGreatDoorG15
import Derived.WalkSpells
import Derived.WalkLawsBesides
import Derived.Handy
import Derived.Test.YtlkjgjojahjapaaGreatDoorFracPlus
import Derived.Test.YtlkjgjojahjapaaGreatDoorG10
import Derived.Deep.QuietTactic
import Derived.BigQuiet
import Derived.Test.YtlkjgjojahjapaaGreatDoorG9
/- Package nat: Parse: the number with some decimal digits. -/
namespace Go.Proofs.YtlkjgjojahjapaaGreatDoor
open Go Go.RowKit Go.Proofs

theorem parseM_ok (M : Nat) (hM : 10 ^ 18 ≤ M) : ∀ (l : List UInt8) (acc : Nat), (∀ c ∈ l, 48 ≤ c.toNat ∧ c.toNat ≤ 57) → acc * 10 ^ l.length + dgV l < 10 ^ 18 → Lib.parseUintM M acc l = .ok (acc * 10 ^ l.length + dgV l)
  | [], acc, _, _ => by simp [Lib.parseUintM, dgV]
  | c :: r, acc, hd, hb => by
    have hc := hd c (by simp)
    have e : acc * 10 ^ (c :: r).length + dgV (c :: r) = (acc * 10 + (c.toNat - 48)) * 10 ^ r.length + dgV r := by
      have h1 := dgV_from r (10 * 0 + (c.toNat - 48))
      have h2 : dgV (c :: r) = (10 * 0 + (c.toNat - 48)) * 10 ^ r.length + dgV r := by
        unfold dgV at *
        rw [List.foldl_cons]; exact h1
      rw [h2, List.length_cons, Nat.pow_succ, Nat.add_mul, Nat.mul_zero, Nat.add_mul, Nat.zero_mul, Nat.zero_add]
      have : acc * (10 ^ r.length * 10) = acc * 10 * 10 ^ r.length := by rw [Nat.mul_comm (10 ^ r.length) 10, Nat.mul_assoc]
      omega
    rw [e] at hb ⊢
    have hp : 0 < 10 ^ r.length := Nat.pow_pos (by omega)
    have hle : acc * 10 + (c.toNat - 48) ≤ (acc * 10 + (c.toNat - 48)) * 10 ^ r.length := Nat.le_mul_of_pos_right _ hp
    have h10 : (10 : Nat) ^ 18 = 1000000000000000000 := by decide
    unfold Lib.parseUintM
    rw [if_pos hc, if_neg (by omega), if_neg (by omega)]
    exact parseM_ok M hM r _ (fun x hx => hd x (by simp [hx])) hb
theorem parse_ok {l : List UInt8} (hd : ∀ c ∈ l, 48 ≤ c.toNat ∧ c.toNat ≤ 57) (h0 : l ≠ []) (hl : l.length ≤ 18) : Lib.parseUintB 64 l = .ok (dgV l) := by
  unfold Lib.parseUintB
  rw [if_neg h0, parseM_ok _ (by decide) l 0 hd (by
    have := dgV_lt hd
    have h2 : (10 : Nat) ^ l.length ≤ 10 ^ 18 := Nat.pow_le_pow_right (by omega) hl
    omega)]
  simp
theorem ten_W64 (k : Nat) : 10 ^ k ≤ W64 ^ k := Nat.pow_le_pow_left (by unfold W64; omega) _
/-- k digits are read -/
def PrsR (w wr : World) (L : List UInt8) (k : Nat) (v : Value) : Prop := ∃ A c l, v = .slice A l.length c ∧ NatR wr A c l (dgV (L.take k)) ∧ Below w.heap.size w wr
/-- the word of a number below 10^18 -/
theorem word_rd (w : World) (x : Nat) : Rd (w.alloc (.cells #[.int .u64 (x : Int)] 146)) 0 (w.alloc (.cells #[.int .u64 (x : Int)] 146)).heap.size 1 (some ⟨w.heap.size, 0, none⟩) [x].length (u64s [x]) := by
  refine ⟨by simp [u64s], fun _ => ⟨w.heap.size, 0, rfl, Nat.zero_le _, by simp, fun j u hj => ?_⟩⟩
  have hj' := (List.getElem?_eq_some_iff.1 hj).1
  simp [u64s] at hj'
  subst hj'
  rw [cellsAt (alloc_at w _ _ rfl)]
  simp [u64s] at hj ⊢
  exact hj

set_option maxHeartbeats 4000000 in
set_option maxRecDepth 100000 in
theorem natParse_any (S : ByteArray) (L : List UInt8) (w : World) (hSL : S.data.toList = L) (hL : L.length ≤ 2000) (hd : ∀ c ∈ L, 48 ≤ c.toNat ∧ c.toNat ≤ 57) :
    Calls Tryz.prog 141 #[.string S] w (NatPost (dgV L) w) := by
  have HD := Lib.hid hd
  have HOF := Lib.hid (fun W => natOf_any 10 W (by omega))
  rw [show (10 : Int).toNat = 10 from rfl] at HOF
  have HSL := Lib.hid hSL
  clear hd hSL
  go_enter Tryz.func141, Tryz.ntmps141
  go_wp2_with fail
  go_loopw [0, 3, 4, 5, 6] (fun s v _ _ _ wr => ∃ (T : ByteArray) (k : Nat), s = .string T ∧ k ≤ L.length ∧ T.data.toList = L.drop k ∧ PrsR w wr L k v) (fun s _ _ _ _ _ => match s with | .string T => T.size | _ => 0)
  case atStart => exact ⟨S, 0, rfl, Nat.zero_le _, by rw [List.drop_zero]; exact HSL.out, none, 0, [], rfl, natr_nil _, Below.refl _ _⟩
  case round =>
    obtain ⟨T, k, rfl, hk, hT, A, c, l, rfl, hn, hb⟩ := hrel
    have hTs : T.size = L.length - k := by
      have := congrArg List.length hT
      rw [List.length_drop] at this
      rw [← this]; exact Array.length_toList.symm
    have hTs1 : T.size ≤ L.length - k := Nat.le_of_eq hTs
    have hTs2 : L.length - k ≤ T.size := Nat.le_of_eq hTs.symm
    have hl : l.length ≤ k := hn.len (Nat.lt_of_lt_of_le (dgV_lt (fun c hc => HD.out c (List.mem_of_mem_take hc))) (by rw [List.length_take]; exact Nat.le_trans (Nat.pow_le_pow_right (by omega) (Nat.min_le_left _ _)) (ten_W64 k)))
    have HT := Lib.hid hT
    have HN := Lib.hid hn
    have HB := Lib.hid hb
    clear hT hn hb hTs
    by_cases hlt : 0 < T.size
    · obtain ⟨n, hn1⟩ : ∃ n, n = min T.size 18 := ⟨_, rfl⟩
      have hn0 : 0 < n := by omega
      have hn2 : n ≤ T.size := by omega
      have hn3 : n ≤ 18 := by omega
      have hmn : min (T.size : Int) 18 = (n : Int) := by omega
      have t1 : decide ((0 : Int) < (T.size : Int)) = true := decide_eq_true (by omega)
      have t2 : decide (0 < T.size) = true := decide_eq_true hlt
      clear hn1
      have hE : (T.extract 0 n).data.toList = (L.drop k).take n := by
        rw [← HT.out, Lib.extract_data]; simp
      have hPd : ∀ c ∈ (L.drop k).take n, 48 ≤ c.toNat ∧ c.toNat ≤ 57 := fun c hc => HD.out c (List.mem_of_mem_drop (List.mem_of_mem_take hc))
      have hPl : ((L.drop k).take n).length = n := by rw [List.length_take, List.length_drop]; omega
      have hES : (T.extract 0 n).size = n := by
        have h1 := congrArg List.length hE
        rw [hPl] at h1
        exact Eq.trans Array.length_toList.symm h1
      have hPO : Lib.parseUintB 64 (T.extract 0 n).data.toList = .ok (dgV ((L.drop k).take n)) := by
        rw [hE]
        exact parse_ok hPd (fun hc => by rw [hc] at hPl; simp at hPl; omega) (by omega)
      have HP := Lib.hid (fun W => Tryz.strconv_ParseUint_10_at64_ok (T.extract 0 n) (by omega) _ hPO W)
      have hxb := dgV_lt hPd
      rw [hPl] at hxb
      have hpw : (10 : Nat) ^ n ≤ 10 ^ 18 := Nat.pow_le_pow_right (by omega) hn3
      obtain ⟨x, hx⟩ : ∃ x, x = dgV ((L.drop k).take n) := ⟨_, rfl⟩
      have HV := Lib.hid (show dgV (L.take (k + n)) = dgV (L.take k) * 10 ^ n + x by
        rw [hx, List.take_add, dgV_app, hPl])
      rw [← hx] at HP hxb
      have hx64 : x < 18446744073709551616 := by omega
      clear hPd hPl hE hx hpw hxb hES hPO
      go_wp2_with fail
      (with_reducible refine (HP.out _).mono ?_)
      rintro e w1 ⟨rfl, hw1⟩
      have HB1 := Lib.hid (show Below wr.heap.size wr w1 by
        rcases hw1 with rfl | rfl
        · exact Below.refl _ _
        · exact Lib.bytesWorld_below _ _ _)
      clear hw1
      go_wp2_with fail
      (with_reducible refine (HOF.out _).mono ?_)
      rintro e w2 ⟨A2, c2, l2, rfl, hn2', hb2⟩
      have HPW := Lib.hid (natPow_any A2 c2 l2 10 n 1 w2 hn2' (by unfold W64; omega) (by omega) (by omega))
      have HB2 := Lib.hid (below_next HB1.out hb2)
      clear hn2' hb2
      go_wp2_with fail
      (with_reducible refine HPW.out.mono ?_)
      rintro e w3 ⟨A3, c3, l3, rfl, hn3', hb3⟩
      have hl3 : l3.length ≤ n := hn3'.len (by have := ten_W64 n; have : (10 : Nat) ^ n < W64 ^ n := Nat.pow_lt_pow_left (by unfold W64; omega) (by omega); exact this)
      have HB3 := Lib.hid (below_next HB2.out hb3)
      have HM := Lib.hid (natMul_any A A3 c c3 l l3 _ _ w3 (HN.out.on HB3.out) hn3' (by omega) (by omega))
      clear hn3' hb3
      go_wp2_with fail
      (with_reducible refine HM.out.mono ?_)
      rintro e w4 ⟨A4, c4, l4, rfl, hn4, hb4⟩
      have hk18 : dgV (L.take k) * 10 ^ n < W64 ^ (k + n) := by
        rw [Nat.pow_add]
        refine Nat.mul_lt_mul'' (Nat.lt_of_lt_of_le (dgV_lt (fun c hc => HD.out c (List.mem_of_mem_take hc))) ?_) (Nat.pow_lt_pow_left (by unfold W64; omega) (by omega))
        rw [List.length_take]; exact Nat.le_trans (Nat.pow_le_pow_right (by omega) (Nat.min_le_left _ _)) (ten_W64 k)
      have hl4 : l4.length ≤ k + n := hn4.len hk18
      have HN4 := Lib.hid hn4
      have HB4 := Lib.hid (below_next HB3.out hb4)
      have hRD := word_rd w4 x
      have HCU := Lib.hid (cut_any (some ⟨w4.heap.size, 0, none⟩) 1 [x] _ hRD (by simp) (by unfold maxLen; omega) (fun h => by cases h))
      have HNC := Lib.hid (natr_cut hRD (fun d hd => by simp at hd; subst hd; unfold W64; omega) (by simp) (show 1 ≤ maxLen by unfold maxLen; omega) (fun h => by cases h))
      have HB5 := Lib.hid (HB4.out.alloc HB4.out.size (.cells #[.int .u64 (x : Int)] 146))
      rw [show val W64 [x] = x by simp [val]] at HNC
      have htl := trim_length [x]
      obtain ⟨l5, hl5⟩ : ∃ l5, l5 = trim [x] := ⟨_, rfl⟩
      rw [← hl5] at HCU HNC htl
      simp only [List.length_cons, List.length_nil, Nat.zero_add] at htl HCU
      clear hn4 hb4 hRD hl5 hk18
      go_wp2_with fail
      (with_reducible refine HCU.out.mono ?_)
      rintro e w5 ⟨rfl, rfl⟩
      have HAD := Lib.hid (natAdd_any A4 (some ⟨w4.heap.size, 0, none⟩) c4 1 l4 l5 _ _ _ (HN4.out.on ((Below.refl _ w4).alloc (Nat.le_refl _) (.cells #[.int .u64 (x : Int)] 146))) HNC.out (by omega) (by omega))
      go_wp2_with fail
      (with_reducible refine HAD.out.mono ?_)
      rintro e w6 ⟨A6, c6, l6, rfl, hn6, hb6⟩
      rw [← HV.out] at hn6
      have HN6 := Lib.hid hn6
      have HB6 := Lib.hid (HB.out.trans ((below_next HB5.out hb6).mono HB.out.size))
      clear hn6 hb6
      go_wp2
      go_roundw
      case rel => exact ⟨_, k + n, rfl, by omega, by rw [Lib.extract_to_end, HT.out, List.drop_drop], A6, c6, l6, rfl, HN6.out, HB6.out⟩
      case measure => simp; omega
    · have hk' : k = L.length := by omega
      have t1 : decide ((0 : Int) < (T.size : Int)) = false := decide_eq_false (by omega)
      have t2 : decide (0 < T.size) = false := decide_eq_false hlt
      have HF := Lib.hid (show NatPost (dgV L) w (.returned (.slice A l.length c)) wr from ⟨A, c, l, rfl, by have := HN.out; rw [hk', List.take_length] at this; exact this, HB.out⟩)
      clear hk'
      go_wp2
      go_ret
      exact HF.out
end Go.Proofs.YtlkjgjojahjapaaGreatDoor

/- How large the parts of fractions can be: plain. -/
namespace Go.Proofs.YtlkjgjojahjapaaGreatDoor

theorem sz_mono {n m : Nat} {a : Rat} (h : Sz n a) (hnm : n ≤ m) : Sz m a := by
  have : T4 ^ n ≤ T4 ^ m := Nat.pow_le_pow_right (by unfold T4; omega) hnm
  exact ⟨Nat.lt_of_lt_of_le h.1 this, Nat.lt_of_lt_of_le h.2 this⟩
theorem sz_int {n : Nat} {z : Int} (hn : 1 ≤ n) (h1 : z.natAbs < T4 ^ n) : Sz n (z : Rat) := by
  refine ⟨h1, ?_⟩
  have : T4 ^ 1 ≤ T4 ^ n := Nat.pow_le_pow_right (by unfold T4; omega) hn
  rw [Nat.pow_one] at this
  show 1 < _
  unfold T4 at *; omega
end Go.Proofs.YtlkjgjojahjapaaGreatDoor

/- ref0.Digits: the number with these digits. -/
namespace Go.Proofs.YtlkjgjojahjapaaGreatDoor
open Go Go.RowKit Go.Proofs

/-- j chunks of four digits are read -/
def DgR (w wr : World) (L : List UInt8) (j : Nat) (v : Value) : Prop :=
  ∃ o, o.length = j ∧ (∀ d ∈ o, d < T4) ∧ val T4 o = dgV (L.drop (L.length - 4 * j)) ∧ wr.ownsRow w.heap.size 3 1 v o.length (d4s o) ∧ Below w.heap.size w wr
theorem T4_10 (j : Nat) : T4 ^ j = 10 ^ (4 * j) := by rw [Nat.pow_mul]; unfold T4; rfl
theorem dg_step {L : List UInt8} (hd : ∀ c ∈ L, 48 ≤ c.toNat ∧ c.toNat ≤ 57) {j : Nat} (hj : 4 * j < L.length) {o : List Nat} (h1 : o.length = j) (h3 : val T4 o = dgV (L.drop (L.length - 4 * j))) {n : Nat}
    (hn : n = dgV ((L.drop (L.length - 4 * (j + 1))).take (L.length - 4 * j - (L.length - 4 * (j + 1))))) : n < T4 ∧ val T4 (o ++ [n]) = dgV (L.drop (L.length - 4 * (j + 1))) := by
  constructor
  · have h := dgV_piece hd (L.length - 4 * (j + 1)) (L.length - 4 * j - (L.length - 4 * (j + 1)))
    rw [← hn] at h
    refine Nat.lt_of_lt_of_le h ?_
    have : (10 : Nat) ^ (L.length - 4 * j - (L.length - 4 * (j + 1))) ≤ 10 ^ 4 := Nat.pow_le_pow_right (by omega) (by omega)
    unfold T4; omega
  · rw [dgV_chunk (s := L.length - 4 * (j + 1)) (e := L.length - 4 * j) (by omega) (by omega), ← hn, val_snoc, h1, h3, T4_10, show L.length - (L.length - 4 * j) = 4 * j by omega, Nat.mul_comm n]
    exact Nat.add_comm _ _

set_option maxHeartbeats 4000000 in
set_option maxRecDepth 100000 in
theorem rDigits_s (S : ByteArray) (L : List UInt8) (w : World) (hSL : S.data.toList = L) (hL : S.size ≤ 1000000) (hd : ∀ c ∈ L, 48 ≤ c.toNat ∧ c.toNat ≤ 57) :
    Calls Tryz.prog 36 #[.string S] w (RNatPost (dgV L) w) := by
  obtain ⟨i0, hi0, hz0, hz1, hz2⟩ := info_parts Tryz.infoI4
  have hsz1 : L.length ≤ S.size := Nat.le_of_eq (by subst hSL; exact Array.length_toList)
  have hsz2 : S.size ≤ L.length := Nat.le_of_eq (by subst hSL; exact Array.length_toList.symm)
  have HB := Lib.hid (show ∀ (i : Nat) (h : i < S.size), ∃ h' : i < L.length, L[i] = S[i] from fun i h => by subst hSL; exact ⟨by omega, rfl⟩)
  clear hSL
  have HD := Lib.hid hd
  clear hd
  go_enter Tryz.func36, Tryz.ntmps36
  go_wp2
  go_loopw [3, 4] (fun v ev wr => ∃ (j : Nat) (z : Int), 4 * j ≤ L.length + 3 ∧ ev = .int .i64 z ∧ z ≤ (L.length : Int) - 4 * j ∧ (L.length : Int) - 4 * j ≤ z ∧ DgR w wr L j v) (fun _ ev _ => (intOf ev).toNat)
  case atStart => exact ⟨0, S.size, by omega, rfl, by omega, by omega, [], rfl, fun _ h => by simp at h, by simp [val, dgV], ⟨by simp [d4s], .inl ⟨rfl, rfl⟩⟩, Below.refl _ _⟩
  case round =>
    obtain ⟨j, z, hj, rfl, hz1', hz2', o, ho1, ho2, ho3, hown, hbw⟩ := hrel
    have HOW := Lib.hid hown
    have HBW := Lib.hid hbw
    have hsz' := hbw.size
    have H1 := Lib.hid ho1
    have H2 := Lib.hid ho2
    have H3 := Lib.hid ho3
    have ho1' : o.length ≤ j := by omega
    have ho1'' : j ≤ o.length := by omega
    clear hown hbw ho1 ho2 ho3
    by_cases hlt : 4 * j < L.length
    · obtain ⟨E, rfl⟩ : ∃ E : Nat, z = E := ⟨z.toNat, by omega⟩
      have hEL : E ≤ L.length - 4 * j := by omega
      have hEL' : L.length - 4 * j ≤ E := by omega
      obtain ⟨s, hs⟩ : ∃ s : Nat, s = L.length - 4 * (j + 1) := ⟨_, rfl⟩
      have hs1 : s ≤ L.length - 4 * (j + 1) := by omega
      have hs2 : L.length - 4 * (j + 1) ≤ s := by omega
      have HS := Lib.hid hs
      clear hs
      have t1 : decide ((0 : Int) < (E : Int)) = true := by simp; omega
      have t2 : decide (0 < E) = true := by simp; omega
      have hmx : max (0 : Int) ((E : Int) - 4) = (s : Int) := by omega
      go_wp2_with fail
      go_loop [5, 6] (fun nv iv => ∃ i : Nat, s ≤ i ∧ i ≤ E ∧ iv = .int .i64 (i : Int) ∧ nv = .int .i64 ((dgV ((L.drop s).take (i - s)) : Nat) : Int)) (fun _ iv => E - (intOf iv).toNat)
      case atStart => exact ⟨s, Nat.le_refl _, by omega, rfl, by rw [Nat.sub_self, List.take_zero]; rfl⟩
      case round =>
        obtain ⟨i, hi1, hi2, rfl, rfl⟩ := hrel
        by_cases hiE : i < E
        · have hiL : i < L.length := by omega
          have hiS : i < S.size := by omega
          obtain ⟨_, hbe⟩ := HB.out i hiS
          have hb := HD.out L[i] (List.getElem_mem hiL)
          rw [hbe] at hb
          have hb1 : (48 : Int) ≤ (S[i].toNat : Int) := by omega
          have hb2 : (S[i].toNat : Int) ≤ 57 := by omega
          have hp := dgV_piece (fun c hc => HD.out c hc) s (i - s)
          have hp4 : (10 : Nat) ^ (i - s) ≤ 10 ^ 4 := Nat.pow_le_pow_right (by omega) (by omega)
          have HN := Lib.hid (dgV_next (L := L) hi1 hiL)
          rw [hbe] at HN
          obtain ⟨n, hn⟩ : ∃ n, n = dgV ((L.drop s).take (i - s)) := ⟨_, rfl⟩
          rw [← hn] at hp HN ⊢
          have hn4 : n ≤ 9999 := by omega
          clear hp hp4 hn hb hbe
          go_wp2
          go_round
          case rel => exact ⟨i + 1, by omega, by omega, by go_num, by rw [HN.out]; go_num⟩
          case measure => simp [intOf]; omega
        · obtain rfl : i = E := by omega
          obtain ⟨n, hn⟩ : ∃ n, n = dgV ((L.drop s).take (i - s)) := ⟨_, rfl⟩
          have hst := dg_step (fun c hc => HD.out c hc) hlt H1.out H3.out (n := n) (by rw [← HS.out, show L.length - 4 * j = i by omega]; exact hn)
          rw [← hn]
          have HST := Lib.hid hst
          clear hst hn
          go_wp2_with (at_builtin; refine wpList_append_own _ rfl (.tmp 29) (.tmp 31) 31 rfl w.heap.size 3 i0 _ 1 8 Tryz.underlying31 hi0 hz0 hz1 hz2 rfl (by decide) _ _ _ rfl (HOW.out.alloc _) ⟨wr.heap.size, 0, none⟩ 1 1 [.int .i64 (n : Int)] rfl rfl (cell_one_new _ _ _) (by simp [Value.oneCell']) ?c3 ?c4 ?c5 ?_)
          case c3 => unfold maxLen; omega
          case c4 => omega
          case c5 => first | omega | exact hsz' | (simp; omega)
          intro v' w2 hown' hgrow _
          have hnew : DgR w w2 L (j + 1) v' := by
            refine ⟨o ++ [n], by rw [List.length_append, H1.out]; rfl, ?_, HST.out.2, ?_, ?_⟩
            · intro d hd
              rcases List.mem_append.1 hd with h | h
              · exact H2.out d h
              · obtain rfl := List.mem_singleton.1 h
                exact HST.out.1
            · simpa [d4s] using hown'
            · exact (HBW.out.alloc hsz' _).grown hgrow (by simp; omega) (fun j hj => (ownsRow_block HOW.out hj.symm).1)
          have HNW := Lib.hid hnew
          clear hown' hgrow hnew
          go_wp2
          go_roundw
          case rel => exact ⟨j + 1, (i : Int) - 4, by omega, by first | rfl | go_num, by omega, by omega, HNW.out⟩
          case measure => simp [intOf]; omega
    · obtain ⟨A', cap', rfl, hnc, hcm, hA'⟩ := ownsRow_shape HOW.out
      have HV := Lib.hid (show val T4 o = dgV L by rw [H3.out, show L.length - 4 * j = 0 by omega]; rfl)
      have hrd := (Rd.of_own HOW.out).more (Nat.zero_le _) (Nat.le_refl _)
      have HT := Lib.hid (trimmed_any A' cap' o wr hrd hnc hcm hA')
      have HR := Lib.hid (rnatr_trim hrd H2.out (by unfold maxLen at *; omega) (fun h => (hA' h).1))
      clear hrd hA'
      have t1 : decide ((0 : Int) < z) = false := by simp; omega
      go_wp2_with fail
      (with_reducible refine HT.out.mono ?_)
      rintro e w' ⟨rfl, rfl⟩
      go_wp2
      go_ret
      exact ⟨A', (trim o).length, trim o, rfl, by rw [← HV.out]; exact HR.out, HBW.out⟩
end Go.Proofs.YtlkjgjojahjapaaGreatDoor

/- ref0.FromRatio. Printed by gen_fromr.py. -/
namespace Go.Proofs.YtlkjgjojahjapaaGreatDoor
open Go Go.RowKit Go.Proofs

theorem dgt_len {w : World} {A : Option Addr} {c : Nat} {l : List Nat} {L : List UInt8} (h : RNatR w A c l (dgV L)) (hd : ∀ c ∈ L, 48 ≤ c.toNat ∧ c.toNat ≤ 57) : l.length ≤ L.length := by
  refine h.len ?_
  have h1 := dgV_lt hd
  have h2 : (10 : Nat) ^ L.length ≤ T4 ^ L.length := Nat.pow_le_pow_left (by unfold T4; omega) _
  omega
set_option maxHeartbeats 4000000 in
set_option maxRecDepth 100000 in
theorem rFromRat_s (Sa Sb : ByteArray) (a b : List UInt8) (w : World) (hSa : Sa.data.toList = a) (hSb : Sb.data.toList = b) (ha : a.length ≤ 100000) (hb : b.length ≤ 100000) (hpa : 0 < a.length) (hda : ∀ c ∈ a, 48 ≤ c.toNat ∧ c.toNat ≤ 57) (hdb : ∀ c ∈ b, 48 ≤ c.toNat ∧ c.toNat ≤ 57) (hy : 0 < dgV b) :
    Calls Tryz.prog 10 #[.agg #[.string Sa, .string Sb]] w (FracPost (mkRat (dgV a : Nat) (dgV b)) w) := by
  obtain ⟨W0, hW0⟩ : ∃ W0, W0 = (w.alloc (.cells #[.string Sa, .string Sb] 23)).alloc (.cells #[.bool false, .slice none 0 0, .slice none 0 0] 33) := ⟨_, rfl⟩
  have HST0 := Lib.hid (show St w W0 [(w.heap.size, .cells #[.string Sa, .string Sb] 23 (0, 0)), (w.heap.size + 1, .cells #[.bool false, .slice none 0 0, .slice none 0 0] 33 (0, 0))] by rw [hW0]; exact ((St.start w).alloc _ _ rfl).alloc _ _ (by simp))
  have hs0 : W0.heap.size = w.heap.size + 2 := by rw [hW0]; simp
  have HX0 := Lib.hid (show FBox W0 (w.heap.size + 1) from HST0.out.at 1 rfl)
  have hza : Sa.size = a.length := by subst hSa; exact Array.length_toList.symm
  have hzb : Sb.size = b.length := by subst hSb; exact Array.length_toList.symm
  have HD1 := Lib.hid (fun W => rDigits_s Sa a W hSa (by omega) hda)
  have HD2 := Lib.hid (fun W => rDigits_s Sb b W hSb (by omega) hdb)
  have HL := Lib.hid (fun W A5 c5 l5 A6 c6 l6 (h5 : RNatR W A5 c5 l5 (dgV a)) (h6 : RNatR W A6 c6 l6 (dgV b)) => rLowest_any false A5 A6 c5 c6 l5 l6 _ _ W h5 h6 (by have := dgt_len h5 hda; omega) (by have := dgt_len h6 hdb; omega) hy)
  rw [show sg false (dgV a) = ((dgV a : Nat) : Int) from rfl] at HL
  obtain ⟨q, hq⟩ : ∃ q, q = mkRat (dgV a : Nat) (dgV b) := ⟨_, rfl⟩
  rw [← hq] at HL ⊢
  have hp0 : 0 < Sa.size := by omega
  have hc : 48 ≤ Sa[0].toNat := (hda Sa[0] (by subst hSa; exact List.getElem_mem (l := Sa.data.toList) (n := 0) (by simpa using hp0))).1
  have t1 : ((Sa[0].toNat : Int) == 45) = false := by rw [beq_eq_false_iff_ne]; omega
  have t2 : (Sa[0].toNat == 45) = false := by rw [beq_eq_false_iff_ne]; omega
  have t3 : decide ((0 : Int) < (Sa.size : Int)) = true := decide_eq_true (by omega)
  have t4 : decide (0 < Sa.size) = true := decide_eq_true hp0
  have g0 : W0.cell? ⟨w.heap.size, 0, none⟩ = some (.string Sa) := HST0.out.cell 0 0 rfl rfl
  have g1 : W0.cell? ⟨w.heap.size, 1, none⟩ = some (.string Sb) := HST0.out.cell 0 1 rfl rfl
  clear hda hdb hy hq hc hza hzb hSa hSb hpa
  go_enter Tryz.func10, Tryz.ntmps10
  go_wp2_with fail
  rw [← hW0]
  clear hW0
  go_wp2_with fail
  clear g0 g1
  have HKS := Lib.hid (show ∀ X, Below W0.heap.size W0 X → (fun X => Below W0.heap.size W0 X ∧ X.cell? ⟨w.heap.size, 1, none⟩ = some (.string Sb)) X from fun X hX => ⟨hX, (HST0.out.call hX).cell 0 1 rfl rfl⟩)
  refine wp_region_last (init := #[_, _, _, _, _, _, _]) (last := _) rfl (by kernel_rfl) (by kernel_rfl) (by kernel_rfl) ?_
  show wpAny _ _ _ _ 7 (Array.replicate 7 false) _ _
  refine wpAny_of_held (S := (fun X => Below W0.heap.size W0 X ∧ X.cell? ⟨w.heap.size, 1, none⟩ = some (.string Sb))) _ _ _ _ ?_
  have HS0 := HKS.out _ (Below.refl _ W0).drew
  refine wpAnyH_take (i := 0) (v := ?_) rfl (by kernel_rfl) (by kernel_rfl) (by kernel_rfl) (fun _ _ _ h => h) (Or.inl ⟨by rfl, ?_⟩) HS0 ?_
  rotate_left
  · intro W hW; (try dsimp only at hW); go_simp; try (with_reducible rfl)
  (try simp only [List.getElem_toArray, List.getElem_cons_succ, List.getElem_cons_zero, Act.put, List.setIfInBounds_toArray, List.set_cons_zero, List.set_cons_succ])
  refine wpAnyH_take (i := 1) (v := ?_) rfl (by kernel_rfl) (by kernel_rfl) (by kernel_rfl) (fun _ _ _ h => h) (Or.inl ⟨by rfl, ?_⟩) HS0 ?_
  rotate_left
  · intro W hW; (try dsimp only at hW); go_simp; try (with_reducible rfl)
  (try simp only [List.getElem_toArray, List.getElem_cons_succ, List.getElem_cons_zero, Act.put, List.setIfInBounds_toArray, List.set_cons_zero, List.set_cons_succ])
  refine wpAnyH_take (i := 3) (v := ?_) rfl (by kernel_rfl) (by kernel_rfl) (by kernel_rfl) (fun _ _ _ h => h) (Or.inl ⟨by rfl, ?_⟩) HS0 ?_
  rotate_left
  · intro W hW; (try dsimp only at hW); go_simp; try (with_reducible rfl)
  (try simp only [List.getElem_toArray, List.getElem_cons_succ, List.getElem_cons_zero, Act.put, List.setIfInBounds_toArray, List.set_cons_zero, List.set_cons_succ])
  refine wpAnyH_take (i := 4) (v := ?_) rfl (by kernel_rfl) (by kernel_rfl) (by kernel_rfl) (fun _ _ _ h => h) (Or.inl ⟨by rfl, ?_⟩) HS0 ?_
  rotate_left
  · intro W hW; (try dsimp only at hW); go_simp; try (with_reducible rfl)
  (try simp only [List.getElem_toArray, List.getElem_cons_succ, List.getElem_cons_zero, Act.put, List.setIfInBounds_toArray, List.set_cons_zero, List.set_cons_succ])
  refine run_one (i := 2) (by kernel_rfl) rfl rfl ?_
  intro K hK
  go_simp
  refine (HD1.out _).mono ?_
  rintro e w5 ⟨A5, c5, l5, rfl, hn5, hb5⟩
  refine hK.out _ _ (HKS.out _ (below_next HS0.1 hb5)) ?_
  clear hK K
  have HSP := HS0
  clear HS0
  intro HS0
  refine run_one (i := 5) (by kernel_rfl) rfl rfl ?_
  intro K hK
  go_simp
  refine (HD2.out _).mono ?_
  rintro e w6 ⟨A6, c6, l6, rfl, hn6, hb6⟩
  refine hK.out _ _ (HKS.out _ (below_next HS0.1 hb6)) ?_
  clear hK K
  have HSP := HS0
  clear HS0
  intro HS0
  refine run_one (i := 6) (by kernel_rfl) rfl rfl ?_
  intro K hK
  go_simp
  refine (HL.out _ A5 c5 l5 A6 c6 l6 (hn5.on hb6) hn6).mono ?_
  rintro e w7 ⟨v7, rfl, hv7, hb7⟩
  refine hK.out _ _ (HKS.out _ (below_next HS0.1 hb7)) ?_
  clear hK K
  have HSP := HS0
  clear HS0
  intro HS0
  refine wpAnyH_done (by kernel_rfl) ?_ _
  simp only [LastQ]
  have HF := Lib.hid (fun W (hf : Fr (fun i => i = w.heap.size + 1) w7 W) => frac_ret2 (HX0.out.on HS0.1) hv7 (below_next HST0.out.below HS0.1) (by omega) hf)
  obtain ⟨k0, k1, k2, z0, z1, z2, hlt⟩ := (HX0.out.on HS0.1).facts
  obtain ⟨A8, c8, l8, A9, c9, l9, rfl, _, _⟩ := hv7
  clear HS0 hb5 hb6 hb7 hn5 hn6
  go_simp
  go_wp2
  refine bodyPost_ret (v := .agg #[.bool (frS q), .slice A8 l8.length c8, .slice A9 l9.length c9]) (by simp [results, Tryz.results10, go_sem, k0, k1, k2]) rfl ⟨_, rfl, HF.out _ (fr3 _ _ _)⟩
end Go.Proofs.YtlkjgjojahjapaaGreatDoor
