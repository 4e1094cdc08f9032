import Derived.Test.YtnpfdelklolchaaGreatDoorG2
import Derived.Test.YtnpfdelklolchaaGreatDoorShelf
import Derived.Shelf.Strings.SlTrimAscii
import Derived.Test.YtnpfdelklolchaaGreatDoorG0
/- Package judge: digitsForm. -/
namespace Go.Proofs.YtnpfdelklolchaaGreatDoor
open Go Go.RowKit Go.Proofs

theorem trim_any (S : ByteArray) (w : World) (hs : S.size ≤ 9223372036854775807) :
    Calls Tryz.prog 135 #[.string S, .string ⟨#[48, 49, 50, 51, 52, 53, 54, 55, 56, 57]⟩] w fun e w' => e = .returned (.string ⟨(Lib.trimS S.data.toList tenD).toArray⟩) ∧ Below w.heap.size w w' :=
  Any.strings_Trim_laid Tryz.layTrim (by kernel_rfl) S ⟨#[48, 49, 50, 51, 52, 53, 54, 55, 56, 57]⟩ w hs (by decide) (ascii_of_all (by decide))
set_option maxHeartbeats 2000000 in
set_option maxRecDepth 100000 in
theorem jDigitsForm_any (S : ByteArray) (L : List UInt8) (w : World) (hS : S.data.toList = L) (hL : S.size ≤ 9223372036854775806) :
    Calls Tryz.prog 120 #[.string S] w fun e w' => e = .returned (.bool (dgB L)) ∧ Below w.heap.size w w' := by
  have HT := Lib.hid (trim_any S w (by omega))
  rw [hS] at HT
  obtain ⟨T, hT⟩ : ∃ T : ByteArray, T = ⟨(Lib.trimS L tenD).toArray⟩ := ⟨_, rfl⟩
  rw [← hT] at HT
  have hTe : T.toList.isEmpty = L.all (fun c => decide (48 ≤ c.toNat) && decide (c.toNat ≤ 57)) := by
    rw [hT, ByteArray.toList_eq, ← trim_digits]
  have hz := ba_size hS
  cases L with
  | nil =>
    have e0 : S.toList.isEmpty = true := by rw [ByteArray.toList_eq, hS]; rfl
    clear hS hT hTe
    go_enter Tryz.func120, Tryz.ntmps120
    go_wp2
    go_ret
    exact ⟨by rfl, Below.refl _ _⟩
  | cons c r =>
    have hp0 : 0 < S.size := by simp at hz; omega
    have hc := ba_first hS hp0
    have e0 : S.toList.isEmpty = false := by rw [ByteArray.toList_eq, hS]; rfl
    obtain ⟨ab, hab⟩ : ∃ ab, ab = (c :: r).all (fun c => decide (48 ≤ c.toNat) && decide (c.toNat ≤ 57)) := ⟨_, rfl⟩
    rw [← hab] at hTe
    have HV := Lib.hid (show dgB (c :: r) = (ab && ((c :: r).head? != some 48 || (c :: r) == [48])) by rw [hab]; unfold dgB; simp only [List.isEmpty_cons, Bool.not_false, Bool.true_and])
    cases ab with
    | false =>
      rw [Bool.false_and] at HV
      clear hS hT hab hc
      go_enter Tryz.func120, Tryz.ntmps120
      go_wp2_with fail
      (with_reducible refine HT.out.mono ?_)
      rintro e w1 ⟨rfl, hb1⟩
      go_wp2
      go_ret
      exact ⟨by rw [HV.out]; rfl, hb1⟩
    | true =>
      rw [Bool.true_and] at HV
      by_cases h48 : c = 48
      · subst h48
        obtain ⟨zb, hzb⟩ : ∃ zb, zb = (S.toList == [48]) := ⟨_, rfl⟩
        have hv : (((48 : UInt8) :: r).head? != some 48 || ((48 : UInt8) :: r) == [48]) = zb := by
          rw [hzb, ByteArray.toList_eq, hS]; rfl
        rw [hv] at HV
        have e1 := hzb.symm
        clear hS hT hab hzb hv
        go_enter Tryz.func120, Tryz.ntmps120
        go_wp2_with fail
        (with_reducible refine HT.out.mono ?_)
        rintro e w1 ⟨rfl, hb1⟩
        go_wp2
        go_ret
        exact ⟨by rw [HV.out]; rfl, hb1⟩
      · have hne : c.toNat ≠ 48 := fun h => h48 (UInt8.toNat_inj.1 h)
        have hv : ((c :: r).head? != some 48 || (c :: r) == [48]) = true := by simp [h48]
        rw [hv] at HV
        have t1 : ((c.toNat : Int) != 48) = true := by rw [bne_iff_ne]; omega
        have t2 : (c.toNat != 48) = true := by rw [bne_iff_ne]; omega
        have t3 : ((c.toNat : Int) == 48) = false := by rw [beq_eq_false_iff_ne]; omega
        have t4 : (c.toNat == 48) = false := by rw [beq_eq_false_iff_ne]; omega
        clear hS hT hab hv
        go_enter Tryz.func120, Tryz.ntmps120
        go_wp2_with fail
        (with_reducible refine HT.out.mono ?_)
        rintro e w1 ⟨rfl, hb1⟩
        go_wp2
        go_ret
        exact ⟨by rw [HV.out]; rfl, hb1⟩
end Go.Proofs.YtnpfdelklolchaaGreatDoor

/- Division digit by digit: plain. -/
namespace Go.Proofs.YtnpfdelklolchaaGreatDoor

theorem kn_le {B y1 y0 u d q r : Nat} (h : q * y1 + r = u) (ht : q * y0 ≤ B * r + d) : q * (y1 * B + y0) ≤ u * B + d := by
  rw [← h, Nat.mul_add, Nat.add_mul, ← Nat.mul_assoc, Nat.mul_comm r B]; omega
theorem kn_gt {B y1 y0 u d q r : Nat} (h : q * y1 + r = u) (ht : B * r + d < q * y0) : u * B + d < q * (y1 * B + y0) := by
  rw [← h, Nat.mul_add, Nat.add_mul, ← Nat.mul_assoc, Nat.mul_comm r B]; omega
theorem kn_first {B y1 y0 u d : Nat} (hy : 0 < y1) (hd : d < B) : (u * B + d) / (y1 * B + y0) ≤ u / y1 := by
  have hB : 0 < B := by omega
  have hyp : 0 < y1 * B + y0 := by have := Nat.mul_pos hy hB; omega
  refine Nat.le_of_lt_succ ((Nat.div_lt_iff_lt_mul hyp).2 ?_)
  have h1 := Nat.lt_mul_div_succ u hy
  have h2 := Nat.mul_le_mul_right B (show u + 1 ≤ y1 * (u / y1 + 1) from h1)
  have h3 : (u / y1).succ * (y1 * B + y0) = y1 * (u / y1 + 1) * B + (u / y1 + 1) * y0 := by
    rw [Nat.mul_add, Nat.mul_comm y1 (u / y1 + 1), Nat.mul_assoc]
  rw [h3]
  rw [Nat.add_mul] at h2
  omega
theorem kn_bound {B y1 y0 u : Nat} (hy : B ≤ 2 * y1) (h0 : y0 < B) (hu : u < y1 * B + y0) : u / y1 ≤ B + 1 := by
  have hy1 : 0 < y1 := by omega
  refine Nat.le_of_lt_succ ((Nat.div_lt_iff_lt_mul hy1).2 ?_)
  have : (B + 1).succ * y1 = y1 * B + 2 * y1 := by rw [Nat.succ_mul, Nat.add_mul, Nat.mul_comm B y1]; omega
  omega
theorem kn_break {B y1 y0 u d q r : Nat} (h : q * y1 + r = u) (hr : B ≤ r) (hq : q ≤ B) (h0 : y0 < B) : q * (y1 * B + y0) ≤ u * B + d := by
  refine kn_le h ?_
  have h1 := Nat.mul_le_mul_right y0 hq
  have h2 := Nat.mul_le_mul_left B (show y0 ≤ r by omega)
  omega
theorem kn_is {N y q : Nat} (hy : 0 < y) (h1 : q * y ≤ N) (h2 : N / y ≤ q) : q = N / y :=
  Nat.le_antisymm ((Nat.le_div_iff_mul_le hy).2 h1) h2
theorem kn_less {N y q : Nat} (hy : 0 < y) (h : N < q * y) : N / y < q := (Nat.div_lt_iff_lt_mul hy).2 h
/-- two digits, one after the other -/
theorem two_digits {u a b B y : Nat} (hy : 0 < y) :
    ((u * B + a) * B + b) / y = (u * B + a) / y * B + ((u * B + a) % y * B + b) / y ∧ ((u * B + a) * B + b) % y = ((u * B + a) % y * B + b) % y := by
  have h1 := Nat.div_add_mod (u * B + a) y
  have e : (u * B + a) * B + b = ((u * B + a) % y * B + b) + (u * B + a) / y * B * y := by
    conv => lhs; rw [← h1]
    rw [Nat.add_mul, Nat.mul_comm y, Nat.mul_assoc, Nat.mul_comm y B, ← Nat.mul_assoc]; omega
  constructor
  · rw [e, Nat.add_mul_div_right _ _ hy]; omega
  · rw [e, Nat.add_mul_mod_self_right]
theorem digit_lt {u a B y : Nat} (hu : u < y) (ha : a < B) : (u * B + a) / y < B := by
  refine (Nat.div_lt_iff_lt_mul (by omega)).2 ?_
  have h1 := Nat.mul_le_mul_right B (show u + 1 ≤ y from hu)
  rw [Nat.add_mul, Nat.mul_comm y B] at h1
  omega
/-- both shifted -/
theorem shifted {N y p : Nat} (hp : 0 < p) : N * p / (y * p) = N / y ∧ N * p % (y * p) = N % y * p :=
  ⟨Nat.mul_div_mul_right _ _ hp, Nat.mul_mod_mul_right _ _ _⟩

theorem drop_two {l : List Nat} {k s t : Nat} (hl : l.length = k + 2) (h1 : l[k]? = some s) (h2 : l[k + 1]? = some t) : l = l.take k ++ [s, t] := by
  conv => lhs; rw [← List.take_append_drop k l]
  congr 1
  have e1 := (List.getElem?_eq_some_iff.1 h1)
  have e2 := (List.getElem?_eq_some_iff.1 h2)
  rw [List.drop_eq_getElem_cons e1.1, List.drop_eq_getElem_cons e2.1, e1.2, e2.2, List.drop_eq_nil_of_le (by omega)]
theorem val_two {B : Nat} {l : List Nat} {k s t : Nat} (hl : l.length = k + 2) (h1 : l[k]? = some s) (h2 : l[k + 1]? = some t) : val B l = val B (l.take k) + B ^ k * (s + B * t) := by
  conv => lhs; rw [drop_two hl h1 h2, val_append]
  have : (l.take k).length = k := by simp; omega
  rw [this]; simp [val]
/-- the first guess of a digit is not too small -/
theorem guess_first {B P X' D' a2 a1 a0 T S : Nat} (hX : X' < P) (ha0 : a0 < B) (hT : 0 < T) :
    (X' + P * (a0 + B * (a1 + B * a2))) / (D' + P * (S + B * T)) ≤ (a2 * B + a1) / T := by
  have e1 : X' + P * (a0 + B * (a1 + B * a2)) = (a2 * B + a1) * (P * B) + (X' + P * a0) := by
    rw [Nat.mul_add, ← Nat.mul_assoc P B, Nat.mul_comm (P * B), Nat.mul_comm B a2, Nat.add_comm a1]; omega
  have e2 : D' + P * (S + B * T) = T * (P * B) + (D' + P * S) := by
    rw [Nat.mul_add, ← Nat.mul_assoc P B, Nat.mul_comm (P * B) T]; omega
  rw [e1, e2]
  refine kn_first hT ?_
  have := Nat.mul_le_mul_left P (show a0 + 1 ≤ B from ha0)
  rw [Nat.mul_add] at this
  omega
/-- a guess that is too great for the upper words is too great -/
theorem guess_less {B P X' D' a2 a1 a0 T S q r : Nat} (hX : X' < P) (h : q * T + r = a2 * B + a1) (ht : r * B + a0 < q * S) :
    X' + P * (a0 + B * (a1 + B * a2)) < q * (D' + P * (S + B * T)) := by
  have h1 : (a2 * B + a1) * B + a0 + 1 ≤ q * (T * B + S) := kn_gt (B := B) h (by rw [Nat.mul_comm B r]; exact ht)
  have h2 := Nat.mul_le_mul_left P h1
  have e1 : P * (a0 + B * (a1 + B * a2)) + P = P * ((a2 * B + a1) * B + a0 + 1) := by
    rw [Nat.mul_add P _ 1, Nat.mul_one, Nat.mul_comm (a2 * B + a1) B, Nat.mul_comm a2 B, Nat.add_comm (B * a2) a1, Nat.add_comm (B * (a1 + B * a2)) a0]
  have e2 : q * (D' + P * (S + B * T)) = q * D' + P * (q * (T * B + S)) := by
    rw [Nat.mul_add, Nat.mul_comm B T, Nat.add_comm S, Nat.mul_left_comm]
  rw [e2]; omega

/-- the number of m digits from place j on -/
def win (B : Nat) (l : List Nat) (j : Nat) : Nat → Nat
  | 0 => 0
  | m + 1 => win B l j m + B ^ m * (l[j + m]?.getD 0)
theorem win_succ {B : Nat} {l : List Nat} {j m d : Nat} (h : l[j + m]? = some d) : win B l j (m + 1) = win B l j m + B ^ m * d := by
  show win B l j m + B ^ m * (l[j + m]?.getD 0) = _
  rw [h]; rfl
theorem win_congr {B : Nat} {l l' : List Nat} {j : Nat} : ∀ {m : Nat}, (∀ i, j ≤ i → i < j + m → l[i]? = l'[i]?) → win B l j m = win B l' j m
  | 0, _ => rfl
  | m + 1, h => by
    show win B l j m + B ^ m * (l[j + m]?.getD 0) = win B l' j m + B ^ m * (l'[j + m]?.getD 0)
    rw [win_congr (m := m) (fun i h1 h2 => h i h1 (by omega)), h (j + m) (by omega) (by omega)]
theorem win_lt {B : Nat} (hB : 0 < B) {l : List Nat} (hl : ∀ d ∈ l, d < B) (j : Nat) : ∀ m, win B l j m < B ^ m
  | 0 => by simp [win]
  | m + 1 => by
    have ih := win_lt hB hl j m
    have hd : l[j + m]?.getD 0 < B := by
      cases h : l[j + m]? with
      | none => simpa using hB
      | some d => exact hl d (List.mem_of_getElem? h)
    have h2 := Nat.mul_le_mul_left (B ^ m) (show l[j + m]?.getD 0 + 1 ≤ B from hd)
    show win B l j m + B ^ m * (l[j + m]?.getD 0) < _
    rw [Nat.pow_succ]
    rw [Nat.mul_add] at h2
    omega
theorem win_val {B : Nat} {l : List Nat} {j : Nat} : ∀ {m : Nat}, j + m ≤ l.length → win B l j m = val B ((l.drop j).take m)
  | 0, _ => by simp [win, val]
  | m + 1, h => by
    have hm : j + m < l.length := by omega
    rw [win_succ (List.getElem?_eq_getElem hm), win_val (m := m) (by omega)]
    have e : (l.drop j)[m]? = some l[j + m] := by rw [List.getElem?_drop]; exact List.getElem?_eq_getElem hm
    rw [List.take_add_one, e]
    simp only [Option.toList_some]
    rw [val_snoc]
    have : ((l.drop j).take m).length = m := by simp; omega
    rw [this]
theorem val_win {B : Nat} {l : List Nat} {j m : Nat} (h : j + m ≤ l.length) : val B l = val B (l.take j) + B ^ j * win B l j m + B ^ (j + m) * val B (l.drop (j + m)) := by
  have h1 : (l.take j).length = j := by simp; omega
  have h2 : ((l.drop j).take m).length = m := by simp; omega
  conv => lhs; rw [← List.take_append_drop j l, val_append, ← List.take_append_drop m (l.drop j), val_append]
  rw [h1, h2, win_val h, List.drop_drop, Nat.mul_add, ← Nat.mul_assoc, ← Nat.pow_add]; omega
theorem val_set0 {B : Nat} : ∀ {l : List Nat} {j q : Nat}, l[j]? = some 0 → val B (l.set j q) = val B l + B ^ j * q
  | [], j, q, h => by simp at h
  | d :: r, 0, q, h => by
    have h : d = 0 := by simpa using h
    simp [val, h]; omega
  | d :: r, j + 1, q, h => by
    have ih := val_set0 (l := r) (j := j) (q := q) (B := B) (by simpa using h)
    simp only [List.set_cons_succ, val, ih, Nat.pow_succ, Nat.mul_add]
    rw [Nat.mul_comm (B ^ j) B, Nat.mul_assoc]; omega
/-- taking away q times D: enough, or too much -/
theorem take_enough {X D w v M : Nat} (hD : 0 < D) (h : v + w * D = X + M * 0) (hw : X / D ≤ w) : w = X / D ∧ v = X % D := by
  have h1 : w ≤ X / D := (Nat.le_div_iff_mul_le hD).2 (by omega)
  have h2 : w = X / D := by omega
  refine ⟨h2, ?_⟩
  have := Nat.div_add_mod X D
  rw [h2, Nat.mul_comm] at h
  omega
theorem take_much {X D w v M : Nat} (h : v + w * D = X + M * 1) (hv : v < M) : X < w * D := by omega
/-- giving back: not yet, or now -/
theorem give_now {X D w v v' M : Nat} (hD : 0 < D) (h : v + (w + 1) * D = X + M) (hX : X < (w + 1) * D) (hg : v' + M * 1 = v + D) : w = X / D ∧ v' = X % D := by
  rw [Nat.add_mul] at h hX
  refine take_enough (M := M) hD (by omega) ?_
  refine Nat.le_of_lt_succ ((Nat.div_lt_iff_lt_mul hD).2 ?_)
  rw [Nat.succ_mul]; omega
theorem give_more {X D w v v' M : Nat} (h : v + (w + 1) * D = X + M) (hg : v' + M * 0 = v + D) (hv : v' < M) : v' + w * D = X + M ∧ X < w * D := by
  rw [Nat.add_mul] at h; omega
/-- one digit of the quotient, the number and the quotient so far -/
theorem div_step {B D n j Q : Nat} {x x' q : List Nat} (hDB : D ≤ B ^ n) (hx : ∀ d ∈ x, d < B) (hl : x'.length = x.length) (hj : j + n + 1 ≤ x.length) (hlt : val B x < D * B ^ (j + 1))
    (hsame : ∀ i, i < j ∨ j + (n + 1) ≤ i → x'[i]? = x[i]?) (hQ : Q = win B x j (n + 1) / D) (hR : win B x' j (n + 1) = win B x j (n + 1) % D) (hq : q[j]? = some 0) (hD : 0 < D) :
    val B x' < D * B ^ j ∧ val B x' + D * val B (q.set j Q) = val B x + D * val B q := by
  have e0 : val B (x.drop (j + (n + 1))) = 0 := by
    have h1 := val_win (B := B) (l := x) (j := j) (m := n + 1) (by omega)
    have h2 : D * B ^ (j + 1) ≤ B ^ (j + (n + 1)) := by
      have := Nat.mul_le_mul_right (B ^ (j + 1)) hDB
      rwa [← Nat.pow_add, show n + (j + 1) = j + (n + 1) by omega] at this
    rcases Nat.eq_zero_or_pos (val B (x.drop (j + (n + 1)))) with h | h
    · exact h
    · have h3 := Nat.mul_le_mul_left (B ^ (j + (n + 1))) h
      rw [Nat.mul_one] at h3
      omega
  have et : x'.take j = x.take j := by
    apply List.ext_getElem?
    intro i
    rw [List.getElem?_take, List.getElem?_take]
    split
    · exact hsame i (.inl (by omega))
    · rfl
  have ed : x'.drop (j + (n + 1)) = x.drop (j + (n + 1)) := by
    apply List.ext_getElem?
    intro i
    rw [List.getElem?_drop, List.getElem?_drop]
    exact hsame _ (.inr (by omega))
  have v1 := val_win (B := B) (l := x) (j := j) (m := n + 1) (by omega)
  have v2 := val_win (B := B) (l := x') (j := j) (m := n + 1) (by omega)
  rw [ed, et, e0] at v2
  rw [e0] at v1
  have ht : val B (x.take j) < B ^ j := by
    have := val_lt (B := B) (l := x.take j) (fun d hd => hx d (List.mem_of_mem_take hd))
    have e : (x.take j).length = j := by simp; omega
    rwa [e] at this
  have hm : win B x' j (n + 1) < D := by rw [hR]; exact Nat.mod_lt _ hD
  constructor
  · have := Nat.mul_le_mul_left (B ^ j) (show win B x' j (n + 1) + 1 ≤ D from hm)
    rw [Nat.mul_add, Nat.mul_comm (B ^ j) D] at this
    omega
  · rw [val_set0 hq, v1, v2, Nat.mul_add, hR]
    have h3 := Nat.div_add_mod (win B x j (n + 1)) D
    have h4 : D * (B ^ j * Q) = B ^ j * (D * (win B x j (n + 1) / D)) := by rw [hQ, Nat.mul_left_comm]
    have h5 : B ^ j * win B x j (n + 1) = B ^ j * (D * (win B x j (n + 1) / D)) + B ^ j * (win B x j (n + 1) % D) := by rw [← Nat.mul_add, h3]
    rw [h4, h5]; omega
end Go.Proofs.YtnpfdelklolchaaGreatDoor
