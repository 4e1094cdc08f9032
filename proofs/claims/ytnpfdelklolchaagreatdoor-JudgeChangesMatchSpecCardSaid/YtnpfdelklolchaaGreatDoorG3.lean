import Derived.Test.YtnpfdelklolchaaGreatDoorG1
import Derived.Test.YtnpfdelklolchaaGreatDoorShelf
import Derived.Shelf.Strings.SlTrimAscii
import Derived.Test.YtnpfdelklolchaaGreatDoorG0
import Derived.Test.YtnpfdelklolchaaGreatDoorRows
import Derived.Test.YtnpfdelklolchaaGreatDoorProg
import Derived.Handy
import Derived.WalkSpells
import Derived.WalkLawsBesides
import Derived.Deep.QuietTactic
import Derived.BigQuiet
/- Package judge: digitsForm. -/
namespace Go.Proofs.YtnpfdelklolchaaGreatDoor
open Go Go.RowKit Go.Proofs

theorem trim_any (S : ByteArray) (w : World) (hs : S.size ≤ 9223372036854775807) :
    Calls Tryz.prog 135 #[.string S, .string ⟨#[48, 49, 50, 51, 52, 53, 54, 55, 56, 57]⟩] w fun e w' => e = .returned (.string ⟨(Lib.trimS S.data.toList tenD).toArray⟩) ∧ Below w.heap.size w w' :=
  Any.strings_Trim_laid Tryz.layTrim (by kernel_rfl) S ⟨#[48, 49, 50, 51, 52, 53, 54, 55, 56, 57]⟩ w hs (by decide) (ascii_of_all (by decide))
set_option maxHeartbeats 2000000 in
set_option maxRecDepth 100000 in
theorem jDigitsForm_any (S : ByteArray) (L : List UInt8) (w : World) (hS : S.data.toList = L) (hL : S.size ≤ 9223372036854775806) :
    Calls Tryz.prog 120 #[.string S] w fun e w' => e = .returned (.bool (dgB L)) ∧ Below w.heap.size w w' := by
  have HT := Lib.hid (trim_any S w (by omega))
  rw [hS] at HT
  obtain ⟨T, hT⟩ : ∃ T : ByteArray, T = ⟨(Lib.trimS L tenD).toArray⟩ := ⟨_, rfl⟩
  rw [← hT] at HT
  have hTe : T.toList.isEmpty = L.all (fun c => decide (48 ≤ c.toNat) && decide (c.toNat ≤ 57)) := by
    rw [hT, ByteArray.toList_eq, ← trim_digits]
  have hz := ba_size hS
  cases L with
  | nil =>
    have e0 : S.toList.isEmpty = true := by rw [ByteArray.toList_eq, hS]; rfl
    clear hS hT hTe
    go_enter Tryz.func120, Tryz.ntmps120
    go_wp2
    go_ret
    exact ⟨by rfl, Below.refl _ _⟩
  | cons c r =>
    have hp0 : 0 < S.size := by simp at hz; omega
    have hc := ba_first hS hp0
    have e0 : S.toList.isEmpty = false := by rw [ByteArray.toList_eq, hS]; rfl
    obtain ⟨ab, hab⟩ : ∃ ab, ab = (c :: r).all (fun c => decide (48 ≤ c.toNat) && decide (c.toNat ≤ 57)) := ⟨_, rfl⟩
    rw [← hab] at hTe
    have HV := Lib.hid (show dgB (c :: r) = (ab && ((c :: r).head? != some 48 || (c :: r) == [48])) by rw [hab]; unfold dgB; simp only [List.isEmpty_cons, Bool.not_false, Bool.true_and])
    cases ab with
    | false =>
      rw [Bool.false_and] at HV
      clear hS hT hab hc
      go_enter Tryz.func120, Tryz.ntmps120
      go_wp2_with fail
      (with_reducible refine HT.out.mono ?_)
      rintro e w1 ⟨rfl, hb1⟩
      go_wp2
      go_ret
      exact ⟨by rw [HV.out]; rfl, hb1⟩
    | true =>
      rw [Bool.true_and] at HV
      by_cases h48 : c = 48
      · subst h48
        obtain ⟨zb, hzb⟩ : ∃ zb, zb = (S.toList == [48]) := ⟨_, rfl⟩
        have hv : (((48 : UInt8) :: r).head? != some 48 || ((48 : UInt8) :: r) == [48]) = zb := by
          rw [hzb, ByteArray.toList_eq, hS]; rfl
        rw [hv] at HV
        have e1 := hzb.symm
        clear hS hT hab hzb hv
        go_enter Tryz.func120, Tryz.ntmps120
        go_wp2_with fail
        (with_reducible refine HT.out.mono ?_)
        rintro e w1 ⟨rfl, hb1⟩
        go_wp2
        go_ret
        exact ⟨by rw [HV.out]; rfl, hb1⟩
      · have hne : c.toNat ≠ 48 := fun h => h48 (UInt8.toNat_inj.1 h)
        have hv : ((c :: r).head? != some 48 || (c :: r) == [48]) = true := by simp [h48]
        rw [hv] at HV
        have t1 : ((c.toNat : Int) != 48) = true := by rw [bne_iff_ne]; omega
        have t2 : (c.toNat != 48) = true := by rw [bne_iff_ne]; omega
        have t3 : ((c.toNat : Int) == 48) = false := by rw [beq_eq_false_iff_ne]; omega
        have t4 : (c.toNat == 48) = false := by rw [beq_eq_false_iff_ne]; omega
        clear hS hT hab hv
        go_enter Tryz.func120, Tryz.ntmps120
        go_wp2_with fail
        (with_reducible refine HT.out.mono ?_)
        rintro e w1 ⟨rfl, hb1⟩
        go_wp2
        go_ret
        exact ⟨by rw [HV.out]; rfl, hb1⟩
end Go.Proofs.YtnpfdelklolchaaGreatDoor

/- Division digit by digit: plain. -/
namespace Go.Proofs.YtnpfdelklolchaaGreatDoor

theorem kn_le {B y1 y0 u d q r : Nat} (h : q * y1 + r = u) (ht : q * y0 ≤ B * r + d) : q * (y1 * B + y0) ≤ u * B + d := by
  rw [← h, Nat.mul_add, Nat.add_mul, ← Nat.mul_assoc, Nat.mul_comm r B]; omega
theorem kn_gt {B y1 y0 u d q r : Nat} (h : q * y1 + r = u) (ht : B * r + d < q * y0) : u * B + d < q * (y1 * B + y0) := by
  rw [← h, Nat.mul_add, Nat.add_mul, ← Nat.mul_assoc, Nat.mul_comm r B]; omega
theorem kn_first {B y1 y0 u d : Nat} (hy : 0 < y1) (hd : d < B) : (u * B + d) / (y1 * B + y0) ≤ u / y1 := by
  have hB : 0 < B := by omega
  have hyp : 0 < y1 * B + y0 := by have := Nat.mul_pos hy hB; omega
  refine Nat.le_of_lt_succ ((Nat.div_lt_iff_lt_mul hyp).2 ?_)
  have h1 := Nat.lt_mul_div_succ u hy
  have h2 := Nat.mul_le_mul_right B (show u + 1 ≤ y1 * (u / y1 + 1) from h1)
  have h3 : (u / y1).succ * (y1 * B + y0) = y1 * (u / y1 + 1) * B + (u / y1 + 1) * y0 := by
    rw [Nat.mul_add, Nat.mul_comm y1 (u / y1 + 1), Nat.mul_assoc]
  rw [h3]
  rw [Nat.add_mul] at h2
  omega
theorem kn_bound {B y1 y0 u : Nat} (hy : B ≤ 2 * y1) (h0 : y0 < B) (hu : u < y1 * B + y0) : u / y1 ≤ B + 1 := by
  have hy1 : 0 < y1 := by omega
  refine Nat.le_of_lt_succ ((Nat.div_lt_iff_lt_mul hy1).2 ?_)
  have : (B + 1).succ * y1 = y1 * B + 2 * y1 := by rw [Nat.succ_mul, Nat.add_mul, Nat.mul_comm B y1]; omega
  omega
theorem kn_break {B y1 y0 u d q r : Nat} (h : q * y1 + r = u) (hr : B ≤ r) (hq : q ≤ B) (h0 : y0 < B) : q * (y1 * B + y0) ≤ u * B + d := by
  refine kn_le h ?_
  have h1 := Nat.mul_le_mul_right y0 hq
  have h2 := Nat.mul_le_mul_left B (show y0 ≤ r by omega)
  omega
theorem kn_is {N y q : Nat} (hy : 0 < y) (h1 : q * y ≤ N) (h2 : N / y ≤ q) : q = N / y :=
  Nat.le_antisymm ((Nat.le_div_iff_mul_le hy).2 h1) h2
theorem kn_less {N y q : Nat} (hy : 0 < y) (h : N < q * y) : N / y < q := (Nat.div_lt_iff_lt_mul hy).2 h
/-- two digits, one after the other -/
theorem two_digits {u a b B y : Nat} (hy : 0 < y) :
    ((u * B + a) * B + b) / y = (u * B + a) / y * B + ((u * B + a) % y * B + b) / y ∧ ((u * B + a) * B + b) % y = ((u * B + a) % y * B + b) % y := by
  have h1 := Nat.div_add_mod (u * B + a) y
  have e : (u * B + a) * B + b = ((u * B + a) % y * B + b) + (u * B + a) / y * B * y := by
    conv => lhs; rw [← h1]
    rw [Nat.add_mul, Nat.mul_comm y, Nat.mul_assoc, Nat.mul_comm y B, ← Nat.mul_assoc]; omega
  constructor
  · rw [e, Nat.add_mul_div_right _ _ hy]; omega
  · rw [e, Nat.add_mul_mod_self_right]
theorem digit_lt {u a B y : Nat} (hu : u < y) (ha : a < B) : (u * B + a) / y < B := by
  refine (Nat.div_lt_iff_lt_mul (by omega)).2 ?_
  have h1 := Nat.mul_le_mul_right B (show u + 1 ≤ y from hu)
  rw [Nat.add_mul, Nat.mul_comm y B] at h1
  omega
/-- both shifted -/
theorem shifted {N y p : Nat} (hp : 0 < p) : N * p / (y * p) = N / y ∧ N * p % (y * p) = N % y * p :=
  ⟨Nat.mul_div_mul_right _ _ hp, Nat.mul_mod_mul_right _ _ _⟩

theorem drop_two {l : List Nat} {k s t : Nat} (hl : l.length = k + 2) (h1 : l[k]? = some s) (h2 : l[k + 1]? = some t) : l = l.take k ++ [s, t] := by
  conv => lhs; rw [← List.take_append_drop k l]
  congr 1
  have e1 := (List.getElem?_eq_some_iff.1 h1)
  have e2 := (List.getElem?_eq_some_iff.1 h2)
  rw [List.drop_eq_getElem_cons e1.1, List.drop_eq_getElem_cons e2.1, e1.2, e2.2, List.drop_eq_nil_of_le (by omega)]
theorem val_two {B : Nat} {l : List Nat} {k s t : Nat} (hl : l.length = k + 2) (h1 : l[k]? = some s) (h2 : l[k + 1]? = some t) : val B l = val B (l.take k) + B ^ k * (s + B * t) := by
  conv => lhs; rw [drop_two hl h1 h2, val_append]
  have : (l.take k).length = k := by simp; omega
  rw [this]; simp [val]
/-- the first guess of a digit is not too small -/
theorem guess_first {B P X' D' a2 a1 a0 T S : Nat} (hX : X' < P) (ha0 : a0 < B) (hT : 0 < T) :
    (X' + P * (a0 + B * (a1 + B * a2))) / (D' + P * (S + B * T)) ≤ (a2 * B + a1) / T := by
  have e1 : X' + P * (a0 + B * (a1 + B * a2)) = (a2 * B + a1) * (P * B) + (X' + P * a0) := by
    rw [Nat.mul_add, ← Nat.mul_assoc P B, Nat.mul_comm (P * B), Nat.mul_comm B a2, Nat.add_comm a1]; omega
  have e2 : D' + P * (S + B * T) = T * (P * B) + (D' + P * S) := by
    rw [Nat.mul_add, ← Nat.mul_assoc P B, Nat.mul_comm (P * B) T]; omega
  rw [e1, e2]
  refine kn_first hT ?_
  have := Nat.mul_le_mul_left P (show a0 + 1 ≤ B from ha0)
  rw [Nat.mul_add] at this
  omega
/-- a guess that is too great for the upper words is too great -/
theorem guess_less {B P X' D' a2 a1 a0 T S q r : Nat} (hX : X' < P) (h : q * T + r = a2 * B + a1) (ht : r * B + a0 < q * S) :
    X' + P * (a0 + B * (a1 + B * a2)) < q * (D' + P * (S + B * T)) := by
  have h1 : (a2 * B + a1) * B + a0 + 1 ≤ q * (T * B + S) := kn_gt (B := B) h (by rw [Nat.mul_comm B r]; exact ht)
  have h2 := Nat.mul_le_mul_left P h1
  have e1 : P * (a0 + B * (a1 + B * a2)) + P = P * ((a2 * B + a1) * B + a0 + 1) := by
    rw [Nat.mul_add P _ 1, Nat.mul_one, Nat.mul_comm (a2 * B + a1) B, Nat.mul_comm a2 B, Nat.add_comm (B * a2) a1, Nat.add_comm (B * (a1 + B * a2)) a0]
  have e2 : q * (D' + P * (S + B * T)) = q * D' + P * (q * (T * B + S)) := by
    rw [Nat.mul_add, Nat.mul_comm B T, Nat.add_comm S, Nat.mul_left_comm]
  rw [e2]; omega

/-- the number of m digits from place j on -/
def win (B : Nat) (l : List Nat) (j : Nat) : Nat → Nat
  | 0 => 0
  | m + 1 => win B l j m + B ^ m * (l[j + m]?.getD 0)
theorem win_succ {B : Nat} {l : List Nat} {j m d : Nat} (h : l[j + m]? = some d) : win B l j (m + 1) = win B l j m + B ^ m * d := by
  show win B l j m + B ^ m * (l[j + m]?.getD 0) = _
  rw [h]; rfl
theorem win_congr {B : Nat} {l l' : List Nat} {j : Nat} : ∀ {m : Nat}, (∀ i, j ≤ i → i < j + m → l[i]? = l'[i]?) → win B l j m = win B l' j m
  | 0, _ => rfl
  | m + 1, h => by
    show win B l j m + B ^ m * (l[j + m]?.getD 0) = win B l' j m + B ^ m * (l'[j + m]?.getD 0)
    rw [win_congr (m := m) (fun i h1 h2 => h i h1 (by omega)), h (j + m) (by omega) (by omega)]
theorem win_lt {B : Nat} (hB : 0 < B) {l : List Nat} (hl : ∀ d ∈ l, d < B) (j : Nat) : ∀ m, win B l j m < B ^ m
  | 0 => by simp [win]
  | m + 1 => by
    have ih := win_lt hB hl j m
    have hd : l[j + m]?.getD 0 < B := by
      cases h : l[j + m]? with
      | none => simpa using hB
      | some d => exact hl d (List.mem_of_getElem? h)
    have h2 := Nat.mul_le_mul_left (B ^ m) (show l[j + m]?.getD 0 + 1 ≤ B from hd)
    show win B l j m + B ^ m * (l[j + m]?.getD 0) < _
    rw [Nat.pow_succ]
    rw [Nat.mul_add] at h2
    omega
theorem win_val {B : Nat} {l : List Nat} {j : Nat} : ∀ {m : Nat}, j + m ≤ l.length → win B l j m = val B ((l.drop j).take m)
  | 0, _ => by simp [win, val]
  | m + 1, h => by
    have hm : j + m < l.length := by omega
    rw [win_succ (List.getElem?_eq_getElem hm), win_val (m := m) (by omega)]
    have e : (l.drop j)[m]? = some l[j + m] := by rw [List.getElem?_drop]; exact List.getElem?_eq_getElem hm
    rw [List.take_add_one, e]
    simp only [Option.toList_some]
    rw [val_snoc]
    have : ((l.drop j).take m).length = m := by simp; omega
    rw [this]
theorem val_win {B : Nat} {l : List Nat} {j m : Nat} (h : j + m ≤ l.length) : val B l = val B (l.take j) + B ^ j * win B l j m + B ^ (j + m) * val B (l.drop (j + m)) := by
  have h1 : (l.take j).length = j := by simp; omega
  have h2 : ((l.drop j).take m).length = m := by simp; omega
  conv => lhs; rw [← List.take_append_drop j l, val_append, ← List.take_append_drop m (l.drop j), val_append]
  rw [h1, h2, win_val h, List.drop_drop, Nat.mul_add, ← Nat.mul_assoc, ← Nat.pow_add]; omega
theorem val_set0 {B : Nat} : ∀ {l : List Nat} {j q : Nat}, l[j]? = some 0 → val B (l.set j q) = val B l + B ^ j * q
  | [], j, q, h => by simp at h
  | d :: r, 0, q, h => by
    have h : d = 0 := by simpa using h
    simp [val, h]; omega
  | d :: r, j + 1, q, h => by
    have ih := val_set0 (l := r) (j := j) (q := q) (B := B) (by simpa using h)
    simp only [List.set_cons_succ, val, ih, Nat.pow_succ, Nat.mul_add]
    rw [Nat.mul_comm (B ^ j) B, Nat.mul_assoc]; omega
/-- taking away q times D: enough, or too much -/
theorem take_enough {X D w v M : Nat} (hD : 0 < D) (h : v + w * D = X + M * 0) (hw : X / D ≤ w) : w = X / D ∧ v = X % D := by
  have h1 : w ≤ X / D := (Nat.le_div_iff_mul_le hD).2 (by omega)
  have h2 : w = X / D := by omega
  refine ⟨h2, ?_⟩
  have := Nat.div_add_mod X D
  rw [h2, Nat.mul_comm] at h
  omega
theorem take_much {X D w v M : Nat} (h : v + w * D = X + M * 1) (hv : v < M) : X < w * D := by omega
/-- giving back: not yet, or now -/
theorem give_now {X D w v v' M : Nat} (hD : 0 < D) (h : v + (w + 1) * D = X + M) (hX : X < (w + 1) * D) (hg : v' + M * 1 = v + D) : w = X / D ∧ v' = X % D := by
  rw [Nat.add_mul] at h hX
  refine take_enough (M := M) hD (by omega) ?_
  refine Nat.le_of_lt_succ ((Nat.div_lt_iff_lt_mul hD).2 ?_)
  rw [Nat.succ_mul]; omega
theorem give_more {X D w v v' M : Nat} (h : v + (w + 1) * D = X + M) (hg : v' + M * 0 = v + D) (hv : v' < M) : v' + w * D = X + M ∧ X < w * D := by
  rw [Nat.add_mul] at h; omega
/-- one digit of the quotient, the number and the quotient so far -/
theorem div_step {B D n j Q : Nat} {x x' q : List Nat} (hDB : D ≤ B ^ n) (hx : ∀ d ∈ x, d < B) (hl : x'.length = x.length) (hj : j + n + 1 ≤ x.length) (hlt : val B x < D * B ^ (j + 1))
    (hsame : ∀ i, i < j ∨ j + (n + 1) ≤ i → x'[i]? = x[i]?) (hQ : Q = win B x j (n + 1) / D) (hR : win B x' j (n + 1) = win B x j (n + 1) % D) (hq : q[j]? = some 0) (hD : 0 < D) :
    val B x' < D * B ^ j ∧ val B x' + D * val B (q.set j Q) = val B x + D * val B q := by
  have e0 : val B (x.drop (j + (n + 1))) = 0 := by
    have h1 := val_win (B := B) (l := x) (j := j) (m := n + 1) (by omega)
    have h2 : D * B ^ (j + 1) ≤ B ^ (j + (n + 1)) := by
      have := Nat.mul_le_mul_right (B ^ (j + 1)) hDB
      rwa [← Nat.pow_add, show n + (j + 1) = j + (n + 1) by omega] at this
    rcases Nat.eq_zero_or_pos (val B (x.drop (j + (n + 1)))) with h | h
    · exact h
    · have h3 := Nat.mul_le_mul_left (B ^ (j + (n + 1))) h
      rw [Nat.mul_one] at h3
      omega
  have et : x'.take j = x.take j := by
    apply List.ext_getElem?
    intro i
    rw [List.getElem?_take, List.getElem?_take]
    split
    · exact hsame i (.inl (by omega))
    · rfl
  have ed : x'.drop (j + (n + 1)) = x.drop (j + (n + 1)) := by
    apply List.ext_getElem?
    intro i
    rw [List.getElem?_drop, List.getElem?_drop]
    exact hsame _ (.inr (by omega))
  have v1 := val_win (B := B) (l := x) (j := j) (m := n + 1) (by omega)
  have v2 := val_win (B := B) (l := x') (j := j) (m := n + 1) (by omega)
  rw [ed, et, e0] at v2
  rw [e0] at v1
  have ht : val B (x.take j) < B ^ j := by
    have := val_lt (B := B) (l := x.take j) (fun d hd => hx d (List.mem_of_mem_take hd))
    have e : (x.take j).length = j := by simp; omega
    rwa [e] at this
  have hm : win B x' j (n + 1) < D := by rw [hR]; exact Nat.mod_lt _ hD
  constructor
  · have := Nat.mul_le_mul_left (B ^ j) (show win B x' j (n + 1) + 1 ≤ D from hm)
    rw [Nat.mul_add, Nat.mul_comm (B ^ j) D] at this
    omega
  · rw [val_set0 hq, v1, v2, Nat.mul_add, hR]
    have h3 := Nat.div_add_mod (win B x j (n + 1)) D
    have h4 : D * (B ^ j * Q) = B ^ j * (D * (win B x j (n + 1) / D)) := by rw [hQ, Nat.mul_left_comm]
    have h5 : B ^ j * win B x j (n + 1) = B ^ j * (D * (win B x j (n + 1) / D)) + B ^ j * (win B x j (n + 1) % D) := by rw [← Nat.mul_add, h3]
    rw [h4, h5]; omega
end Go.Proofs.YtnpfdelklolchaaGreatDoor

/- Package nat: Of, cut, Cmp. -/
namespace Go.Proofs.YtnpfdelklolchaaGreatDoor
open Go Go.RowKit Go.Proofs

/-- the words' base -/
def W64 : Nat := 18446744073709551616
theorem W64_pos : 1 < W64 := by unfold W64; omega
def u64s (l : List Nat) : List Value := l.map fun d : Nat => Value.int .u64 (d : Int)
theorem u64s_length (l : List Nat) : (u64s l).length = l.length := by simp [u64s]
theorem u64s_get {l : List Nat} {i : Nat} {u : Value} (h : (u64s l)[i]? = some u) : ∃ d, l[i]? = some d ∧ u = .int .u64 (d : Int) := by
  unfold u64s at h; rw [List.getElem?_map] at h
  cases hz : l[i]? with
  | none => rw [hz] at h; cases h
  | some z => rw [hz] at h; exact ⟨z, rfl, by simpa using h.symm⟩
/-- the slice (A, l.length, c) is the number x -/
structure NatR (w : World) (A : Option Addr) (c : Nat) (l : List Nat) (x : Nat) : Prop where
  rd : Rd w 0 w.heap.size 1 A l.length (u64s l)
  norm : Norm W64 l
  val : val W64 l = x
  cap : l.length ≤ c
  max : c ≤ maxLen
  nil : A = none → l.length = 0 ∧ c = 0
theorem NatR.on {w w' : World} {A : Option Addr} {c : Nat} {l : List Nat} {x : Nat} (h : NatR w A c l x) (hb : Below w.heap.size w w') : NatR w' A c l x := ⟨h.rd.old hb, h.norm, h.val, h.cap, h.max, h.nil⟩
/-- what a function returns that makes a number -/
def NatPost (x : Nat) (w : World) (e : Ending) (w' : World) : Prop := ∃ A c l, e = .returned (.slice A l.length c) ∧ NatR w' A c l x ∧ Below w.heap.size w w'
/-- .. in memory of its own -/
def NatNew (x : Nat) (w : World) (e : Ending) (w' : World) : Prop := ∃ A c l, e = .returned (.slice A l.length c) ∧ NatR w' A c l x ∧ Below w.heap.size w w' ∧ ∀ b o, A = some ⟨b, o, none⟩ → w.heap.size ≤ b
theorem NatNew.post {x : Nat} {w : World} {e : Ending} {w' : World} : NatNew x w e w' → NatPost x w e w' := fun ⟨A, c, l, h1, h2, h3, _⟩ => ⟨A, c, l, h1, h2, h3⟩
theorem natr_nil (w : World) : NatR w none 0 [] 0 := ⟨Rd.nil, norm_nil _, rfl, Nat.le_refl _, Nat.zero_le _, fun _ => ⟨rfl, rfl⟩⟩
theorem Rd.take {w : World} {L B : Nat} {A : Option Addr} {l : List Nat} (h : Rd w L B 1 A l.length (u64s l)) (n : Nat) (hn : n ≤ l.length) : Rd w L B 1 A n (u64s (l.take n)) :=
  ⟨by simp [u64s]; omega, fun hp => by
    obtain ⟨b, o, e, h1, h2, h3⟩ := h.2 (by omega)
    refine ⟨b, o, e, h1, h2, fun j u hj => h3 j u ?_⟩
    unfold u64s at hj ⊢
    rw [List.getElem?_map] at hj ⊢
    have hjn : j < n := by
      refine Classical.byContradiction fun hc => ?_
      rw [List.getElem?_eq_none (by simp; omega)] at hj
      cases hj
    rwa [List.getElem?_take_of_lt hjn] at hj⟩

set_option maxHeartbeats 1000000 in
set_option maxRecDepth 100000 in
theorem natOf_any (n : Int) (w : World) (hn : n ≤ 9223372036854775807) : Calls Tryz.prog 26 #[.int .i64 n] w (NatPost n.toNat w) := by
  by_cases h : n ≤ 0
  · have h' : decide (n ≤ 0) = true := by simpa using h
    have HZ := Lib.hid (show n.toNat = 0 by omega)
    go_enter Tryz.func26, Tryz.ntmps26
    go_wp2
    go_ret
    exact ⟨none, 0, [], rfl, by rw [HZ.out]; exact natr_nil w, Below.refl _ _⟩
  · have h' : decide (n ≤ 0) = false := by simpa using h
    have HF := Lib.hid (show NatPost n.toNat w (.returned (.slice (some ⟨w.heap.size, 0, none⟩) 1 1)) (w.alloc (.cells #[.int .u64 n] 110)) from by
      refine ⟨_, 1, [n.toNat], rfl, ⟨⟨by simp [u64s], fun _ => ⟨w.heap.size, 0, rfl, Nat.zero_le _, by simp, fun j u hj => ?_⟩⟩, ⟨?_, ?_⟩, ?_, by simp, by unfold maxLen; omega, fun h => by cases h⟩, (Below.refl _ w).alloc (Nat.le_refl _) _⟩
      · have hj' := (List.getElem?_eq_some_iff.1 hj).1
        simp [u64s] at hj'
        subst hj'
        rw [cellsAt (alloc_at w _ _ rfl)]
        simp [u64s] at hj ⊢
        rw [← hj]; simp; omega
      · intro d hd
        simp at hd
        subst hd; unfold W64; omega
      · simp; omega
      · simp [val])
    go_enter Tryz.func26, Tryz.ntmps26
    go_wp2
    go_ret
    exact HF.out
def sliceLen : Value → Nat | .slice _ n _ => n | _ => 0
theorem cut_none (w : World) : Calls Tryz.prog 69 #[.slice none 0 0] w fun e w' => e = .returned (.slice none 0 0) ∧ w = w' := by
  go_enter Tryz.func69, Tryz.ntmps69
  go_wp2
  refine wp_loop_rounds 1 ?_
  rw [rounds_succ]
  go_wp2
  go_ret
  exact ⟨rfl, rfl⟩
set_option maxHeartbeats 1000000 in
set_option maxRecDepth 100000 in
theorem cut_some (ad : Addr) (c : Nat) (l : List Nat) (w : World) (hr : Rd w 0 w.heap.size 1 (some ad) l.length (u64s l)) (hc : l.length ≤ c) (hcm : c ≤ maxLen) :
    Calls Tryz.prog 69 #[.slice (some ad) l.length c] w fun e w' => e = .returned (.slice (some ad) (trim l).length c) ∧ w = w' := by
  have HR := Lib.hid hr
  unfold maxLen at hcm
  clear hr
  go_enter Tryz.func69, Tryz.ntmps69
  go_wp2
  go_loop [0] (fun v => ∃ n : Nat, n ≤ l.length ∧ v = .slice (some ad) n c ∧ ∀ i, n ≤ i → i < l.length → l[i]? = some 0) (fun v => sliceLen v)
  case atStart => exact ⟨l.length, Nat.le_refl _, rfl, fun i h1 h2 => by omega⟩
  case round =>
    obtain ⟨n, hn, rfl, hz⟩ := hrel
    have HZ := Lib.hid hz
    clear hz
    cases n with
    | zero =>
      have HT := Lib.hid (show 0 = (trim l).length by rw [trim_take l 0 hn HZ.out (.inl rfl)]; simp)
      go_wp2
      go_ret
      exact ⟨congrArg (fun z => Ending.returned (.slice (some ad) z c)) HT.out, rfl⟩
    | succ n =>
      obtain ⟨b, o, u, hA, hb, hu, hcell⟩ := HR.out.at1 (show n < l.length by omega)
      obtain ⟨d, hd, rfl⟩ := u64s_get hu
      obtain rfl : ad = ⟨b, o, none⟩ := by injection hA
      have HD := Lib.hid hd
      clear hu hd hA
      by_cases h0 : d = 0
      · subst h0
        have HN := Lib.hid (show ∀ i, n ≤ i → i < l.length → l[i]? = some 0 from fun i h1 h2 => by
          rcases Nat.eq_or_lt_of_le h1 with e | e
          · rw [← e]; exact HD.out
          · exact HZ.out i e h2)
        go_wp2
        go_round
        case rel => exact ⟨n, by omega, rfl, HN.out⟩
        case measure => simp [sliceLen]
      · have h0' : ((d : Int) == 0) = false := by simpa using h0
        have HT := Lib.hid (show n + 1 = (trim l).length by
          rw [trim_take l (n + 1) hn HZ.out (.inr (by rw [Nat.add_sub_cancel, HD.out]; simpa using h0))]; simp; omega)
        go_wp2
        go_ret
        exact ⟨congrArg (fun z => Ending.returned (.slice (some ⟨b, o, none⟩) z c)) HT.out, rfl⟩
theorem cut_any (A : Option Addr) (c : Nat) (l : List Nat) (w : World) (hr : Rd w 0 w.heap.size 1 A l.length (u64s l)) (hc : l.length ≤ c) (hcm : c ≤ maxLen) (hA : A = none → l.length = 0 ∧ c = 0) :
    Calls Tryz.prog 69 #[.slice A l.length c] w fun e w' => e = .returned (.slice A (trim l).length c) ∧ w = w' := by
  cases A with
  | none =>
    obtain ⟨h1, rfl⟩ := hA rfl
    obtain rfl : l = [] := List.eq_nil_of_length_eq_zero h1
    exact cut_none w
  | some ad => exact cut_some ad c l w hr hc hcm
theorem trim_pre (l : List Nat) : trim l = l.take (trim l).length := by
  induction l with
  | nil => simp [trim]
  | cons d r ih =>
    unfold trim
    split
    · simp
    · rw [List.length_cons, List.take_succ_cons, ← ih]
/-- what cut returns is the number of the digits -/
theorem natr_cut {w : World} {A : Option Addr} {c : Nat} {l : List Nat} (hr : Rd w 0 w.heap.size 1 A l.length (u64s l)) (hd : ∀ d ∈ l, d < W64) (hc : l.length ≤ c) (hcm : c ≤ maxLen) (hA : A = none → l.length = 0 ∧ c = 0) : NatR w A c (trim l) (val W64 l) := by
  have hl := trim_length l
  refine ⟨?_, trim_norm hd, trim_val _ _, by omega, hcm, fun h => ⟨by have := hA h; omega, (hA h).2⟩⟩
  have := hr.take (trim l).length hl
  rwa [← trim_pre] at this

/-- -1, 0 or 1 -/
def cmpN (x y : Nat) : Int := if x < y then -1 else if x = y then 0 else 1
theorem cmpN_lt {x y : Nat} (h : x < y) : -1 = cmpN x y := by unfold cmpN; rw [if_pos h]
theorem cmpN_gt {x y : Nat} (h : y < x) : 1 = cmpN x y := by unfold cmpN; rw [if_neg (by omega), if_neg (by omega)]
theorem cmpN_eq {x y : Nat} (h : x = y) : 0 = cmpN x y := by unfold cmpN; rw [if_neg (by omega), if_pos h]
theorem split_at {l : List Nat} {j d : Nat} (h : l[j]? = some d) : l = l.take j ++ d :: l.drop (j + 1) := by
  have hj := (List.getElem?_eq_some_iff.1 h).1
  have hd := (List.getElem?_eq_some_iff.1 h).2
  rw [← hd, ← List.drop_eq_getElem_cons hj, List.take_append_drop]
theorem val_cmp_at {B : Nat} {l1 l2 : List Nat} {j d1 d2 : Nat} (hl : l1.length = l2.length) (h1 : l1[j]? = some d1) (h2 : l2[j]? = some d2) (hs : l1.drop (j + 1) = l2.drop (j + 1)) (hd : ∀ d ∈ l1, d < B) (h : d1 < d2) : val B l1 < val B l2 := by
  rw [split_at h1, split_at h2, ← hs]
  exact val_part _ _ _ _ _ (by simp; omega) (fun d hd' => hd d (List.mem_of_mem_take hd')) h

theorem drewN_add (w : World) (a b : Nat) : (w.drewN a).drewN b = w.drewN (a + b) := by simp [World.drewN, Nat.add_assoc]
set_option maxHeartbeats 2000000 in
set_option maxRecDepth 100000 in
theorem natCmp_any (A1 A2 : Option Addr) (c1 c2 : Nat) (l1 l2 : List Nat) (x y : Nat) (w : World) (h1 : NatR w A1 c1 l1 x) (h2 : NatR w A2 c2 l2 y) (hs : l1.length ≤ 1000000) (_hs2 : l2.length ≤ 1000000) :
    Calls Tryz.prog 67 #[.slice A1 l1.length c1, .slice A2 l2.length c2] w fun e w' => e = .returned (.int .i64 (cmpN x y)) ∧ ∃ q, w' = w.drewN q := by
  have HN1 := Lib.hid h1
  have HN2 := Lib.hid h2
  clear h1 h2
  by_cases hl : l1.length = l2.length
  · rw [← hl]
    have HL := Lib.hid hl
    clear hl _hs2
    go_enter Tryz.func67, Tryz.ntmps67
    go_wp2
    go_loopw [5] (fun i wr => ∃ k : Nat, k ≤ l1.length ∧ i = .int .i64 ((k : Int) - 1) ∧ l1.drop k = l2.drop k ∧ ∃ q, wr = w.drewN q) (fun i _ => (intOf i + 1).toNat)
    case atStart => exact ⟨l1.length, Nat.le_refl _, rfl, by rw [List.drop_length, HL.out, List.drop_length], 0, rfl⟩
    case round =>
      obtain ⟨k, hk, rfl, hdr, q, rfl⟩ := hrel
      have HDR := Lib.hid hdr
      clear hdr
      cases k with
      | zero =>
        have HE := Lib.hid (cmpN_eq (show x = y by
          have := HDR.out
          simp only [List.drop_zero] at this
          rw [← HN1.out.val, ← HN2.out.val, this]))
        go_wp2
        go_ret
        exact ⟨congrArg (fun z => Ending.returned (.int .i64 z)) HE.out, _, rfl⟩
      | succ j =>
        have e : (((j + 1 : Nat) : Int) - 1) = (j : Int) := by omega
        rw [e]
        clear e
        obtain ⟨b1, o1, u1, rfl, hb1, hu1, q1⟩ := HN1.out.rd.at1 (show j < l1.length by omega)
        obtain ⟨b2, o2, u2, rfl, hb2, hu2, q2⟩ := HN2.out.rd.at1 (show j < l2.length by have := HL.out; omega)
        obtain ⟨d1, hd1, rfl⟩ := u64s_get hu1
        obtain ⟨d2, hd2, rfl⟩ := u64s_get hu2
        have HD1 := Lib.hid hd1
        have HD2 := Lib.hid hd2
        have hj0 : (0 : Int) ≤ (j : Int) := by omega
        have hj1 : (j : Int) < (l1.length : Int) := by omega
        clear hu1 hu2 hd1 hd2
        have t0 : decide ((0 : Int) ≤ ↑j) = true := by simp
        by_cases hlt : d1 < d2
        · have HV := Lib.hid (cmpN_lt (show x < y by
            rw [← HN1.out.val, ← HN2.out.val]
            exact val_cmp_at HL.out HD1.out HD2.out HDR.out HN1.out.norm.1 hlt))
          have t1 : decide (d1 < d2) = true := by simpa using hlt
          go_wp2
          go_quiet (fail)
          go_wp2
          go_ret
          exact ⟨congrArg (fun z => Ending.returned (.int .i64 z)) HV.out, _, by first | rfl | (rw [drewN_add, drewN_add]) | (rw [drewN_add])⟩
        · have t1 : decide (d1 < d2) = false := by simpa using hlt
          by_cases hgt : d2 < d1
          · have HV := Lib.hid (cmpN_gt (show y < x by
              rw [← HN1.out.val, ← HN2.out.val]
              exact val_cmp_at HL.out.symm HD2.out HD1.out HDR.out.symm HN2.out.norm.1 hgt))
            have t2 : decide (d2 < d1) = true := by simpa using hgt
            go_wp2
            go_quiet (fail)
            go_wp2
            go_quiet (fail)
            go_wp2
            go_ret
            exact ⟨congrArg (fun z => Ending.returned (.int .i64 z)) HV.out, _, by first | rfl | (rw [drewN_add, drewN_add]) | (rw [drewN_add])⟩
          · have t2 : decide (d2 < d1) = false := by simpa using hgt
            have HN := Lib.hid (show l1.drop j = l2.drop j by
              have e1 := split_at HD1.out
              have e2 := split_at HD2.out
              have hj1' := (List.getElem?_eq_some_iff.1 HD1.out)
              have hj2' := (List.getElem?_eq_some_iff.1 HD2.out)
              rw [List.drop_eq_getElem_cons hj1'.1, List.drop_eq_getElem_cons hj2'.1, HDR.out, hj1'.2, hj2'.2, show d1 = d2 by omega])
            go_wp2
            go_quiet (fail)
            go_wp2
            go_quiet (fail)
            go_wp2
            go_roundw
            case rel => exact ⟨j, by omega, rfl, HN.out, _, by first | rfl | (rw [drewN_add, drewN_add]) | (rw [drewN_add])⟩
            case measure => simp [intOf]
  · by_cases hlt : l1.length < l2.length
    · have t1 : ((l1.length : Int) != (l2.length : Int)) = true := by simp; omega
      have t2 : decide (l1.length < l2.length) = true := by simpa using hlt
      have HV := Lib.hid (cmpN_lt (show x < y by
        have := val_len_lt W64_pos HN1.out.norm HN2.out.norm hlt
        rwa [HN1.out.val, HN2.out.val] at this))
      clear hl
      go_enter Tryz.func67, Tryz.ntmps67
      go_wp2
      go_ret
      exact ⟨congrArg (fun z => Ending.returned (.int .i64 z)) HV.out, 0, rfl⟩
    · have t1 : ((l1.length : Int) != (l2.length : Int)) = true := by simp; omega
      have t2 : decide (l1.length < l2.length) = false := by simpa using hlt
      have HV := Lib.hid (cmpN_gt (show y < x by
        have := val_len_lt W64_pos HN2.out.norm HN1.out.norm (show l2.length < l1.length by omega)
        rwa [HN1.out.val, HN2.out.val] at this))
      clear hl
      go_enter Tryz.func67, Tryz.ntmps67
      go_wp2
      go_ret
      exact ⟨congrArg (fun z => Ending.returned (.int .i64 z)) HV.out, 0, rfl⟩
end Go.Proofs.YtnpfdelklolchaaGreatDoor
