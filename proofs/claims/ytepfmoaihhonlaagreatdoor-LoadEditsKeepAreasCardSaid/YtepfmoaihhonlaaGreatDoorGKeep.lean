import Derived.Test.YtepfmoaihhonlaaGreatDoorR7Math
import Derived.Test.YtepfmoaihhonlaaGreatDoorGEdit
import Derived.Test.YtepfmoaihhonlaaGreatDoorGRa
import Derived.Test.YtepfmoaihhonlaaGreatDoorGFrac
import Derived.Test.YtepfmoaihhonlaaGreatDoorR7Ar
import Derived.Test.YtepfmoaihhonlaaGreatDoorGPeak
/- Areas of edited lines: plain. -/
namespace Go.Proofs.YtepfmoaihhonlaaGreatDoor

/-- the area of a whole line -/
def whA : List (Int × Int × Int) → Rat
  | [] => 0
  | s :: r => stA s s.1 + whA r
theorem lenS_cons (s : Int × Int × Int) (r : List (Int × Int × Int)) : lenS (s :: r) = s.1 + lenS r := by simp [lenS]
theorem lenS_nn {l : List (Int × Int × Int)} (h : ∀ s ∈ l, OkS s) : 0 ≤ lenS l := by
  have := (lenS_bd h).1
  omega
theorem arQ_all : ∀ {l : List (Int × Int × Int)} {t : Int}, (∀ s ∈ l, OkS s) → lenS l ≤ t → arQ l t = whA l
  | [], _, _, _ => rfl
  | s :: r, t, hok, ht => by
    have h1 := (hok s (by simp)).1
    have hr : ∀ x ∈ r, OkS x := fun x hx => hok x (by simp [hx])
    have h2 := lenS_nn hr
    rw [lenS_cons] at ht
    rw [arQ, if_pos (by omega), whA, show min s.1 t = s.1 by omega, arQ_all hr (by omega)]
theorem whA_app (a b : List (Int × Int × Int)) : whA (a ++ b) = whA a + whA b := by
  induction a with
  | nil => rw [List.nil_append, whA, Rat.zero_add]
  | cons s r ih => rw [List.cons_append, whA, whA, ih, Rat.add_assoc]
theorem arQ_app : ∀ {a b : List (Int × Int × Int)} {t : Int}, (∀ s ∈ a, OkS s) → arQ (a ++ b) t = arQ a t + arQ b (t - lenS a)
  | [], b, t, _ => by rw [List.nil_append, arQ, Rat.zero_add]; simp [lenS]
  | s :: r, b, t, hok => by
    have h1 := (hok s (by simp)).1
    have hr : ∀ x ∈ r, OkS x := fun x hx => hok x (by simp [hx])
    have h2 := lenS_nn hr
    rw [List.cons_append, arQ, arQ, lenS_cons]
    by_cases ht : 0 < t
    · rw [if_pos ht, if_pos ht, arQ_app hr, show t - s.1 - lenS r = t - (s.1 + lenS r) by omega, Rat.add_assoc]
    · rw [if_neg ht, if_neg ht, arQ_le b (by omega), Rat.add_zero]
/-- the area of a stage -/
theorem stA_eq {s : Int × Int × Int} (h : 1 ≤ s.1) (x : Int) : stA s x = (2 * ((s.2.1 : Int) : Rat) + (((s.2.2 : Int) : Rat) - ((s.2.1 : Int) : Rat)) * (x : Rat) / (s.1 : Rat)) * (x : Rat) / 2000000000 := by
  have e : ((s.1.toNat : Nat) : Rat) = (s.1 : Rat) := (int_toNat (by omega)).symm
  have hF : (s.1 : Rat) ≠ 0 := by rw [← e]; exact natR_ne (by omega)
  unfold stA
  simp only [Rat.mkRat_eq_div, Rat.intCast_sub, e]
  generalize (s.1 : Rat) = f at *
  generalize ((s.2.1 : Int) : Rat) = u at *
  generalize ((s.2.2 : Int) : Rat) = v at *
  generalize (x : Rat) = z at *
  have : ((2 : Nat) : Rat) = 2 := rfl
  have : ((1 : Int) : Rat) = 1 := rfl
  have : ((1000000000 : Nat) : Rat) = 1000000000 := rfl
  clear e
  grind
theorem stA_whole {s : Int × Int × Int} (h : 1 ≤ s.1) : stA s s.1 = (((s.2.1 : Int) : Rat) + ((s.2.2 : Int) : Rat)) * (s.1 : Rat) / 2000000000 := by
  have e : ((s.1.toNat : Nat) : Rat) = (s.1 : Rat) := (int_toNat (by omega)).symm
  have hF : (s.1 : Rat) ≠ 0 := by rw [← e]; exact natR_ne (by omega)
  rw [stA_eq h]
  generalize (s.1 : Rat) = f at *
  generalize ((s.2.1 : Int) : Rat) = u at *
  generalize ((s.2.2 : Int) : Rat) = v at *
  clear e
  grind
theorem stA_rest {s : Int × Int × Int} (h : 1 ≤ s.1) (t : Int) : stA s t + stA (swpS s) (s.1 - t) = stA s s.1 := by
  have e : ((s.1.toNat : Nat) : Rat) = (s.1 : Rat) := (int_toNat (by omega)).symm
  have hF : (s.1 : Rat) ≠ 0 := by rw [← e]; exact natR_ne (by omega)
  have h2 : 1 ≤ (swpS s).1 := h
  rw [stA_whole h, stA_eq h, stA_eq h2]
  have e1 : (((swpS s).1 : Int) : Rat) = (s.1 : Rat) := rfl
  have e2 : (((swpS s).2.1 : Int) : Rat) = ((s.2.2 : Int) : Rat) := rfl
  have e3 : (((swpS s).2.2 : Int) : Rat) = ((s.2.1 : Int) : Rat) := rfl
  rw [e1, e2, e3, Rat.intCast_sub]
  generalize (s.1 : Rat) = f at *
  generalize ((s.2.1 : Int) : Rat) = u at *
  generalize ((s.2.2 : Int) : Rat) = v at *
  generalize (t : Rat) = z at *
  clear e e1 e2 e3 h2
  grind
theorem stA_zero (s : Int × Int × Int) : stA s 0 = 0 := by
  unfold stA
  have : mkRat 0 1000000000 = 0 := by rfl
  rw [this, Rat.mul_zero]
theorem whA_str {l : List (Int × Int × Int)} {k : Int} (hk : 1 ≤ k) (h : ∀ s ∈ l, OkS s) : whA (l.map (strS k)) = whA l * (k : Rat) := by
  induction l with
  | nil => rw [List.map_nil, whA, Rat.zero_mul]
  | cons s r ih =>
    have h1 := (h s (by simp)).1
    have hm : 1 ≤ (strS k s).1 := by
      show 1 ≤ k * s.1
      have := Int.mul_le_mul hk h1 (by omega) (by omega)
      omega
    rw [List.map_cons, whA, whA, ih (fun x hx => h x (by simp [hx])), stA_whole hm, stA_whole h1]
    have e1 : (((strS k s).1 : Int) : Rat) = (k : Rat) * (s.1 : Rat) := Rat.intCast_mul _ _
    have e2 : (((strS k s).2.1 : Int) : Rat) = ((s.2.1 : Int) : Rat) := rfl
    have e3 : (((strS k s).2.2 : Int) : Rat) = ((s.2.2 : Int) : Rat) := rfl
    rw [e1, e2, e3]
    clear ih e1 e2 e3
    grind
theorem whA_tim {l : List (Int × Int × Int)} {k : Int} (h : ∀ s ∈ l, OkS s) : whA (l.map (timS k)) = whA l * (k : Rat) := by
  induction l with
  | nil => rw [List.map_nil, whA, Rat.zero_mul]
  | cons s r ih =>
    have h1 := (h s (by simp)).1
    have hm : 1 ≤ (timS k s).1 := h1
    rw [List.map_cons, whA, whA, ih (fun x hx => h x (by simp [hx])), stA_whole hm, stA_whole h1]
    have e1 : (((timS k s).1 : Int) : Rat) = (s.1 : Rat) := rfl
    have e2 : (((timS k s).2.1 : Int) : Rat) = (k : Rat) * ((s.2.1 : Int) : Rat) := Rat.intCast_mul _ _
    have e3 : (((timS k s).2.2 : Int) : Rat) = (k : Rat) * ((s.2.2 : Int) : Rat) := Rat.intCast_mul _ _
    rw [e1, e2, e3]
    clear ih e1 e2 e3
    grind
theorem swp_ok {l : List (Int × Int × Int)} (h : ∀ s ∈ l, OkS s) : ∀ s ∈ (l.map swpS).reverse, OkS s := by
  intro s hs
  obtain ⟨q, hq, rfl⟩ := List.mem_map.1 (List.mem_reverse.1 hs)
  have := h q hq
  unfold OkS swpS at *
  simp only
  omega
theorem swp_len (l : List (Int × Int × Int)) : lenS (l.map swpS).reverse = lenS l := by
  induction l with
  | nil => rfl
  | cons s r ih =>
    rw [List.map_cons, List.reverse_cons, lenS_cons, ← ih]
    simp only [lenS, List.map_append, List.sum_append, List.map_cons, List.map_nil, List.sum_cons, List.sum_nil]
    have : (swpS s).1 = s.1 := rfl
    omega
theorem whA_rev {l : List (Int × Int × Int)} (h : ∀ s ∈ l, OkS s) : whA (l.map swpS).reverse = whA l := by
  induction l with
  | nil => rfl
  | cons s r ih =>
    have h1 := (h s (by simp)).1
    have hm : 1 ≤ (swpS s).1 := h1
    rw [List.map_cons, List.reverse_cons, whA_app, ih (fun x hx => h x (by simp [hx])), whA, whA, whA, Rat.add_zero, stA_whole hm, stA_whole h1, Rat.add_comm]
    have e1 : (((swpS s).1 : Int) : Rat) = (s.1 : Rat) := rfl
    have e2 : (((swpS s).2.1 : Int) : Rat) = ((s.2.2 : Int) : Rat) := rfl
    have e3 : (((swpS s).2.2 : Int) : Rat) = ((s.2.1 : Int) : Rat) := rfl
    rw [e1, e2, e3]
    clear ih e1 e2 e3
    grind
/-- the area of a line up to a time, and of the reversed one for the rest of the time, are the whole area -/
theorem arQ_rev : ∀ {l : List (Int × Int × Int)} {t : Int}, (∀ s ∈ l, OkS s) → 0 ≤ t → t ≤ lenS l → arQ l t + arQ (l.map swpS).reverse (lenS l - t) = whA l
  | [], t, _, _, _ => by
    show (0 : Rat) + 0 = 0
    rw [Rat.add_zero]
  | s :: r, t, hok, h0, ht => by
    have h1 := (hok s (by simp)).1
    have hr : ∀ x ∈ r, OkS x := fun x hx => hok x (by simp [hx])
    have h2 := lenS_nn hr
    rw [lenS_cons] at ht ⊢
    rw [List.map_cons, List.reverse_cons, arQ_app (swp_ok hr), swp_len]
    have e3 : s.1 + lenS r - t - lenS r = s.1 - t := by omega
    rw [e3, whA]
    have hone : ∀ x : Int, arQ [swpS s] x = if 0 < x then stA (swpS s) (min s.1 x) else 0 := by
      intro x
      rw [arQ, arQ, Rat.add_zero]
      rfl
    rw [hone]
    by_cases hc : t ≤ s.1
    · rw [arQ_all (swp_ok hr) (by rw [swp_len]; omega), whA_rev hr]
      have hA : arQ (s :: r) t = stA s t := by
        rw [arQ]
        by_cases h3 : 0 < t
        · rw [if_pos h3, arQ_le r (by omega), Rat.add_zero, show min s.1 t = t by omega]
        · rw [if_neg h3, show t = 0 by omega, stA_zero]
      have hB : (if 0 < s.1 - t then stA (swpS s) (min s.1 (s.1 - t)) else 0) = stA (swpS s) (s.1 - t) := by
        by_cases h3 : 0 < s.1 - t
        · rw [if_pos h3, show min s.1 (s.1 - t) = s.1 - t by omega]
        · rw [if_neg h3, show s.1 - t = 0 by omega, stA_zero]
      rw [hA, hB, ← stA_rest h1 t]
      grind
    · rw [if_neg (by omega), Rat.add_zero, arQ, if_pos (by omega), show min s.1 t = s.1 by omega]
      have ih := arQ_rev (l := r) (t := t - s.1) hr (by omega) (by omega)
      rw [show lenS r - (t - s.1) = s.1 + lenS r - t by omega] at ih
      rw [Rat.add_assoc, ih]
/-- decimal digits read as a number -/
def dgV (l : List UInt8) : Nat := l.foldl (fun n c => 10 * n + (c.toNat - 48)) 0
theorem dgV_from (l : List UInt8) : ∀ n : Nat, l.foldl (fun n c => 10 * n + (c.toNat - 48)) n = n * 10 ^ l.length + dgV l := by
  induction l with
  | nil => intro n; simp [dgV]
  | cons c r ih =>
    intro n
    unfold dgV
    rw [List.foldl_cons, List.foldl_cons, ih, ih (10 * 0 + _), List.length_cons, Nat.pow_succ]
    have : (10 * n + (c.toNat - 48)) * 10 ^ r.length = n * (10 ^ r.length * 10) + (c.toNat - 48) * 10 ^ r.length := by
      rw [Nat.add_mul, Nat.mul_comm 10 n, Nat.mul_assoc, Nat.mul_comm 10]
    rw [this, Nat.mul_zero, Nat.zero_add]
    unfold dgV
    omega
theorem dgV_app (a b : List UInt8) : dgV (a ++ b) = dgV a * 10 ^ b.length + dgV b := by
  conv => lhs; unfold dgV
  rw [List.foldl_append, dgV_from]
  rfl
theorem dgV_snoc (a : List UInt8) (c : UInt8) : dgV (a ++ [c]) = 10 * dgV a + (c.toNat - 48) := by
  unfold dgV; rw [List.foldl_append]; rfl
theorem dgV_lt {l : List UInt8} (h : ∀ c ∈ l, 48 ≤ c.toNat ∧ c.toNat ≤ 57) : dgV l < 10 ^ l.length := by
  induction l with
  | nil => simp [dgV]
  | cons c r ih =>
    have e := dgV_from r (10 * 0 + (c.toNat - 48))
    have h1 := h c (by simp)
    have h2 := ih (fun x hx => h x (by simp [hx]))
    unfold dgV
    rw [List.foldl_cons, e, List.length_cons, Nat.pow_succ]
    have : (10 * 0 + (c.toNat - 48)) * 10 ^ r.length ≤ 9 * 10 ^ r.length := Nat.mul_le_mul (by omega) (Nat.le_refl _)
    omega
theorem dec_val (u : Nat) : dgV (Lib.decDigits u) = u ∧ ∀ c ∈ Lib.decDigits u, 48 ≤ c.toNat ∧ c.toNat ≤ 57 := by
  induction u using Nat.strongRecOn with
  | _ u ih =>
    rw [Lib.decDigits]
    split
    · have e : (UInt8.ofNat (48 + u)).toNat = 48 + u := by simp; omega
      refine ⟨?_, fun c hc => ?_⟩
      · show 10 * 0 + ((UInt8.ofNat (48 + u)).toNat - 48) = u
        omega
      · obtain rfl := List.mem_singleton.1 hc
        omega
    · have e : (UInt8.ofNat (48 + u % 10)).toNat = 48 + u % 10 := by simp; omega
      obtain ⟨i1, i2⟩ := ih (u / 10) (by omega)
      refine ⟨?_, fun c hc => ?_⟩
      · rw [dgV_snoc, i1]; omega
      · rcases List.mem_append.1 hc with h | h
        · exact i2 c h
        · obtain rfl := List.mem_singleton.1 h
          omega
/-- the next four digits -/
theorem dgV_chunk {L : List UInt8} {s e : Nat} (hs : s ≤ e) (he : e ≤ L.length) : dgV (L.drop s) = dgV ((L.drop s).take (e - s)) * 10 ^ (L.length - e) + dgV (L.drop e) := by
  have h : L.drop s = (L.drop s).take (e - s) ++ L.drop e := by
    conv => lhs; rw [← List.take_append_drop (e - s) (L.drop s)]
    rw [List.drop_drop, show s + (e - s) = e by omega]
  conv => lhs; rw [h]
  rw [dgV_app, List.length_drop]
theorem dgV_next {L : List UInt8} {s i : Nat} (hs : s ≤ i) (hi : i < L.length) : dgV ((L.drop s).take (i + 1 - s)) = 10 * dgV ((L.drop s).take (i - s)) + (L[i].toNat - 48) := by
  rw [show i + 1 - s = i - s + 1 by omega, List.take_succ_eq_append_getElem (by rw [List.length_drop]; omega), dgV_snoc]
  congr 3
  rw [List.getElem_drop]
  congr 1
  omega
theorem dgV_piece {L : List UInt8} (h : ∀ c ∈ L, 48 ≤ c.toNat ∧ c.toNat ≤ 57) (s k : Nat) : dgV ((L.drop s).take k) < 10 ^ k := by
  have h1 := dgV_lt (l := (L.drop s).take k) (fun c hc => h c (List.mem_of_mem_drop (List.mem_of_mem_take hc)))
  refine Nat.lt_of_lt_of_le h1 (Nat.pow_le_pow_right (by omega) ?_)
  rw [List.length_take]; omega
end Go.Proofs.YtepfmoaihhonlaaGreatDoor

/- ref0.Digits: the number with these digits. -/
namespace Go.Proofs.YtepfmoaihhonlaaGreatDoor
open Go Go.RowKit Go.Proofs

/-- j chunks of four digits are read -/
def DgR (w wr : World) (L : List UInt8) (j : Nat) (v : Value) : Prop :=
  ∃ o, o.length = j ∧ (∀ d ∈ o, d < T4) ∧ val T4 o = dgV (L.drop (L.length - 4 * j)) ∧ wr.ownsRow w.heap.size 3 1 v o.length (d4s o) ∧ Below w.heap.size w wr
theorem T4_10 (j : Nat) : T4 ^ j = 10 ^ (4 * j) := by rw [Nat.pow_mul]; unfold T4; rfl
theorem dg_step {L : List UInt8} (hd : ∀ c ∈ L, 48 ≤ c.toNat ∧ c.toNat ≤ 57) {j : Nat} (hj : 4 * j < L.length) {o : List Nat} (h1 : o.length = j) (h3 : val T4 o = dgV (L.drop (L.length - 4 * j))) {n : Nat}
    (hn : n = dgV ((L.drop (L.length - 4 * (j + 1))).take (L.length - 4 * j - (L.length - 4 * (j + 1))))) : n < T4 ∧ val T4 (o ++ [n]) = dgV (L.drop (L.length - 4 * (j + 1))) := by
  constructor
  · have h := dgV_piece hd (L.length - 4 * (j + 1)) (L.length - 4 * j - (L.length - 4 * (j + 1)))
    rw [← hn] at h
    refine Nat.lt_of_lt_of_le h ?_
    have : (10 : Nat) ^ (L.length - 4 * j - (L.length - 4 * (j + 1))) ≤ 10 ^ 4 := Nat.pow_le_pow_right (by omega) (by omega)
    unfold T4; omega
  · rw [dgV_chunk (s := L.length - 4 * (j + 1)) (e := L.length - 4 * j) (by omega) (by omega), ← hn, val_snoc, h1, h3, T4_10, show L.length - (L.length - 4 * j) = 4 * j by omega, Nat.mul_comm n]
    exact Nat.add_comm _ _

set_option maxHeartbeats 4000000 in
set_option maxRecDepth 100000 in
theorem rDigits_s (S : ByteArray) (L : List UInt8) (w : World) (hSL : S.data.toList = L) (hL : S.size ≤ 1000000) (hd : ∀ c ∈ L, 48 ≤ c.toNat ∧ c.toNat ≤ 57) :
    Calls Tryz.prog 86 #[.string S] w (RNatPost (dgV L) w) := by
  obtain ⟨i0, hi0, hz0, hz1, hz2⟩ := info_parts Tryz.infoI4
  have hsz1 : L.length ≤ S.size := Nat.le_of_eq (by subst hSL; exact Array.length_toList)
  have hsz2 : S.size ≤ L.length := Nat.le_of_eq (by subst hSL; exact Array.length_toList.symm)
  have HB := Lib.hid (show ∀ (i : Nat) (h : i < S.size), ∃ h' : i < L.length, L[i] = S[i] from fun i h => by subst hSL; exact ⟨by omega, rfl⟩)
  clear hSL
  have HD := Lib.hid hd
  clear hd
  go_enter Tryz.func86, Tryz.ntmps86
  go_wp2
  go_loopw [3, 4] (fun v ev wr => ∃ (j : Nat) (z : Int), 4 * j ≤ L.length + 3 ∧ ev = .int .i64 z ∧ z ≤ (L.length : Int) - 4 * j ∧ (L.length : Int) - 4 * j ≤ z ∧ DgR w wr L j v) (fun _ ev _ => (intOf ev).toNat)
  case atStart => exact ⟨0, S.size, by omega, rfl, by omega, by omega, [], rfl, fun _ h => by simp at h, by simp [val, dgV], ⟨by simp [d4s], .inl ⟨rfl, rfl⟩⟩, Below.refl _ _⟩
  case round =>
    obtain ⟨j, z, hj, rfl, hz1', hz2', o, ho1, ho2, ho3, hown, hbw⟩ := hrel
    have HOW := Lib.hid hown
    have HBW := Lib.hid hbw
    have hsz' := hbw.size
    have H1 := Lib.hid ho1
    have H2 := Lib.hid ho2
    have H3 := Lib.hid ho3
    have ho1' : o.length ≤ j := by omega
    have ho1'' : j ≤ o.length := by omega
    clear hown hbw ho1 ho2 ho3
    by_cases hlt : 4 * j < L.length
    · obtain ⟨E, rfl⟩ : ∃ E : Nat, z = E := ⟨z.toNat, by omega⟩
      have hEL : E ≤ L.length - 4 * j := by omega
      have hEL' : L.length - 4 * j ≤ E := by omega
      obtain ⟨s, hs⟩ : ∃ s : Nat, s = L.length - 4 * (j + 1) := ⟨_, rfl⟩
      have hs1 : s ≤ L.length - 4 * (j + 1) := by omega
      have hs2 : L.length - 4 * (j + 1) ≤ s := by omega
      have HS := Lib.hid hs
      clear hs
      have t1 : decide ((0 : Int) < (E : Int)) = true := by simp; omega
      have t2 : decide (0 < E) = true := by simp; omega
      have hmx : max (0 : Int) ((E : Int) - 4) = (s : Int) := by omega
      go_wp2_with fail
      go_loop [5, 6] (fun nv iv => ∃ i : Nat, s ≤ i ∧ i ≤ E ∧ iv = .int .i64 (i : Int) ∧ nv = .int .i64 ((dgV ((L.drop s).take (i - s)) : Nat) : Int)) (fun _ iv => E - (intOf iv).toNat)
      case atStart => exact ⟨s, Nat.le_refl _, by omega, rfl, by rw [Nat.sub_self, List.take_zero]; rfl⟩
      case round =>
        obtain ⟨i, hi1, hi2, rfl, rfl⟩ := hrel
        by_cases hiE : i < E
        · have hiL : i < L.length := by omega
          have hiS : i < S.size := by omega
          obtain ⟨_, hbe⟩ := HB.out i hiS
          have hb := HD.out L[i] (List.getElem_mem hiL)
          rw [hbe] at hb
          have hb1 : (48 : Int) ≤ (S[i].toNat : Int) := by omega
          have hb2 : (S[i].toNat : Int) ≤ 57 := by omega
          have hp := dgV_piece (fun c hc => HD.out c hc) s (i - s)
          have hp4 : (10 : Nat) ^ (i - s) ≤ 10 ^ 4 := Nat.pow_le_pow_right (by omega) (by omega)
          have HN := Lib.hid (dgV_next (L := L) hi1 hiL)
          rw [hbe] at HN
          obtain ⟨n, hn⟩ : ∃ n, n = dgV ((L.drop s).take (i - s)) := ⟨_, rfl⟩
          rw [← hn] at hp HN ⊢
          have hn4 : n ≤ 9999 := by omega
          clear hp hp4 hn hb hbe
          go_wp2
          go_round
          case rel => exact ⟨i + 1, by omega, by omega, by go_num, by rw [HN.out]; go_num⟩
          case measure => simp [intOf]; omega
        · obtain rfl : i = E := by omega
          obtain ⟨n, hn⟩ : ∃ n, n = dgV ((L.drop s).take (i - s)) := ⟨_, rfl⟩
          have hst := dg_step (fun c hc => HD.out c hc) hlt H1.out H3.out (n := n) (by rw [← HS.out, show L.length - 4 * j = i by omega]; exact hn)
          rw [← hn]
          have HST := Lib.hid hst
          clear hst hn
          go_wp2_with (at_builtin; refine wpList_append_own _ rfl (.tmp 29) (.tmp 31) 37 rfl w.heap.size 3 i0 _ 1 8 Tryz.underlying37 hi0 hz0 hz1 hz2 rfl (by decide) _ _ _ rfl (HOW.out.alloc _) ⟨wr.heap.size, 0, none⟩ 1 1 [.int .i64 (n : Int)] rfl rfl (cell_one_new _ _ _) (by simp [Value.oneCell']) ?c3 ?c4 ?c5 ?_)
          case c3 => unfold maxLen; omega
          case c4 => omega
          case c5 => first | omega | exact hsz' | (simp; omega)
          intro v' w2 hown' hgrow _
          have hnew : DgR w w2 L (j + 1) v' := by
            refine ⟨o ++ [n], by rw [List.length_append, H1.out]; rfl, ?_, HST.out.2, ?_, ?_⟩
            · intro d hd
              rcases List.mem_append.1 hd with h | h
              · exact H2.out d h
              · obtain rfl := List.mem_singleton.1 h
                exact HST.out.1
            · simpa [d4s] using hown'
            · exact (HBW.out.alloc hsz' _).grown hgrow (by simp; omega) (fun j hj => (ownsRow_block HOW.out hj.symm).1)
          have HNW := Lib.hid hnew
          clear hown' hgrow hnew
          go_wp2
          go_roundw
          case rel => exact ⟨j + 1, (i : Int) - 4, by omega, by first | rfl | go_num, by omega, by omega, HNW.out⟩
          case measure => simp [intOf]; omega
    · obtain ⟨A', cap', rfl, hnc, hcm, hA'⟩ := ownsRow_shape HOW.out
      have HV := Lib.hid (show val T4 o = dgV L by rw [H3.out, show L.length - 4 * j = 0 by omega]; rfl)
      have hrd := (Rd.of_own HOW.out).more (Nat.zero_le _) (Nat.le_refl _)
      have HT := Lib.hid (trimmed_any A' cap' o wr hrd hnc hcm hA')
      have HR := Lib.hid (rnatr_trim hrd H2.out (by unfold maxLen at *; omega) (fun h => (hA' h).1))
      clear hrd hA'
      have t1 : decide ((0 : Int) < z) = false := by simp; omega
      go_wp2_with fail
      (with_reducible refine HT.out.mono ?_)
      rintro e w' ⟨rfl, rfl⟩
      go_wp2
      go_ret
      exact ⟨A', (trim o).length, trim o, rfl, by rw [← HV.out]; exact HR.out, HBW.out⟩
theorem rDigits_any (L : List UInt8) (w : World) (hL : L.length ≤ 1000000) (hd : ∀ c ∈ L, 48 ≤ c.toNat ∧ c.toNat ≤ 57) :
    Calls Tryz.prog 86 #[.string ⟨L.toArray⟩] w (RNatPost (dgV L) w) :=
  rDigits_s ⟨L.toArray⟩ L w rfl (by simpa [ByteArray.size] using hL) hd
end Go.Proofs.YtepfmoaihhonlaaGreatDoor

/- ref0.FromRatio. Printed by gen_fromr.py. -/
namespace Go.Proofs.YtepfmoaihhonlaaGreatDoor
open Go Go.RowKit Go.Proofs

theorem dgt_len {w : World} {A : Option Addr} {c : Nat} {l : List Nat} {L : List UInt8} (h : RNatR w A c l (dgV L)) (hd : ∀ c ∈ L, 48 ≤ c.toNat ∧ c.toNat ≤ 57) : l.length ≤ L.length := by
  refine h.len ?_
  have h1 := dgV_lt hd
  have h2 : (10 : Nat) ^ L.length ≤ T4 ^ L.length := Nat.pow_le_pow_left (by unfold T4; omega) _
  omega
set_option maxHeartbeats 4000000 in
set_option maxRecDepth 100000 in
theorem rFromRat_s (Sa Sb : ByteArray) (a b : List UInt8) (w : World) (hSa : Sa.data.toList = a) (hSb : Sb.data.toList = b) (ha : a.length ≤ 100000) (hb : b.length ≤ 100000) (hpa : 0 < a.length) (hda : ∀ c ∈ a, 48 ≤ c.toNat ∧ c.toNat ≤ 57) (hdb : ∀ c ∈ b, 48 ≤ c.toNat ∧ c.toNat ≤ 57) (hy : 0 < dgV b) :
    Calls Tryz.prog 29 #[.agg #[.string Sa, .string Sb]] w (FracPost (mkRat (dgV a : Nat) (dgV b)) w) := by
  obtain ⟨W0, hW0⟩ : ∃ W0, W0 = (w.alloc (.cells #[.string Sa, .string Sb] 31)).alloc (.cells #[.bool false, .slice none 0 0, .slice none 0 0] 39) := ⟨_, rfl⟩
  have HST0 := Lib.hid (show St w W0 [(w.heap.size, .cells #[.string Sa, .string Sb] 31 (0, 0)), (w.heap.size + 1, .cells #[.bool false, .slice none 0 0, .slice none 0 0] 39 (0, 0))] by rw [hW0]; exact ((St.start w).alloc _ _ rfl).alloc _ _ (by simp))
  have hs0 : W0.heap.size = w.heap.size + 2 := by rw [hW0]; simp
  have HX0 := Lib.hid (show FBox W0 (w.heap.size + 1) from HST0.out.at 1 rfl)
  have hza : Sa.size = a.length := by subst hSa; exact Array.length_toList.symm
  have hzb : Sb.size = b.length := by subst hSb; exact Array.length_toList.symm
  have HD1 := Lib.hid (fun W => rDigits_s Sa a W hSa (by omega) hda)
  have HD2 := Lib.hid (fun W => rDigits_s Sb b W hSb (by omega) hdb)
  have HL := Lib.hid (fun W A5 c5 l5 A6 c6 l6 (h5 : RNatR W A5 c5 l5 (dgV a)) (h6 : RNatR W A6 c6 l6 (dgV b)) => rLowest_any false A5 A6 c5 c6 l5 l6 _ _ W h5 h6 (by have := dgt_len h5 hda; omega) (by have := dgt_len h6 hdb; omega) hy)
  rw [show sg false (dgV a) = ((dgV a : Nat) : Int) from rfl] at HL
  obtain ⟨q, hq⟩ : ∃ q, q = mkRat (dgV a : Nat) (dgV b) := ⟨_, rfl⟩
  rw [← hq] at HL ⊢
  have hp0 : 0 < Sa.size := by omega
  have hc : 48 ≤ Sa[0].toNat := (hda Sa[0] (by subst hSa; exact List.getElem_mem (l := Sa.data.toList) (n := 0) (by simpa using hp0))).1
  have t1 : ((Sa[0].toNat : Int) == 45) = false := by rw [beq_eq_false_iff_ne]; omega
  have t2 : (Sa[0].toNat == 45) = false := by rw [beq_eq_false_iff_ne]; omega
  have t3 : decide ((0 : Int) < (Sa.size : Int)) = true := decide_eq_true (by omega)
  have t4 : decide (0 < Sa.size) = true := decide_eq_true hp0
  have g0 : W0.cell? ⟨w.heap.size, 0, none⟩ = some (.string Sa) := HST0.out.cell 0 0 rfl rfl
  have g1 : W0.cell? ⟨w.heap.size, 1, none⟩ = some (.string Sb) := HST0.out.cell 0 1 rfl rfl
  clear hda hdb hy hq hc hza hzb hSa hSb hpa
  go_enter Tryz.func29, Tryz.ntmps29
  go_wp2_with fail
  rw [← hW0]
  clear hW0
  go_wp2_with fail
  clear g0 g1
  have HKS := Lib.hid (show ∀ X, Below W0.heap.size W0 X → (fun X => Below W0.heap.size W0 X ∧ X.cell? ⟨w.heap.size, 1, none⟩ = some (.string Sb)) X from fun X hX => ⟨hX, (HST0.out.call hX).cell 0 1 rfl rfl⟩)
  refine wp_region_last (init := #[_, _, _, _, _, _, _]) (last := _) rfl (by kernel_rfl) (by kernel_rfl) (by kernel_rfl) ?_
  show wpAny _ _ _ _ 7 (Array.replicate 7 false) _ _
  refine wpAny_of_held (S := (fun X => Below W0.heap.size W0 X ∧ X.cell? ⟨w.heap.size, 1, none⟩ = some (.string Sb))) _ _ _ _ ?_
  have HS0 := HKS.out _ (Below.refl _ W0).drew
  refine wpAnyH_take (i := 0) (v := ?_) rfl (by kernel_rfl) (by kernel_rfl) (by kernel_rfl) (fun _ _ _ h => h) (Or.inl ⟨by rfl, ?_⟩) HS0 ?_
  rotate_left
  · intro W hW; (try dsimp only at hW); go_simp; try (with_reducible rfl)
  (try simp only [List.getElem_toArray, List.getElem_cons_succ, List.getElem_cons_zero, Act.put, List.setIfInBounds_toArray, List.set_cons_zero, List.set_cons_succ])
  refine wpAnyH_take (i := 1) (v := ?_) rfl (by kernel_rfl) (by kernel_rfl) (by kernel_rfl) (fun _ _ _ h => h) (Or.inl ⟨by rfl, ?_⟩) HS0 ?_
  rotate_left
  · intro W hW; (try dsimp only at hW); go_simp; try (with_reducible rfl)
  (try simp only [List.getElem_toArray, List.getElem_cons_succ, List.getElem_cons_zero, Act.put, List.setIfInBounds_toArray, List.set_cons_zero, List.set_cons_succ])
  refine wpAnyH_take (i := 3) (v := ?_) rfl (by kernel_rfl) (by kernel_rfl) (by kernel_rfl) (fun _ _ _ h => h) (Or.inl ⟨by rfl, ?_⟩) HS0 ?_
  rotate_left
  · intro W hW; (try dsimp only at hW); go_simp; try (with_reducible rfl)
  (try simp only [List.getElem_toArray, List.getElem_cons_succ, List.getElem_cons_zero, Act.put, List.setIfInBounds_toArray, List.set_cons_zero, List.set_cons_succ])
  refine wpAnyH_take (i := 4) (v := ?_) rfl (by kernel_rfl) (by kernel_rfl) (by kernel_rfl) (fun _ _ _ h => h) (Or.inl ⟨by rfl, ?_⟩) HS0 ?_
  rotate_left
  · intro W hW; (try dsimp only at hW); go_simp; try (with_reducible rfl)
  (try simp only [List.getElem_toArray, List.getElem_cons_succ, List.getElem_cons_zero, Act.put, List.setIfInBounds_toArray, List.set_cons_zero, List.set_cons_succ])
  refine run_one (i := 2) (by kernel_rfl) rfl rfl ?_
  intro K hK
  go_simp
  refine (HD1.out _).mono ?_
  rintro e w5 ⟨A5, c5, l5, rfl, hn5, hb5⟩
  refine hK.out _ _ (HKS.out _ (below_next HS0.1 hb5)) ?_
  clear hK K
  have HSP := HS0
  clear HS0
  intro HS0
  refine run_one (i := 5) (by kernel_rfl) rfl rfl ?_
  intro K hK
  go_simp
  refine (HD2.out _).mono ?_
  rintro e w6 ⟨A6, c6, l6, rfl, hn6, hb6⟩
  refine hK.out _ _ (HKS.out _ (below_next HS0.1 hb6)) ?_
  clear hK K
  have HSP := HS0
  clear HS0
  intro HS0
  refine run_one (i := 6) (by kernel_rfl) rfl rfl ?_
  intro K hK
  go_simp
  refine (HL.out _ A5 c5 l5 A6 c6 l6 (hn5.on hb6) hn6).mono ?_
  rintro e w7 ⟨v7, rfl, hv7, hb7⟩
  refine hK.out _ _ (HKS.out _ (below_next HS0.1 hb7)) ?_
  clear hK K
  have HSP := HS0
  clear HS0
  intro HS0
  refine wpAnyH_done (by kernel_rfl) ?_ _
  simp only [LastQ]
  have HF := Lib.hid (fun W (hf : Fr (fun i => i = w.heap.size + 1) w7 W) => frac_ret2 (HX0.out.on HS0.1) hv7 (below_next HST0.out.below HS0.1) (by omega) hf)
  obtain ⟨k0, k1, k2, z0, z1, z2, hlt⟩ := (HX0.out.on HS0.1).facts
  obtain ⟨A8, c8, l8, A9, c9, l9, rfl, _, _⟩ := hv7
  clear HS0 hb5 hb6 hb7 hn5 hn6
  go_simp
  go_wp2
  refine bodyPost_ret (v := .agg #[.bool (frS q), .slice A8 l8.length c8, .slice A9 l9.length c9]) (by simp [results, Tryz.results29, go_sem, k0, k1, k2]) rfl ⟨_, rfl, HF.out _ (fr3 _ _ _)⟩
theorem rFromRat_any (a b : List UInt8) (w : World) (ha : a.length ≤ 100000) (hb : b.length ≤ 100000) (hpa : 0 < a.length) (hda : ∀ c ∈ a, 48 ≤ c.toNat ∧ c.toNat ≤ 57) (hdb : ∀ c ∈ b, 48 ≤ c.toNat ∧ c.toNat ≤ 57) (hy : 0 < dgV b) :
    Calls Tryz.prog 29 #[.agg #[.string ⟨a.toArray⟩, .string ⟨b.toArray⟩]] w (FracPost (mkRat (dgV a : Nat) (dgV b)) w) :=
  rFromRat_s ⟨a.toArray⟩ ⟨b.toArray⟩ a b w rfl rfl ha hb hpa hda hdb hy
end Go.Proofs.YtepfmoaihhonlaaGreatDoor

/- Package dynamometerlaw7: area: the area of a whole line, as a fraction. -/
namespace Go.Proofs.YtepfmoaihhonlaaGreatDoor
open Go Go.RowKit Go.Proofs

theorem areaP_q {l : List (Int × Int × Int)} (hok : OkL l) {t : Int} (h0 : 0 ≤ t) (h1 : t ≤ lenS l) : areaP l t = ratQ (arQ l t) ∧ frS (arQ l t) = false ∧ frN (arQ l t) < W64 ^ 4 ∧ (arQ l t).den < W64 ^ 4 := by
  obtain ⟨k, rfl⟩ : ∃ k : Nat, t = k := ⟨t.toNat, by omega⟩
  have e : arQ l k = (((place l k).2.1.num (place l k).1 (place l k).2.2 : Nat) : Rat) / (((place l k).2.1.den : Nat) : Rat) := by
    have h := arQ_plQ l 0 k (ne_of_ok hok) hok.ok (by omega)
    have h0 : (((0 : Nat) : Rat) / 2000000000) = 0 := by rw [Rat.div_def, show ((0 : Nat) : Rat) = 0 from rfl, Rat.zero_mul]
    rw [h0, Rat.zero_add] at h
    rw [h]; rfl
  obtain ⟨_, h3, h4, h5⟩ := upto_small hok k
  have hd : 0 < (place l k).2.1.den := by unfold Stg.den; omega
  obtain ⟨g1, g2, g3⟩ := rat_low ((place l k).2.1.num (place l k).1 (place l k).2.2) _ hd
  have hr : rngC l k = 0 := rngC_ok hok.code h0 h1
  refine ⟨?_, by rw [e]; exact g1, by rw [e, g2]; exact Nat.lt_of_le_of_lt (Nat.div_le_self _ _) h5, by rw [e, g3]; exact Nat.lt_of_le_of_lt (Nat.div_le_self _ _) h4⟩
  unfold areaP
  rw [if_neg (by omega), e, ratQ_div _ _ hd]
  rfl
theorem W4_T : W64 ^ 4 ≤ T4 ^ 20 := by unfold W64 T4; decide
theorem W4_10 : W64 ^ 4 ≤ 10 ^ 78 := by unfold W64; decide
/-- what the two texts of a fraction are good for -/
structure RatT (p : List UInt8 × List UInt8) (q : Rat) : Prop where
  l1 : 1 ≤ p.1.length ∧ p.1.length ≤ 78
  l2 : 1 ≤ p.2.length ∧ p.2.length ≤ 78
  d1 : ∀ c ∈ p.1, 48 ≤ c.toNat ∧ c.toNat ≤ 57
  d2 : ∀ c ∈ p.2, 48 ≤ c.toNat ∧ c.toNat ≤ 57
  pos : 0 < dgV p.2
  val : mkRat (dgV p.1 : Nat) (dgV p.2) = q
  sz : Sz 20 q
theorem ratT_of {q : Rat} (hs : frS q = false) (h1 : frN q < W64 ^ 4) (h2 : q.den < W64 ^ 4) : RatT (ratQ q) q := by
  refine ⟨⟨dec_len_pos _, dec_le (by omega) (Nat.lt_of_lt_of_le h1 W4_10)⟩, ⟨dec_len_pos _, dec_le (by omega) (Nat.lt_of_lt_of_le h2 W4_10)⟩, (dec_val _).2, (dec_val _).2, ?_, ?_, Nat.lt_of_lt_of_le h1 W4_T, Nat.lt_of_lt_of_le h2 W4_T⟩
  · show 0 < dgV (Lib.decDigits q.den)
    rw [(dec_val _).1]; exact q.den_pos
  · show mkRat (dgV (Lib.decDigits (frN q)) : Nat) (dgV (Lib.decDigits q.den)) = q
    rw [(dec_val _).1, (dec_val _).1]
    have h := fr_eq q
    rw [hs] at h
    exact h
theorem areaT {l : List (Int × Int × Int)} (hok : OkL l) {t : Int} (h0 : 0 ≤ t) (h1 : t ≤ lenS l) : RatT (areaP l t) (arQ l t) := by
  obtain ⟨e, g1, g2, g3⟩ := areaP_q hok h0 h1
  rw [e]; exact ratT_of g1 g2 g3
theorem wholeT {l : List (Int × Int × Int)} (hok : OkL l) : RatT (areaP l (lenS l)) (whA l) := by
  have h := areaT hok (lenS_nn hok.ok) (Int.le_refl _)
  rw [arQ_all hok.ok (Int.le_refl _)] at h
  exact h

set_option maxHeartbeats 4000000 in
set_option maxRecDepth 100000 in
theorem lawArea_any (A : Option Addr) (c : Nat) (l : List (Int × Int × Int)) (w : World) (hr : Rd w 0 w.heap.size 3 A l.length (cells3 l)) (hok : OkL l) (htab : Tab w.heap.size w) :
    Calls Tryz.prog 20 #[.slice A l.length c] w fun e w' => ∃ v, e = .returned (.tuple #[v, .bool true]) ∧ FracR w' v (whA l) ∧ Below w.heap.size w w' := by
  have hT := wholeT hok
  have hle := hok.le
  have HLN := Lib.hid (fun (W : World) (hb : Below w.heap.size w W) => lLength_any A c l W (hr.old hb) (by omega))
  have HAR := Lib.hid (fun (W : World) (hb : Below w.heap.size w W) => lArea_any A c l (lenS l) W (hr.old hb) (by omega) (by have := hok.sum; omega) ((htab.on hb).mono hb.size))
  rw [show codeS l = 0 from hok.code, show lengthV l = lenS l from by unfold lengthV; rw [if_neg (by rw [hok.code]; omega)]] at HLN
  rw [rngC_ok hok.code (lenS_nn hok.ok) (Int.le_refl _)] at HAR
  have HQ := Lib.hid hT
  have h1 := hT.l1
  have h2 := hT.l2
  have hne : (areaP l (lenS l)).2 ≠ [48] := fun e => by have := hT.pos; rw [e] at this; simp [dgV] at this
  have HFR := Lib.hid (fun W => rFromRat_any (areaP l (lenS l)).1 (areaP l (lenS l)).2 W (by omega) (by omega) (by omega) hT.d1 hT.d2 hT.pos)
  rw [hT.val] at HFR
  obtain ⟨q, hq⟩ : ∃ q, q = whA l := ⟨_, rfl⟩
  obtain ⟨n, hn⟩ : ∃ n, n = lenS l := ⟨_, rfl⟩
  obtain ⟨sa, hsa⟩ : ∃ s : ByteArray, s = ⟨(areaP l (lenS l)).1.toArray⟩ := ⟨_, rfl⟩
  obtain ⟨sb, hsb⟩ : ∃ s : ByteArray, s = ⟨(areaP l (lenS l)).2.toArray⟩ := ⟨_, rfl⟩
  unfold ratOf at HAR
  rw [← hsa, ← hsb] at HFR HAR
  have hla : sa.size = (areaP l (lenS l)).1.length := by rw [hsa]; simp [ByteArray.size]
  have hlb : sb.size = (areaP l (lenS l)).2.length := by rw [hsb]; simp [ByteArray.size]
  have ha1 : 1 ≤ sa.size := by omega
  have ha2 : sa.size ≤ 78 := by omega
  have hb1 : 1 ≤ sb.size := by omega
  have hb2 : sb.size ≤ 78 := by omega
  have e1 : sb ≠ ⟨#[]⟩ := fun e => by rw [e] at hb1; simp [ByteArray.size] at hb1
  have e2 : sb ≠ ⟨#[48]⟩ := fun e => hne (by rw [e] at hsb; have := congrArg (fun x : ByteArray => x.data.toList) hsb; simpa using this.symm)
  have f1 : sb.toList.isEmpty = false := by
    rw [ByteArray.toList_eq, List.isEmpty_eq_false_iff]
    intro e; exact e1 (by cases sb; simp_all)
  have f2 : (sb.toList == [48]) = false := by
    rw [ByteArray.toList_eq, beq_eq_false_iff_ne]
    intro e; exact e2 (by cases sb; simp only at e; congr 1; exact Array.toList_inj.1 e)
  have f3 : decide ((100 : Int) < (sa.size : Int)) = false := decide_eq_false (by omega)
  have f4 : decide ((100 : Int) < (sb.size : Int)) = false := decide_eq_false (by omega)
  have f5 : ((sa.size : Int) == 0) = false := by rw [beq_eq_false_iff_ne]; omega
  have f6 : decide (100 < sa.size) = false := decide_eq_false (by omega)
  have f7 : decide (100 < sb.size) = false := decide_eq_false (by omega)
  have f8 : (sa.size == 0) = false := by rw [beq_eq_false_iff_ne]; omega
  rw [← hq] at HFR ⊢
  rw [← hn] at HLN HAR
  clear hsa hsb hq hn hla hlb hne h1 h2 HQ hT hok hr htab e1 e2
  obtain ⟨W0, hW0⟩ : ∃ W0, W0 = w.alloc (.cells #[.bool false, .slice none 0 0, .slice none 0 0] 39) := ⟨_, rfl⟩
  have HB0 := Lib.hid (show Below w.heap.size w W0 by rw [hW0]; exact (Below.refl _ w).alloc (Nat.le_refl _) _)
  have HX0 := Lib.hid (show FBox W0 w.heap.size by rw [hW0]; exact alloc_at _ _ _ rfl)
  go_enter Tryz.func20, Tryz.ntmps20
  go_wp2_with fail
  rw [← hW0]
  clear hW0
  (with_reducible refine (HLN.out W0 HB0.out).mono ?_)
  rintro e w1 ⟨rfl, hb1'⟩
  have HB1 := Lib.hid (below_next HB0.out hb1')
  have HX1 := Lib.hid (HX0.out.on hb1')
  clear hb1'
  go_wp2_with fail
  (with_reducible refine (HAR.out w1 HB1.out).mono ?_)
  rintro e w2 ⟨rfl, hb2'⟩
  have HB2 := Lib.hid (below_next HB1.out hb2')
  have HX2 := Lib.hid (HX1.out.on hb2')
  clear hb2'
  go_wp2_with fail
  (with_reducible refine (HFR.out _).mono ?_)
  rintro e w3 ⟨v, rfl, hv, hb3⟩
  have hb3' : Below w2.heap.size w2 w3 := below_next ((Below.refl _ w2).alloc (Nat.le_refl _) _) hb3
  have HF := Lib.hid (fun W (hf : Fr (fun i => i = w.heap.size) w3 W) => frac_ret2 (HX2.out.on hb3') hv (below_next HB2.out hb3') (Nat.le_refl _) hf)
  obtain ⟨k0, k1, k2, z0, z1, z2, hlt⟩ := (HX2.out.on hb3').facts
  obtain ⟨A5, c5, l5, A6, c6, l6, rfl, _, _⟩ := hv
  clear hb3 hb3'
  go_wp2
  refine bodyPost_ret (v := .tuple #[.agg #[.bool (frS q), .slice A5 l5.length c5, .slice A6 l6.length c6], .bool true]) (by simp [results, Tryz.results20, go_sem, k0, k1, k2]) rfl ⟨_, rfl, HF.out _ (fr3 _ _ _)⟩
end Go.Proofs.YtepfmoaihhonlaaGreatDoor
