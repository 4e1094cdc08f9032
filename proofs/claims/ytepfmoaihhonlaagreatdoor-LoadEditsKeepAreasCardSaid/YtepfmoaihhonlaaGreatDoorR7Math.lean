/- Areas and arrivals over fractions and over numbers of parts: plain. -/
import Derived.Test.YtepfmoaihhonlaaGreatDoorGFrac
import Derived.Test.YtepfmoaihhonlaaGreatDoorR7Reach
import Derived.Test.YtepfmoaihhonlaaGreatDoorLoadNum
namespace Go.Proofs.YtepfmoaihhonlaaGreatDoor

/-- the area up to a time, stage by stage -/
def arQ : List (Int × Int × Int) → Int → Rat
  | [], _ => 0
  | s :: r, t => if 0 < t then stA s (min s.1 t) + arQ r (t - s.1) else 0
theorem arQ_le (l : List (Int × Int × Int)) {t : Int} (h : t ≤ 0) : arQ l t = 0 := by
  cases l with
  | nil => rfl
  | cons s r => rw [arQ, if_neg (by omega)]
theorem accR_arQ (l : List (Int × Int × Int)) (t : Int) : ∀ k, k ≤ l.length → (∀ j, j < k → lenS (l.take j) < t) → accR l t k + arQ (l.drop k) (t - lenS (l.take k)) = arQ l t
  | 0, _, _ => by simp [accR, lenS, Rat.zero_add]
  | k + 1, hk, hj => by
    rw [← accR_arQ l t k (by omega) (fun j h => hj j (by omega))]
    have h1 := hj k (by omega)
    obtain ⟨s, hs⟩ : ∃ s, l[k]? = some s := ⟨l[k]'(by omega), List.getElem?_eq_getElem (by omega)⟩
    have hd : l.drop k = s :: l.drop (k + 1) := by
      rw [List.drop_eq_getElem_cons (by omega)]
      congr 1
      rw [List.getElem?_eq_getElem (by omega)] at hs
      exact Option.some.inj hs
    have ht : lenS (l.take (k + 1)) = lenS (l.take k) + s.1 := by
      rw [List.take_add_one, hs]; simp [lenS]
    rw [hd, arQ, if_pos (by omega), accR, hs, ht, Rat.add_assoc]
    rw [show t - lenS (l.take k) - s.1 = t - (lenS (l.take k) + s.1) from by omega]
    rfl
theorem nat_sub {a b : Nat} (h : b ≤ a) : ((a - b : Nat) : Rat) = (a : Rat) - (b : Rat) := by
  have : ((a - b + b : Nat) : Rat) = (a : Rat) := by rw [Nat.sub_add_cancel h]
  rw [Rat.natCast_add] at this
  grind
/-- the value of a place -/
def plQ (p : Nat × Stg × Nat) : Rat := ((p.2.1.num p.1 p.2.2 : Nat) : Rat) / ((p.2.1.den : Nat) : Rat)
theorem natR_ne {n : Nat} (h : 0 < n) : (n : Rat) ≠ 0 := fun h' => by
  have := Rat.natCast_inj.1 (show ((n : Nat) : Rat) = ((0 : Nat) : Rat) from h')
  omega
theorem int_toNat {z : Int} (h : 0 ≤ z) : (z : Rat) = ((z.toNat : Nat) : Rat) := by
  conv => lhs; rw [← Int.toNat_of_nonneg h]
  rfl
theorem num_add (ah : Nat) (s : Stg) {x : Nat} (hx : x ≤ s.F) : s.num ah x = ah * s.F + s.num 0 x := by
  have hf := num_fine (ah := 0) (s := s) hx
  unfold Stg.num
  split <;> omega
/-- the parts behind a place, over fractions -/
theorem num0_rat {F a b x : Nat} (hx : x ≤ F) : ((Stg.num 0 ⟨F, a, b⟩ x : Nat) : Rat) = 2 * (F : Rat) * a * x + ((b : Rat) - a) * x * x := by
  have hf := num_fine (ah := 0) (s := ⟨F, a, b⟩) hx
  by_cases hc : a ≤ b
  · have e : Stg.num 0 ⟨F, a, b⟩ x = 0 * F + 2 * F * a * x + (b - a) * x * x := if_pos hc
    rw [e]
    simp only [Rat.natCast_add, Rat.natCast_mul, nat_sub hc]
    have : ((2 : Nat) : Rat) = 2 := rfl
    have : ((0 : Nat) : Rat) = 0 := rfl
    grind
  · have e : Stg.num 0 ⟨F, a, b⟩ x = 0 * F + 2 * F * a * x - (a - b) * x * x := if_neg hc
    rw [e, nat_sub hf]
    simp only [Rat.natCast_add, Rat.natCast_mul, nat_sub (show b ≤ a by omega)]
    have : ((2 : Nat) : Rat) = 2 := rfl
    have : ((0 : Nat) : Rat) = 0 := rfl
    grind
theorem plQ_stage {ah : Nat} {s : Int × Int × Int} (h : OkS s) {x : Int} (h0 : 0 ≤ x) (hx : x ≤ s.1) : (ah : Rat) / 2000000000 + stA s x = plQ (ah, toStg s, x.toNat) := by
  obtain ⟨F, a, b⟩ := s
  obtain ⟨m1, m2, m3, m4, m5, m6⟩ := h
  simp only at m1 m2 m3 m4 m5 m6 hx
  have hF : ((F.toNat : Nat) : Rat) ≠ 0 := natR_ne (by omega)
  have e1 : (x : Rat) = ((x.toNat : Nat) : Rat) := int_toNat h0
  have e2 : (a : Rat) = ((a.toNat : Nat) : Rat) := int_toNat m3
  have e3 : (b : Rat) = ((b.toNat : Nat) : Rat) := int_toNat m5
  have hn := num0_rat (F := F.toNat) (a := a.toNat) (b := b.toNat) (x := x.toNat) (by omega)
  have hs := num_add ah (toStg (F, a, b)) (x := x.toNat) (by show x.toNat ≤ F.toNat; omega)
  have hp : plQ (ah, toStg (F, a, b), x.toNat) = (((toStg (F, a, b)).num ah x.toNat : Nat) : Rat) / ((2 * F.toNat * 1000000000 : Nat) : Rat) := rfl
  rw [hp, hs]
  unfold stA
  simp only [Rat.mkRat_eq_div, Rat.intCast_sub, e1, e2, e3, Rat.natCast_add, Rat.natCast_mul]
  have e4 : (toStg (F, a, b)) = ⟨F.toNat, a.toNat, b.toNat⟩ := rfl
  rw [e4, hn]
  simp only []
  generalize ((F.toNat : Nat) : Rat) = f at *
  generalize ((a.toNat : Nat) : Rat) = u at *
  generalize ((b.toNat : Nat) : Rat) = v at *
  generalize ((x.toNat : Nat) : Rat) = z at *
  have : ((2 : Nat) : Rat) = 2 := rfl
  have : ((1 : Int) : Rat) = 1 := rfl
  have : ((1000000000 : Nat) : Rat) = 1000000000 := rfl
  clear hn hs hp e1 e2 e3 e4
  grind
theorem parts_rat (s : Int × Int × Int) (h : OkS s) : plQ (0, toStg s, s.1.toNat) = (((toStg s).parts : Nat) : Rat) / 2000000000 := by
  obtain ⟨F, a, b⟩ := s
  obtain ⟨m1, m2, m3, m4, m5, m6⟩ := h
  simp only at m1 m2 m3 m4 m5 m6
  have hF : ((F.toNat : Nat) : Rat) ≠ 0 := natR_ne (by omega)
  have hn := num0_rat (F := F.toNat) (a := a.toNat) (b := b.toNat) (x := F.toNat) (by omega)
  have hp : plQ (0, toStg (F, a, b), F.toNat) = ((Stg.num 0 ⟨F.toNat, a.toNat, b.toNat⟩ F.toNat : Nat) : Rat) / ((2 * F.toNat * 1000000000 : Nat) : Rat) := rfl
  have hq : (toStg (F, a, b)).parts = (a.toNat + b.toNat) * F.toNat := rfl
  simp only []
  rw [hp, hn, hq]
  simp only [Rat.natCast_add, Rat.natCast_mul]
  generalize ((F.toNat : Nat) : Rat) = f at *
  have : ((2 : Nat) : Rat) = 2 := rfl
  have : ((1000000000 : Nat) : Rat) = 1000000000 := rfl
  clear hn hp hq
  grind
theorem arQ_plQ : ∀ (l : List (Int × Int × Int)) (ah : Nat) (t : Int), l ≠ [] → (∀ s ∈ l, OkS s) → 0 ≤ t → (ah : Rat) / 2000000000 + arQ l t = plQ (loc ah (stgs l) t.toNat)
  | [], _, _, h, _, _ => absurd rfl h
  | [s], ah, t, _, hok, ht => by
    have hs := hok s (by simp)
    have e : loc ah (stgs [s]) t.toNat = (ah, toStg s, (min s.1 t).toNat) := by
      show (ah, toStg s, min t.toNat s.1.toNat) = _
      have := hs.1
      congr 2; omega
    rw [e, ← plQ_stage hs (by have := hs.1; omega) (by omega), arQ]
    split
    · rw [arQ, Rat.add_zero]
    · have h0 : min s.1 t = 0 := by have := hs.1; omega
      rw [h0]
      congr 1
      unfold stA
      have : mkRat 0 1000000000 = 0 := by rfl
      rw [this, Rat.mul_zero]
  | s :: s' :: r, ah, t, _, hok, ht => by
    have hs := hok s (by simp)
    have h1 := hs.1
    have e : loc ah (stgs (s :: s' :: r)) t.toNat = if t.toNat < s.1.toNat then (ah, toStg s, t.toNat) else loc (ah + (toStg s).parts) (stgs (s' :: r)) (t.toNat - s.1.toNat) := rfl
    rw [e]
    by_cases hc : t.toNat < s.1.toNat
    · rw [if_pos hc, ← plQ_stage hs ht (by omega), arQ]
      split
      · rw [arQ_le _ (by omega), Rat.add_zero, show min s.1 t = t from by omega]
      · have h0 : t = 0 := by omega
        rw [h0]
        congr 1
        unfold stA
        have : mkRat 0 1000000000 = 0 := by rfl
        rw [this, Rat.mul_zero]
    · have ih := arQ_plQ (s' :: r) (ah + (toStg s).parts) (t - s.1) (by simp) (fun x hx => hok x (by simp at hx ⊢; right; exact hx)) (by omega)
      rw [if_neg hc, arQ, if_pos (by omega), show min s.1 t = s.1 from by omega, show t.toNat - s.1.toNat = (t - s.1).toNat from by omega, ← ih]
      have g := plQ_stage (ah := 0) hs (x := s.1) (by omega) (by omega)
      rw [parts_rat s hs] at g
      rw [Rat.natCast_add]
      have : ((0 : Nat) : Rat) = 0 := rfl
      grind
theorem frN_div (n d : Nat) (hd : 0 < d) : frN ((n : Rat) / (d : Rat)) / ((n : Rat) / (d : Rat)).den = n / d := by
  have e : (n : Rat) / (d : Rat) = mkRat (sg false n) d := by rw [Rat.mkRat_eq_div]; rfl
  rw [e]
  rcases Nat.eq_zero_or_pos n with rfl | h
  · rw [low_zero]; simp [frN]
  · obtain ⟨_, h2, h3⟩ := low_pos (b := false) h hd
    rw [h2, h3, Nat.div_div_eq_div_mul, Nat.mul_div_cancel' (Nat.gcd_dvd_right n d)]
/-- how many arrivals: the area and a half, rounded down -/
theorem upto_floor {p : Nat × Stg × Nat} (hF : 0 < p.2.1.F) : frN (plQ p + mkRat 1 2) / (plQ p + mkRat 1 2).den = upto p := by
  have hd : 0 < p.2.1.den := by unfold Stg.den; omega
  have e : plQ p + mkRat 1 2 = ((p.2.1.num p.1 p.2.2 * 2 + p.2.1.den : Nat) : Rat) / ((p.2.1.den * 2 : Nat) : Rat) := by
    unfold plQ
    rw [Rat.mkRat_eq_div]
    simp only [Rat.natCast_add, Rat.natCast_mul]
    have := natR_ne hd
    generalize ((p.2.1.den : Nat) : Rat) = f at *
    have : ((2 : Nat) : Rat) = 2 := rfl
    have : ((1 : Int) : Rat) = 1 := rfl
    grind
  rw [e]
  exact frN_div _ _ (by omega)
/-- the area of a whole stage, as first has it -/
def whQ (s : Int × Int × Int) : Rat := mkRat (s.2.1 + s.2.2) 2 * mkRat s.1 1000000000
/-- what first seeks in a stage -/
def wantQ (s : Int × Int × Int) (q bf : Rat) : Rat := (q - bf) * (((2 * s.1 : Int) : Rat) * ((1000000000 : Int) : Rat))
/-- what first returns -/
def fstQ (q bf : Rat) (bg : Int) : List (Int × Int × Int) → Int
  | [] => -1
  | s :: r => if bf + whQ s < q then fstQ q (bf + whQ s) (bg + s.1) r else bg + ((bs (fun x => rchB s.1 s.2.1 s.2.2 (x : Int) (wantQ s q bf)) 64 0 s.1.toNat : Nat) : Int)
theorem whQ_eq (s : Int × Int × Int) (h : OkS s) : whQ s = (((toStg s).parts : Nat) : Rat) / 2000000000 := by
  obtain ⟨F, a, b⟩ := s
  obtain ⟨m1, m2, m3, m4, m5, m6⟩ := h
  simp only at m1 m2 m3 m4 m5 m6
  have hq : (toStg (F, a, b)).parts = (a.toNat + b.toNat) * F.toNat := rfl
  unfold whQ
  rw [hq]
  simp only [Rat.mkRat_eq_div, Rat.intCast_add, int_toNat (show 0 ≤ F by omega), int_toNat m3, int_toNat m5, Rat.natCast_add, Rat.natCast_mul]
  have : ((2 : Nat) : Rat) = 2 := rfl
  have : ((1000000000 : Nat) : Rat) = 1000000000 := rfl
  grind
theorem le_nat {w : Rat} (h : 0 ≤ w) (k : Nat) : frN w ≤ k * w.den ↔ w ≤ (k : Rat) := by
  rw [Rat.le_iff]
  have h1 : w.num = (frN w : Int) := by
    have : 0 ≤ w.num := Rat.num_nonneg.2 h
    unfold frN; omega
  rw [h1, show ((k : Nat) : Rat).num = (k : Int) from rfl, show ((k : Nat) : Rat).den = 1 from rfl, ← Int.natCast_mul, ← Int.natCast_mul, Int.ofNat_le, Nat.mul_one]
theorem rchB_num {F a b : Int} (h : OkS (F, a, b)) {x : Nat} (hx : x ≤ F.toNat) (w : Rat) : rchB F a b x w = decide (frN w ≤ (Stg.num 0 (toStg (F, a, b)) x) * w.den) := by
  obtain ⟨m1, m2, m3, m4, m5, m6⟩ := h
  simp only at m1 m2 m3 m4 m5 m6
  have hf := num_fine (ah := 0) (s := toStg (F, a, b)) (x := x) hx
  have g1 : (2 * F).toNat = 2 * F.toNat := by omega
  unfold rchB
  by_cases hc : a ≤ b
  · rw [if_pos hc]
    have e : Stg.num 0 (toStg (F, a, b)) x = 0 * F.toNat + 2 * F.toNat * a.toNat * x + (b.toNat - a.toNat) * x * x := if_pos (show a.toNat ≤ b.toNat by omega)
    have g2 : lftN F a x = 2 * F.toNat * a.toNat * x := by unfold lftN; rw [g1, Int.toNat_natCast]
    have g3 : sqrN a b x = (b.toNat - a.toNat) * x * x := by unfold sqrN; rw [Int.toNat_natCast, show (max (b - a) (a - b)).toNat = b.toNat - a.toNat from by omega, Nat.mul_assoc]
    rw [e, g2, g3, Nat.zero_mul, Nat.zero_add]
  · rw [if_neg hc]
    have e : Stg.num 0 (toStg (F, a, b)) x = 0 * F.toNat + 2 * F.toNat * a.toNat * x - (a.toNat - b.toNat) * x * x := if_neg (show ¬ a.toNat ≤ b.toNat by omega)
    have g2 : lftN F a x = 2 * F.toNat * a.toNat * x := by unfold lftN; rw [g1, Int.toNat_natCast]
    have g3 : sqrN a b x = (a.toNat - b.toNat) * x * x := by unfold sqrN; rw [Int.toNat_natCast, show (max (b - a) (a - b)).toNat = a.toNat - b.toNat from by omega, Nat.mul_assoc]
    have hf' : (a.toNat - b.toNat) * x * x ≤ 2 * F.toNat * a.toNat * x := by
      have : (a.toNat - b.toNat) * x * x ≤ 0 * F.toNat + 2 * F.toNat * a.toNat * x := hf
      omega
    rw [e, g2, g3, Nat.zero_mul, Nat.zero_add]
    generalize (a.toNat - b.toNat) * x * x = u at *
    generalize 2 * F.toNat * a.toNat * x = v at *
    rw [Nat.sub_mul]
    have hm := Nat.mul_le_mul_right w.den hf'
    apply decide_eq_decide.2
    omega
theorem rchB_atLeast {n d ah : Nat} {s : Int × Int × Int} (h : OkS s) (hd : 0 < d) (hb : ((ah : Nat) : Rat) / 2000000000 ≤ (n : Rat) / (d : Rat)) {x : Nat} (hx : x ≤ s.1.toNat) :
    rchB s.1 s.2.1 s.2.2 x (wantQ s ((n : Rat) / (d : Rat)) ((ah : Rat) / 2000000000)) = decide (atLeast n d (ah, toStg s, x)) := by
  obtain ⟨F, a, b⟩ := s
  rw [rchB_num h hx]
  obtain ⟨m1, m2, m3, m4, m5, m6⟩ := h
  simp only at m1 m2 m3 m4 m5 m6 hx
  have hF : ((F.toNat : Nat) : Rat) ≠ 0 := natR_ne (by omega)
  have hF0 : (0 : Rat) ≤ ((F.toNat : Nat) : Rat) := Rat.natCast_nonneg
  have hD := natR_ne hd
  have hD0 : (0 : Rat) < (d : Rat) := Rat.natCast_pos.2 hd
  have ew : wantQ (F, a, b) ((n : Rat) / (d : Rat)) ((ah : Rat) / 2000000000) = ((n : Rat) / (d : Rat) - (ah : Rat) / 2000000000) * (2000000000 * ((F.toNat : Nat) : Rat)) := by
    unfold wantQ
    simp only [Rat.intCast_mul, int_toNat (show 0 ≤ F by omega)]
    have : ((2 : Int) : Rat) = 2 := rfl
    have : ((1000000000 : Int) : Rat) = 1000000000 := rfl
    grind
  have hw : 0 ≤ wantQ (F, a, b) ((n : Rat) / (d : Rat)) ((ah : Rat) / 2000000000) := by
    rw [ew]
    refine Rat.mul_nonneg ?_ (Rat.mul_nonneg (by decide) hF0)
    grind
  apply decide_eq_decide.2
  rw [le_nat hw]
  unfold atLeast
  have e1 : (toStg (F, a, b)).num ah x = ah * F.toNat + Stg.num 0 (toStg (F, a, b)) x := num_add ah (toStg (F, a, b)) hx
  have e2 : (toStg (F, a, b)).den = 2 * F.toNat * 1000000000 := rfl
  simp only
  rw [e1, e2, ← Rat.natCast_le_natCast, ew]
  simp only [Rat.natCast_add, Rat.natCast_mul]
  have k2 : ((2 : Nat) : Rat) = 2 := rfl
  have k9 : ((1000000000 : Nat) : Rat) = 1000000000 := rfl
  rw [k2, k9]
  generalize ((Stg.num 0 (toStg (F, a, b)) x : Nat) : Rat) = N0
  generalize ((F.toNat : Nat) : Rat) = f at *
  generalize ((ah : Nat) : Rat) = g at *
  have k1 : (n : Rat) / (d : Rat) * (d : Rat) = n := by grind
  have k3 : ((n : Rat) * (2 * f * 1000000000) ≤ (g * f + N0) * (d : Rat)) ↔ ((n : Rat) / (d : Rat) * (2 * f * 1000000000) ≤ g * f + N0) := by
    have k5 : (n : Rat) * (2 * f * 1000000000) = (n : Rat) / (d : Rat) * (2 * f * 1000000000) * d := by
      generalize 2 * f * 1000000000 = z
      rw [Rat.mul_assoc, Rat.mul_comm z (d : Rat), ← Rat.mul_assoc, k1]
    rw [k5]
    exact ⟨fun h => Rat.le_of_mul_le_mul_right h hD0, fun h => Rat.mul_le_mul_of_nonneg_right h (Rat.le_of_lt hD0)⟩
  rw [k3]
  constructor
  · intro h; grind
  · intro h; grind
theorem bs_congr {p p' : Nat → Bool} : ∀ (f lo hi : Nat), (∀ x, x ≤ hi → p x = p' x) → bs p f lo hi = bs p' f lo hi
  | 0, _, _, _ => rfl
  | f + 1, lo, hi, h => by
    unfold bs
    split
    · rw [h ((lo + hi) / 2) (by omega), bs_congr f lo ((lo + hi) / 2) (fun x hx => h x (by omega)), bs_congr f ((lo + hi) / 2 + 1) hi h]
    · rfl
/-- first by fractions is first by numbers of parts -/
theorem fstQ_fst {n d : Nat} (hd : 0 < d) : ∀ (l : List (Int × Int × Int)) (ah bg : Nat), (∀ s ∈ l, OkS s) → ((ah : Nat) : Rat) / 2000000000 ≤ (n : Rat) / (d : Rat) →
    fstQ ((n : Rat) / (d : Rat)) ((ah : Rat) / 2000000000) bg l = (match fst n d ah bg (stgs l) with | none => -1 | some T => (T : Int))
  | [], _, _, _, _ => rfl
  | s :: r, ah, bg, hok, hb => by
    have hs := hok s (by simp)
    have hD0 : (0 : Rat) < (d : Rat) := Rat.natCast_pos.2 hd
    have hD := natR_ne hd
    have e : fst n d ah bg (stgs (s :: r)) = if (ah + (toStg s).parts) * d < n * 2000000000 then fst n d (ah + (toStg s).parts) (bg + (toStg s).F) (stgs r) else some (bg + bs (fun x => decide (atLeast n d (ah, toStg s, x))) 64 0 (toStg s).F) := rfl
    have hw : (ah : Rat) / 2000000000 + whQ s = ((ah + (toStg s).parts : Nat) : Rat) / 2000000000 := by
      rw [whQ_eq s hs, Rat.natCast_add]; grind
    have hc : ((ah : Rat) / 2000000000 + whQ s < (n : Rat) / (d : Rat)) ↔ ((ah + (toStg s).parts) * d < n * 2000000000) := by
      rw [hw, ← Rat.natCast_lt_natCast]
      simp only [Rat.natCast_mul]
      generalize ((ah + (toStg s).parts : Nat) : Rat) = g
      have k2 : ((2000000000 : Nat) : Rat) = 2000000000 := rfl
      have k1 : (n : Rat) / (d : Rat) * (d : Rat) = n := by grind
      rw [k2]
      have k5 : (n : Rat) * 2000000000 = (n : Rat) / (d : Rat) * 2000000000 * d := by
        rw [Rat.mul_assoc, Rat.mul_comm 2000000000 (d : Rat), ← Rat.mul_assoc, k1]
      rw [k5]
      constructor
      · intro h
        exact Rat.mul_lt_mul_of_pos_right (by grind) hD0
      · intro h
        have := Rat.lt_of_mul_lt_mul_right h (Rat.le_of_lt hD0)
        grind
    rw [e, fstQ]
    by_cases hlt : (ah + (toStg s).parts) * d < n * 2000000000
    · rw [if_pos hlt, if_pos (hc.2 hlt), hw]
      have := fstQ_fst hd r (ah + (toStg s).parts) (bg + (toStg s).F) (fun x hx => hok x (by simp [hx])) (by rw [← hw]; exact Rat.le_of_lt (hc.2 hlt))
      rw [← this]
      congr 1
      show (bg : Int) + s.1 = ((bg + s.1.toNat : Nat) : Int)
      have := hs.1
      omega
    · rw [if_neg hlt, if_neg (fun h => hlt (hc.1 h))]
      have := bs_congr (p := fun x => rchB s.1 s.2.1 s.2.2 (x : Int) (wantQ s ((n : Rat) / (d : Rat)) ((ah : Rat) / 2000000000))) (p' := fun x => decide (atLeast n d (ah, toStg s, x))) 64 0 s.1.toNat (fun x hx => rchB_atLeast hs hd hb hx)
      rw [this]
      rfl
end Go.Proofs.YtepfmoaihhonlaaGreatDoor
