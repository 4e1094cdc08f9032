import Derived.Test.YtlkjgjojahjapaaGreatDoorJBin
import Derived.Test.YtlkjgjojahjapaaGreatDoorG28
import Derived.Test.YtlkjgjojahjapaaGreatDoorG0
/- Package dynamometerlaw10: same, halves. -/
namespace Go.Proofs.YtlkjgjojahjapaaGreatDoor
open Go Go.RowKit Go.Proofs

set_option maxHeartbeats 8000000 in
set_option maxRecDepth 100000 in
theorem halves_any (w : World) (htab : Tab w.heap.size w) :
    Calls Tryz.prog 11 #[] w fun e w' => e = .returned (.bool true) ∧ Below w.heap.size w w' := by
  have HB := Lib.hid (jBinomial_any ⟨#[49]⟩ ⟨#[50]⟩ [49] [50] 3 1 w rfl rfl (by decide) (by decide) (by omega) (by omega) htab)
  rw [bin_half.1, bin_half.2] at HB
  rw [show ratOf ([49], [50]) = .agg #[.string ⟨#[49]⟩, .string ⟨#[50]⟩] from rfl] at HB
  have HF := Lib.hid (fun W (hb : Below w.heap.size w W) o => (show Below w.heap.size w (W.alloc o) from hb.alloc hb.size _))
  go_enter Tryz.func11, Tryz.ntmps11
  go_wp2_with fail
  (with_reducible refine (HB.out).mono ?_)
  rintro e w1 ⟨rfl, hb1⟩
  have HB1 := Lib.hid hb1
  clear hb1
  go_wp2
  go_ret
  exact ⟨by rfl, HF.out _ HB1.out _⟩
end Go.Proofs.YtlkjgjojahjapaaGreatDoor

/- Trials of package judge: plain. -/
namespace Go.Proofs.YtlkjgjojahjapaaGreatDoor
open Go

/-- the ratio of likelihoods of f failures of n, above and below -/
def trU (p q : Rat) (n f : Nat) : Nat := (frN q * p.den) ^ f * ((q.den - frN q) * p.den) ^ (n - f)
def trD (p q : Rat) (n f : Nat) : Nat := (frN p * q.den) ^ f * ((p.den - frN p) * q.den) ^ (n - f)
/-- high, low -/
def hiT (r : Rat) (u d : Nat) : Bool := decide (d * r.den ≤ u * frN r)
def loT (r : Rat) (u d : Nat) : Bool := decide (u * r.den ≤ d * frN r)
/-- what the ratio says -/
def verT (r0 r1 : Rat) (u d : Nat) : Int := if hiT r0 u d = true then 2 else if loT r1 u d = true then 1 else 3
/-- a common factor does not matter -/
theorem hiT_mul (r : Rat) (u d k : Nat) (hk : 0 < k) : hiT r (u * k) (d * k) = hiT r u d := by
  unfold hiT
  rw [decide_eq_decide, Nat.mul_right_comm d k, Nat.mul_right_comm u k]
  exact Nat.mul_le_mul_right_iff hk
theorem loT_mul (r : Rat) (u d k : Nat) (hk : 0 < k) : loT r (u * k) (d * k) = loT r u d := by
  unfold loT
  rw [decide_eq_decide, Nat.mul_right_comm d k, Nat.mul_right_comm u k]
  exact Nat.mul_le_mul_right_iff hk
theorem verT_mul (r0 r1 : Rat) (u d k : Nat) (hk : 0 < k) : verT r0 r1 (u * k) (d * k) = verT r0 r1 u d := by
  unfold verT; rw [hiT_mul _ _ _ _ hk, loT_mul _ _ _ _ hk]
/-- what a trial's probabilities satisfy -/
structure TrG (p q : Rat) : Prop where
  p0 : 0 < frN p
  p1 : frN p < p.den
  q0 : 0 < frN q
  q1 : frN q < q.den
  lt : frN p * q.den < frN q * p.den
theorem TrG.A {p q : Rat} (h : TrG p q) : 0 < frN q * p.den ∧ 0 < (q.den - frN q) * p.den ∧ 0 < frN p * q.den ∧ 0 < (p.den - frN p) * q.den := by
  have := h.p0; have := h.p1; have := h.q0; have := h.q1
  exact ⟨Nat.mul_pos (by omega) (by omega), Nat.mul_pos (by omega) (by omega), Nat.mul_pos (by omega) (by omega), Nat.mul_pos (by omega) (by omega)⟩
theorem trD_pos {p q : Rat} (h : TrG p q) (n f : Nat) : 0 < trD p q n f := Nat.mul_pos (Nat.pow_pos h.A.2.2.1) (Nat.pow_pos h.A.2.2.2)
theorem tr_cross {p q : Rat} (h : TrG p q) : (frN p * q.den) * ((q.den - frN q) * p.den) ≤ (frN q * p.den) * ((p.den - frN p) * q.den) := by
  have h1 : frN p * (q.den - frN q) ≤ frN q * (p.den - frN p) := by
    rw [Nat.mul_sub, Nat.mul_sub, Nat.mul_comm (frN q) (frN p)]
    have := h.lt
    omega
  calc (frN p * q.den) * ((q.den - frN q) * p.den) = (frN p * (q.den - frN q)) * (q.den * p.den) := by
        rw [Nat.mul_assoc, Nat.mul_assoc, Nat.mul_left_comm q.den]
    _ ≤ (frN q * (p.den - frN p)) * (q.den * p.den) := Nat.mul_le_mul_right _ h1
    _ = (frN q * p.den) * ((p.den - frN p) * q.den) := by
        rw [Nat.mul_assoc, Nat.mul_assoc, Nat.mul_left_comm p.den, Nat.mul_comm q.den p.den]
theorem pow_cross {A A' B B' : Nat} {n f : Nat} (hf : f < n) (h : B * A' ≤ A * B') : (A ^ f * A' ^ (n - f)) * (B ^ (f + 1) * B' ^ (n - (f + 1))) ≤ (A ^ (f + 1) * A' ^ (n - (f + 1))) * (B ^ f * B' ^ (n - f)) := by
  obtain ⟨m, hm⟩ : ∃ m, n - f = m + 1 := ⟨n - f - 1, by omega⟩
  rw [hm, show n - (f + 1) = m by omega, Nat.pow_succ, Nat.pow_succ, Nat.pow_succ, Nat.pow_succ]
  have e1 : (A ^ f * (A' ^ m * A')) * (B ^ f * B * B' ^ m) = (A ^ f * A' ^ m * B ^ f * B' ^ m) * (B * A') := by grind
  have e2 : (A ^ f * A * A' ^ m) * (B ^ f * (B' ^ m * B')) = (A ^ f * A' ^ m * B ^ f * B' ^ m) * (A * B') := by grind
  rw [e1, e2]
  exact Nat.mul_le_mul_left _ h
theorem tr_step {p q : Rat} (h : TrG p q) {n f : Nat} (hf : f < n) : trU p q n f * trD p q n (f + 1) ≤ trU p q n (f + 1) * trD p q n f := pow_cross hf (tr_cross h)
theorem hiT_up {p q r : Rat} (h : TrG p q) {n f : Nat} (hf : f < n) (hh : hiT r (trU p q n f) (trD p q n f) = true) : hiT r (trU p q n (f + 1)) (trD p q n (f + 1)) = true := by
  unfold hiT at *
  simp only [decide_eq_true_eq] at *
  have h1 := tr_step h hf
  have hd := trD_pos h n f
  generalize trU p q n f = u at *
  generalize trD p q n f = d at *
  generalize trU p q n (f + 1) = u' at *
  generalize trD p q n (f + 1) = d' at *
  refine (Nat.mul_le_mul_right_iff hd).1 ?_
  calc d' * r.den * d = d * r.den * d' := by rw [Nat.mul_right_comm, Nat.mul_right_comm d, Nat.mul_comm d']
    _ ≤ u * frN r * d' := Nat.mul_le_mul_right _ hh
    _ = u * d' * frN r := Nat.mul_right_comm _ _ _
    _ ≤ u' * d * frN r := Nat.mul_le_mul_right _ h1
    _ = u' * frN r * d := Nat.mul_right_comm _ _ _
theorem loT_down {p q r : Rat} (h : TrG p q) {n f : Nat} (hf : f < n) (hh : loT r (trU p q n (f + 1)) (trD p q n (f + 1)) = true) : loT r (trU p q n f) (trD p q n f) = true := by
  unfold loT at *
  simp only [decide_eq_true_eq] at *
  have h1 := tr_step h hf
  have hd := trD_pos h n (f + 1)
  generalize trU p q n f = u at *
  generalize trD p q n f = d at *
  generalize trU p q n (f + 1) = u' at *
  generalize trD p q n (f + 1) = d' at *
  refine (Nat.mul_le_mul_right_iff hd).1 ?_
  calc u * r.den * d' = u * d' * r.den := Nat.mul_right_comm _ _ _
    _ ≤ u' * d * r.den := Nat.mul_le_mul_right _ h1
    _ = u' * r.den * d := Nat.mul_right_comm _ _ _
    _ ≤ d' * frN r * d := Nat.mul_le_mul_right _ hh
    _ = d * frN r * d' := by rw [Nat.mul_right_comm, Nat.mul_right_comm d, Nat.mul_comm d']
theorem hiT_mono {p q r : Rat} (h : TrG p q) {n : Nat} : ∀ {f g : Nat}, f ≤ g → g ≤ n → hiT r (trU p q n f) (trD p q n f) = true → hiT r (trU p q n g) (trD p q n g) = true := by
  intro f g
  induction g with
  | zero => intro h1 _ h3; obtain rfl : f = 0 := by omega
            exact h3
  | succ g ih =>
    intro h1 h2 h3
    rcases Nat.eq_or_lt_of_le h1 with e | e
    · subst e; exact h3
    · exact hiT_up h (by omega) (ih (by omega) (by omega) h3)
theorem loT_mono {p q r : Rat} (h : TrG p q) {n : Nat} : ∀ {f g : Nat}, f ≤ g → g ≤ n → loT r (trU p q n g) (trD p q n g) = true → loT r (trU p q n f) (trD p q n f) = true := by
  intro f g
  induction g with
  | zero => intro h1 _ h3; obtain rfl : f = 0 := by omega
            exact h3
  | succ g ih =>
    intro h1 h2 h3
    rcases Nat.eq_or_lt_of_le h1 with e | e
    · subst e; exact h3
    · exact ih (by omega) (by omega) (loT_down h (by omega) h3)
/-- the greatest number of failures that is low, the least one that is high -/
def LoAt (p q r : Rat) (n : Nat) (a : Int) : Prop := -1 ≤ a ∧ a ≤ n ∧ ∀ f : Nat, f ≤ n → ((f : Int) ≤ a ↔ loT r (trU p q n f) (trD p q n f) = true)
def HiAt (p q r : Rat) (n : Nat) (b : Int) : Prop := 0 ≤ b ∧ b ≤ n + 1 ∧ ∀ f : Nat, f ≤ n → (b ≤ f ↔ hiT r (trU p q n f) (trD p q n f) = true)
/-- out of a search -/
theorem LoAt.of {p q r : Rat} (h : TrG p q) {n : Nat} {a : Int} (h1 : -1 ≤ a) (h2 : a ≤ n) (h3 : 0 ≤ a → loT r (trU p q n a.toNat) (trD p q n a.toNat) = true) (h4 : a < n → loT r (trU p q n (a + 1).toNat) (trD p q n (a + 1).toNat) = false) : LoAt p q r n a := by
  refine ⟨h1, h2, fun f hf => ⟨fun hh => ?_, fun hh => ?_⟩⟩
  · exact loT_mono h (f := f) (g := a.toNat) (by omega) (by omega) (h3 (by omega))
  · refine Classical.byContradiction fun hc => ?_
    have := loT_mono h (r := r) (n := n) (f := (a + 1).toNat) (g := f) (by omega) hf hh
    rw [h4 (by omega)] at this
    cases this
theorem HiAt.of {p q r : Rat} (h : TrG p q) {n : Nat} {b : Int} (h1 : 0 ≤ b) (h2 : b ≤ n + 1) (h3 : b ≤ n → hiT r (trU p q n b.toNat) (trD p q n b.toNat) = true) (h4 : 0 < b → hiT r (trU p q n (b - 1).toNat) (trD p q n (b - 1).toNat) = false) : HiAt p q r n b := by
  refine ⟨h1, h2, fun f hf => ⟨fun hh => ?_, fun hh => ?_⟩⟩
  · exact hiT_mono h (f := b.toNat) (g := f) (by omega) hf (h3 (by omega))
  · refine Classical.byContradiction fun hc => ?_
    have := hiT_mono h (r := r) (n := n) (f := f) (g := (b - 1).toNat) (by omega) (by omega) hh
    rw [h4 (by omega)] at this
    cases this
end Go.Proofs.YtlkjgjojahjapaaGreatDoor

/- The errors of a trial: plain. -/
namespace Go.Proofs.YtlkjgjojahjapaaGreatDoor
open Go

def sumF (g : Nat → Nat) : Nat → Nat
  | 0 => 0
  | k + 1 => sumF g k + g k
theorem sumF_congr {g h : Nat → Nat} : ∀ {k : Nat}, (∀ f, f < k → g f = h f) → sumF g k = sumF h k
  | 0, _ => rfl
  | k + 1, hh => by
    unfold sumF
    rw [sumF_congr (fun f hf => hh f (by omega)), hh k (by omega)]
theorem sumF_add (g h : Nat → Nat) : ∀ k, sumF (fun f => g f + h f) k = sumF g k + sumF h k
  | 0 => rfl
  | k + 1 => by unfold sumF; rw [sumF_add g h k]; omega
theorem sumF_mul (g : Nat → Nat) (c : Nat) : ∀ k, sumF (fun f => g f * c) k = sumF g k * c
  | 0 => by simp [sumF]
  | k + 1 => by unfold sumF; rw [sumF_mul g c k, Nat.add_mul]
theorem sumF_le {g h : Nat → Nat} : ∀ {k : Nat}, (∀ f, f < k → g f ≤ h f) → sumF g k ≤ sumF h k
  | 0, _ => Nat.le_refl _
  | k + 1, hh => by
    unfold sumF
    have h1 := sumF_le (g := g) (h := h) (k := k) (fun f hf => hh f (by omega))
    have h2 := hh k (by omega)
    omega
theorem sumF_first (g : Nat → Nat) : ∀ k, sumF g (k + 1) = g 0 + sumF (fun f => g (f + 1)) k
  | 0 => by simp [sumF]
  | k + 1 => by
    have := sumF_first g k
    unfold sumF
    rw [this]
    omega

section
variable (ver : Nat → Nat → Int)
/-- the weights of what goes on -/
def opW (g : Nat → Nat) (n f : Nat) : Nat := if n = 0 ∨ ver n f = 3 then g f else 0
/-- the weights at n results: of each number of failures, in what has gone on so far -/
def wNx (y q : Nat) : Nat → Nat → Nat
  | 0, f => if f = 0 then 1 else 0
  | n + 1, 0 => opW ver (wNx y q n) n 0 * q
  | n + 1, f + 1 => opW ver (wNx y q n) n (f + 1) * q + opW ver (wNx y q n) n f * y
def wOp (y q n f : Nat) : Nat := opW ver (wNx ver y q n) n f
theorem wNx_first (y q n : Nat) : wNx ver y q (n + 1) 0 = wOp ver y q n 0 * q := rfl
theorem wNx_succ (y q n f : Nat) : wNx ver y q (n + 1) (f + 1) = wOp ver y q n (f + 1) * q + wOp ver y q n f * y := rfl
theorem wNx_over (y q : Nat) : ∀ n f, n < f → wNx ver y q n f = 0
  | 0, f, h => by unfold wNx; rw [if_neg (by omega)]
  | n + 1, 0, h => absurd h (by omega)
  | n + 1, f + 1, h => by
    have h1 := wNx_over y q n (f + 1) (by omega)
    have h2 := wNx_over y q n f (by omega)
    rw [wNx_succ]
    unfold wOp opW
    rw [h1, h2]
    simp
theorem wOp_over (y q n f : Nat) (h : n < f) : wOp ver y q n f = 0 := by
  unfold wOp opW; rw [wNx_over ver y q n f h]; simp
theorem wNx_sum (y q n : Nat) : sumF (wNx ver y q (n + 1)) (n + 2) = sumF (wOp ver y q n) (n + 1) * (y + q) := by
  rw [sumF_first]
  have e : sumF (fun f => wNx ver y q (n + 1) (f + 1)) (n + 1) = sumF (fun f => wOp ver y q n (f + 1)) (n + 1) * q + sumF (wOp ver y q n) (n + 1) * y := by
    rw [← sumF_mul, ← sumF_mul, ← sumF_add]
    rfl
  have e2 := sumF_first (wOp ver y q n) (n + 1)
  have e3 : sumF (wOp ver y q n) (n + 1 + 1) = sumF (wOp ver y q n) (n + 1) + wOp ver y q n (n + 1) := rfl
  rw [wOp_over ver y q n (n + 1) (by omega)] at e3
  rw [e, wNx_first]
  have e4 : wOp ver y q n 0 + sumF (fun f => wOp ver y q n (f + 1)) (n + 1) = sumF (wOp ver y q n) (n + 1) := by omega
  rw [Nat.mul_add, ← e4, Nat.add_mul, Nat.add_mul]
  omega
/-- the weights of what ends with a verdict at n results -/
def stW (v : Int) (y q n : Nat) : Nat := sumF (fun f => if ver n f = v then wNx ver y q n f else 0) (n + 1)
/-- .. at n results or earlier, times a power -/
def errW (v : Int) (y q d : Nat) : Nat → Nat
  | 0 => 0
  | n + 1 => errW v y q d n * d + stW ver v y q (n + 1)
theorem errW_succ (v : Int) (y q d n : Nat) : errW ver v y q d (n + 1) = errW ver v y q d n * d + stW ver v y q (n + 1) := rfl
theorem split3 (hv : ∀ n f, ver n f = 1 ∨ ver n f = 2 ∨ ver n f = 3) (y q n : Nat) : sumF (wNx ver y q (n + 1)) (n + 2) = stW ver 2 y q (n + 1) + stW ver 1 y q (n + 1) + sumF (wOp ver y q (n + 1)) (n + 2) := by
  unfold stW
  rw [← sumF_add, ← sumF_add]
  refine sumF_congr fun f _ => ?_
  unfold wOp opW
  rcases hv (n + 1) f with h | h | h <;> simp [h]
/-- nothing is lost -/
theorem err_all (hv : ∀ n f, ver n f = 1 ∨ ver n f = 2 ∨ ver n f = 3) (y q : Nat) : ∀ n, errW ver 2 y q (y + q) n + errW ver 1 y q (y + q) n + sumF (wOp ver y q n) (n + 1) = (y + q) ^ n
  | 0 => by simp [errW, sumF, wOp, opW, wNx]
  | n + 1 => by
    have ih := err_all hv y q n
    have h := split3 ver hv y q n
    rw [wNx_sum] at h
    rw [Nat.pow_succ, ← ih, errW_succ, errW_succ, Nat.add_mul, Nat.add_mul, show n + 1 + 1 = n + 2 from rfl]
    omega
theorem err_le (hv : ∀ n f, ver n f = 1 ∨ ver n f = 2 ∨ ver n f = 3) (v : Int) (h : v = 1 ∨ v = 2) (y q n : Nat) : errW ver v y q (y + q) n ≤ (y + q) ^ n := by
  have := err_all ver hv y q n
  rcases h with rfl | rfl <;> omega
/-- a weight is a number of ways, times powers -/
def wayN : Nat → Nat → Nat := wNx ver 1 1
theorem wNx_ways (y q : Nat) : ∀ n f, wNx ver y q n f = wayN ver n f * (y ^ f * q ^ (n - f))
  | 0, f => by
    unfold wayN wNx
    by_cases h : f = 0
    · subst h; simp
    · simp [h]
  | n + 1, 0 => by
    have ih := wNx_ways y q n 0
    rw [wNx_first]
    unfold wayN
    rw [wNx_first]
    unfold wOp opW
    unfold wayN at ih
    split
    · rw [ih]; simp only [Nat.pow_zero, Nat.one_mul, Nat.sub_zero, Nat.pow_succ, Nat.mul_one]; rw [Nat.mul_assoc]
    · simp
  | n + 1, f + 1 => by
    have i1 := wNx_ways y q n (f + 1)
    have i2 := wNx_ways y q n f
    rw [wNx_succ]
    unfold wayN
    rw [wNx_succ]
    unfold wayN at i1 i2
    have k1 : wOp ver y q n (f + 1) * q = wOp ver 1 1 n (f + 1) * (y ^ (f + 1) * q ^ (n + 1 - (f + 1))) := by
      unfold wOp opW
      split
      · rw [i1]
        rcases Nat.lt_or_ge f n with h | h
        · rw [show n + 1 - (f + 1) = n - (f + 1) + 1 by omega, Nat.pow_succ q, Nat.mul_assoc, Nat.mul_assoc]
        · rw [wNx_over ver 1 1 n (f + 1) (by omega)]; simp
      · simp
    have k2 : wOp ver y q n f * y = wOp ver 1 1 n f * (y ^ (f + 1) * q ^ (n + 1 - (f + 1))) := by
      unfold wOp opW
      split
      · rw [i2, show n + 1 - (f + 1) = n - f by omega, Nat.pow_succ, Nat.mul_assoc, Nat.mul_right_comm (y ^ f)]
      · simp
    rw [k1, k2, Nat.mul_one, Nat.mul_one, Nat.add_mul]
/-- the weights of two probabilities against each other -/
theorem err_cmp {y0 q0 d0 y1 q1 d1 a b : Nat} (v : Int) (h : ∀ n f, f ≤ n → ver n f = v → y0 ^ f * q0 ^ (n - f) * d1 ^ n * b ≤ y1 ^ f * q1 ^ (n - f) * d0 ^ n * a) :
    ∀ n, errW ver v y0 q0 d0 n * d1 ^ n * b ≤ errW ver v y1 q1 d1 n * d0 ^ n * a
  | 0 => by simp [errW]
  | n + 1 => by
    have ih := err_cmp v h n
    have hs : stW ver v y0 q0 (n + 1) * d1 ^ (n + 1) * b ≤ stW ver v y1 q1 (n + 1) * d0 ^ (n + 1) * a := by
      unfold stW
      rw [← sumF_mul, ← sumF_mul, ← sumF_mul, ← sumF_mul]
      refine sumF_le fun f hf => ?_
      by_cases hv : ver (n + 1) f = v
      · simp only [if_pos hv]
        rw [wNx_ways, wNx_ways ver y1]
        have := h (n + 1) f (by omega) hv
        have := Nat.mul_le_mul_left (wayN ver (n + 1) f) this
        calc wayN ver (n + 1) f * (y0 ^ f * q0 ^ (n + 1 - f)) * d1 ^ (n + 1) * b = wayN ver (n + 1) f * (y0 ^ f * q0 ^ (n + 1 - f) * d1 ^ (n + 1) * b) := by simp only [Nat.mul_assoc]
          _ ≤ wayN ver (n + 1) f * (y1 ^ f * q1 ^ (n + 1 - f) * d0 ^ (n + 1) * a) := this
          _ = _ := by simp only [Nat.mul_assoc]
      · simp only [if_neg hv, Nat.zero_mul, Nat.le_refl]
    rw [errW_succ, errW_succ, Nat.add_mul, Nat.add_mul, Nat.add_mul, Nat.add_mul]
    have e1 : errW ver v y0 q0 d0 n * d0 * d1 ^ (n + 1) * b = (errW ver v y0 q0 d0 n * d1 ^ n * b) * (d0 * d1) := by rw [Nat.pow_succ]; grind
    have e2 : errW ver v y1 q1 d1 n * d1 * d0 ^ (n + 1) * a = (errW ver v y1 q1 d1 n * d0 ^ n * a) * (d0 * d1) := by rw [Nat.pow_succ]; grind
    rw [e1, e2]
    have := Nat.mul_le_mul_right (d0 * d1) ih
    omega
end
/-- the verdicts of a trial -/
def verN (p q r0 r1 : Rat) (n f : Nat) : Int := verT r0 r1 (trU p q n f) (trD p q n f)
theorem verN_one (p q r0 r1 : Rat) (n f : Nat) : verN p q r0 r1 n f = 1 ∨ verN p q r0 r1 n f = 2 ∨ verN p q r0 r1 n f = 3 := by
  unfold verN verT
  split
  · exact .inr (.inl rfl)
  · split
    · exact .inl rfl
    · exact .inr (.inr rfl)
/-- the probability of a verdict, if failures have the probability x -/
def errQ (p q r0 r1 x : Rat) (v : Int) (n : Nat) : Rat := mkRat (errW (verN p q r0 r1) v (frN x) (x.den - frN x) x.den n : Nat) (x.den ^ n)
theorem mk_le_of {a d : Nat} {r : Rat} (hd : 0 < d) (hr : frS r = false) (h : a * r.den ≤ frN r * d) : mkRat (a : Nat) d ≤ r := by
  rw [Rat.le_iff, frN_int hr]
  cases hq : mkRat (a : Int) d with
  | mk' n' d' z' c =>
    obtain ⟨m, hm, h1, h2⟩ := Rat.mkRat_num_den (by omega) hq
    show n' * (r.den : Int) ≤ (frN r : Int) * (d' : Int)
    have hmi : (0 : Int) < (m : Int) := by omega
    have h' : (a : Int) * (r.den : Int) ≤ (frN r : Int) * (d : Int) := by exact_mod_cast h
    rw [h1, h2, Int.natCast_mul] at h'
    refine Int.le_of_mul_le_mul_right (?_ : n' * (r.den : Int) * (m : Int) ≤ (frN r : Int) * (d' : Int) * (m : Int)) hmi
    have e1 : n' * (r.den : Int) * (m : Int) = n' * (m : Int) * (r.den : Int) := Int.mul_right_comm _ _ _
    have e2 : (frN r : Int) * (d' : Int) * (m : Int) = (frN r : Int) * ((d' : Int) * (m : Int)) := Int.mul_assoc _ _ _
    rw [e1, e2]
    exact h'
theorem pow_ud {y d q n f : Nat} (hf : f ≤ n) : (y * d) ^ f * (q * d) ^ (n - f) = y ^ f * q ^ (n - f) * d ^ n := by
  rw [Nat.mul_pow, Nat.mul_pow]
  have : d ^ n = d ^ f * d ^ (n - f) := by rw [← Nat.pow_add]; congr 1; omega
  rw [this]; grind
theorem errQ_hi {p q r0 r1 : Rat} (h : TrG p q) (h0 : frS r0 = false) (n : Nat) : errQ p q r0 r1 p 2 n ≤ r0 := by
  unfold errQ
  have hp := h.p1
  have hq := h.q1
  refine mk_le_of (Nat.pow_pos (fr_den p)) h0 ?_
  have h1 := err_cmp (verN p q r0 r1) (y0 := frN p) (q0 := p.den - frN p) (d0 := p.den) (y1 := frN q) (q1 := q.den - frN q) (d1 := q.den) (a := frN r0) (b := r0.den) 2 (fun n f hf hv => by
    have : hiT r0 (trU p q n f) (trD p q n f) = true := by
      unfold verN verT at hv
      refine Classical.byContradiction fun hc => ?_
      rw [if_neg hc] at hv
      split at hv <;> exact absurd hv (by decide)
    unfold hiT trU trD at this
    rw [decide_eq_true_eq, pow_ud hf, pow_ud hf] at this
    exact this) n
  have h2 := err_le (verN p q r0 r1) (verN_one p q r0 r1) 2 (.inr rfl) (frN q) (q.den - frN q) n
  rw [show frN q + (q.den - frN q) = q.den by omega] at h2
  have hd : 0 < q.den ^ n := Nat.pow_pos (fr_den q)
  refine (Nat.mul_le_mul_right_iff hd).1 ?_
  calc errW (verN p q r0 r1) 2 (frN p) (p.den - frN p) p.den n * r0.den * q.den ^ n = errW (verN p q r0 r1) 2 (frN p) (p.den - frN p) p.den n * q.den ^ n * r0.den := Nat.mul_right_comm _ _ _
    _ ≤ _ := h1
    _ ≤ q.den ^ n * p.den ^ n * frN r0 := Nat.mul_le_mul_right _ (Nat.mul_le_mul_right _ h2)
    _ = frN r0 * p.den ^ n * q.den ^ n := by grind
theorem errQ_lo {p q r0 r1 : Rat} (h : TrG p q) (h1' : frS r1 = false) (n : Nat) : errQ p q r0 r1 q 1 n ≤ r1 := by
  unfold errQ
  have hp := h.p1
  have hq := h.q1
  refine mk_le_of (Nat.pow_pos (fr_den q)) h1' ?_
  have h1 := err_cmp (verN p q r0 r1) (y0 := frN q) (q0 := q.den - frN q) (d0 := q.den) (y1 := frN p) (q1 := p.den - frN p) (d1 := p.den) (a := frN r1) (b := r1.den) 1 (fun n f hf hv => by
    have : loT r1 (trU p q n f) (trD p q n f) = true := by
      unfold verN verT at hv
      by_cases hh : hiT r0 (trU p q n f) (trD p q n f) = true
      · rw [if_pos hh] at hv; exact absurd hv (by decide)
      · rw [if_neg hh] at hv
        refine Classical.byContradiction fun hc => ?_
        rw [if_neg hc] at hv
        exact absurd hv (by decide)
    unfold loT trU trD at this
    rw [decide_eq_true_eq, pow_ud hf, pow_ud hf] at this
    exact this) n
  have h2 := err_le (verN p q r0 r1) (verN_one p q r0 r1) 1 (.inl rfl) (frN p) (p.den - frN p) n
  rw [show frN p + (p.den - frN p) = p.den by omega] at h2
  have hd : 0 < p.den ^ n := Nat.pow_pos (fr_den p)
  refine (Nat.mul_le_mul_right_iff hd).1 ?_
  calc errW (verN p q r0 r1) 1 (frN q) (q.den - frN q) q.den n * r1.den * p.den ^ n = errW (verN p q r0 r1) 1 (frN q) (q.den - frN q) q.den n * p.den ^ n * r1.den := Nat.mul_right_comm _ _ _
    _ ≤ _ := h1
    _ ≤ p.den ^ n * q.den ^ n * frN r1 := Nat.mul_le_mul_right _ (Nat.mul_le_mul_right _ h2)
    _ = frN r1 * q.den ^ n * p.den ^ n := by grind
end Go.Proofs.YtlkjgjojahjapaaGreatDoor

/- Errors, stage by stage: plain. -/
namespace Go.Proofs.YtlkjgjojahjapaaGreatDoor

section
variable (ver : Nat → Nat → Int)
/-- f with x at k -/
def upN (f : Nat → Nat) (k x : Nat) : Nat → Nat := fun j => if j = k then x else f j
/-- the weights of the next stage, while those of this one below F are gone through -/
def nxF (y q n F k : Nat) : Nat := (if k < F then wOp ver y q n k * q else 0) + (if 0 < k ∧ k ≤ F then wOp ver y q n (k - 1) * y else 0)
theorem nxF_zero (y q n : Nat) : nxF ver y q n 0 = fun _ => 0 := by
  funext k
  unfold nxF
  rw [if_neg (by omega), if_neg (by omega)]
theorem nxF_next (y q n F : Nat) : upN (upN (nxF ver y q n F) F (nxF ver y q n F F + wOp ver y q n F * q)) (F + 1) (nxF ver y q n F (F + 1) + wOp ver y q n F * y) = nxF ver y q n (F + 1) := by
  funext k
  unfold upN
  by_cases h1 : k = F + 1
  · subst h1
    rw [if_pos rfl]
    unfold nxF
    rw [if_neg (show ¬ F + 1 < F by omega), if_neg (show ¬ (0 < F + 1 ∧ F + 1 ≤ F) by omega), if_neg (show ¬ F + 1 < F + 1 by omega), if_pos (show 0 < F + 1 ∧ F + 1 ≤ F + 1 by omega), show F + 1 - 1 = F by omega]
  · rw [if_neg h1]
    by_cases h2 : k = F
    · subst h2
      rw [if_pos rfl]
      unfold nxF
      rw [if_neg (show ¬ k < k by omega), if_pos (show k < k + 1 by omega)]
      by_cases h3 : 0 < k
      · rw [if_pos (show 0 < k ∧ k ≤ k by omega), if_pos (show 0 < k ∧ k ≤ k + 1 by omega)]; omega
      · rw [if_neg (show ¬ (0 < k ∧ k ≤ k) by omega), if_neg (show ¬ (0 < k ∧ k ≤ k + 1) by omega)]; omega
    · rw [if_neg h2]
      unfold nxF
      by_cases h3 : k < F
      · rw [if_pos h3, if_pos (show k < F + 1 by omega)]
        by_cases h4 : 0 < k
        · rw [if_pos (show 0 < k ∧ k ≤ F by omega), if_pos (show 0 < k ∧ k ≤ F + 1 by omega)]
        · rw [if_neg (show ¬ (0 < k ∧ k ≤ F) by omega), if_neg (show ¬ (0 < k ∧ k ≤ F + 1) by omega)]
      · rw [if_neg h3, if_neg (show ¬ k < F + 1 by omega), if_neg (show ¬ (0 < k ∧ k ≤ F) by omega), if_neg (show ¬ (0 < k ∧ k ≤ F + 1) by omega)]
theorem nxF_skip (y q n F : Nat) (h : wOp ver y q n F = 0) : nxF ver y q n (F + 1) = nxF ver y q n F := by
  rw [← nxF_next, h, Nat.zero_mul, Nat.zero_mul]
  funext k
  unfold upN
  by_cases h1 : k = F + 1
  · rw [if_pos h1, h1, Nat.add_zero]
  · rw [if_neg h1]
    by_cases h2 : k = F
    · rw [if_pos h2, h2, Nat.add_zero]
    · rw [if_neg h2]
theorem nxF_all (y q n : Nat) : nxF ver y q n (n + 1) = wNx ver y q (n + 1) := by
  funext k
  cases k with
  | zero =>
    rw [wNx_first]
    unfold nxF
    rw [if_pos (by omega), if_neg (by omega)]; rfl
  | succ k =>
    rw [wNx_succ]
    unfold nxF
    rw [show k + 1 - 1 = k by omega]
    by_cases h : k + 1 < n + 1
    · rw [if_pos h, if_pos (by omega)]
    · rw [if_neg h, wOp_over ver y q n (k + 1) (by omega)]
      by_cases h2 : k + 1 ≤ n + 1
      · rw [if_pos (by omega)]; omega
      · rw [if_neg (by omega), wOp_over ver y q n k (by omega)]; omega
/-- what goes on, below F -/
def opF (y q n F k : Nat) : Nat := if k < F then wOp ver y q n k else 0
theorem opF_zero (y q n : Nat) : opF ver y q n 0 = fun _ => 0 := by funext k; unfold opF; rw [if_neg (by omega)]
theorem opF_next (y q n F : Nat) (h : ver n F = 3) : upN (opF ver y q n F) F (wNx ver y q n F) = opF ver y q n (F + 1) := by
  funext k
  unfold upN opF
  by_cases h1 : k = F
  · subst h1
    rw [if_pos rfl, if_pos (by omega)]
    unfold wOp opW
    rw [if_pos (.inr h)]
  · rw [if_neg h1]
    by_cases h2 : k < F
    · rw [if_pos h2, if_pos (by omega)]
    · rw [if_neg h2, if_neg (by omega)]
theorem opF_skip (y q n F : Nat) (h : wOp ver y q n F = 0) : opF ver y q n (F + 1) = opF ver y q n F := by
  funext k
  unfold opF
  by_cases h1 : k = F
  · subst h1
    rw [if_pos (by omega), if_neg (by omega), h]
  · by_cases h2 : k < F
    · rw [if_pos h2, if_pos (by omega)]
    · rw [if_neg h2, if_neg (by omega)]
theorem opF_all (y q n : Nat) : opF ver y q n (n + 1) = wOp ver y q n := by
  funext k
  unfold opF
  by_cases h : k < n + 1
  · rw [if_pos h]
  · rw [if_neg h, wOp_over ver y q n k (by omega)]
theorem wOp_zero {y q n F : Nat} (h : wNx ver y q n F = 0) : wOp ver y q n F = 0 := by
  unfold wOp opW; rw [h]; simp
theorem wOp_not {y q n F : Nat} (hn : n ≠ 0) (h : ver n F ≠ 3) : wOp ver y q n F = 0 := by
  unfold wOp opW
  rw [if_neg]
  rintro (h1 | h1)
  · exact hn h1
  · exact h h1
theorem wOp_first (y q : Nat) : wOp ver y q 0 = fun f => if f = 0 then 1 else 0 := by
  funext f
  unfold wOp opW
  rw [if_pos (.inl rfl)]; rfl
/-- what has ended by a verdict so far, times a power -/
def toF (v : Int) (y q d most n F : Nat) : Nat := errW ver v y q d n * d ^ (most - n) + sumF (fun f => if ver (n + 1) f = v then wNx ver y q (n + 1) f else 0) F * d ^ (most - (n + 1))
theorem toF_zero (v : Int) (y q d most n : Nat) : toF ver v y q d most n 0 = errW ver v y q d n * d ^ (most - n) := by unfold toF sumF; simp
theorem toF_hit {v : Int} {y q d most n F : Nat} (h : ver (n + 1) F = v) : toF ver v y q d most n (F + 1) = toF ver v y q d most n F + wNx ver y q (n + 1) F * d ^ (most - (n + 1)) := by
  unfold toF
  rw [show sumF (fun f => if ver (n + 1) f = v then wNx ver y q (n + 1) f else 0) (F + 1) = sumF (fun f => if ver (n + 1) f = v then wNx ver y q (n + 1) f else 0) F + (if ver (n + 1) F = v then wNx ver y q (n + 1) F else 0) from rfl, if_pos h, Nat.add_mul]
  omega
theorem toF_miss {v : Int} {y q d most n F : Nat} (h : ver (n + 1) F ≠ v ∨ wNx ver y q (n + 1) F = 0) : toF ver v y q d most n (F + 1) = toF ver v y q d most n F := by
  unfold toF
  rw [show sumF (fun f => if ver (n + 1) f = v then wNx ver y q (n + 1) f else 0) (F + 1) = sumF (fun f => if ver (n + 1) f = v then wNx ver y q (n + 1) f else 0) F + (if ver (n + 1) F = v then wNx ver y q (n + 1) F else 0) from rfl]
  have : (if ver (n + 1) F = v then wNx ver y q (n + 1) F else 0) = 0 := by
    rcases h with h | h
    · rw [if_neg h]
    · rw [h]; simp
  rw [this, Nat.add_zero]
theorem toF_all {v : Int} {y q d most n : Nat} (h : n + 1 ≤ most) : toF ver v y q d most n (n + 2) = errW ver v y q d (n + 1) * d ^ (most - (n + 1)) := by
  unfold toF
  rw [errW_succ, Nat.add_mul, Nat.mul_assoc, ← Nat.pow_succ', show (most - (n + 1)).succ = most - n by omega]
  rfl
theorem sumF_mono {g : Nat → Nat} {a b : Nat} (h : a ≤ b) : sumF g a ≤ sumF g b := by
  obtain ⟨c, rfl⟩ : ∃ c, b = a + c := ⟨b - a, by omega⟩
  induction c with
  | zero => exact Nat.le_refl _
  | succ c ih => exact Nat.le_trans (ih (by omega)) (by rw [show a + (c + 1) = a + c + 1 by omega]; exact Nat.le_add_right _ _)
theorem sumF_one {g : Nat → Nat} {a b : Nat} (h : a < b) : g a ≤ sumF g b := by
  refine Nat.le_trans ?_ (sumF_mono (g := g) (show a + 1 ≤ b from h))
  exact Nat.le_add_left _ _
section
variable (hv : ∀ n f, ver n f = 1 ∨ ver n f = 2 ∨ ver n f = 3)
include hv
theorem wNx_le (y q : Nat) : ∀ n f, wNx ver y q n f ≤ (y + q) ^ n
  | 0, f => by unfold wNx; split <;> simp
  | n + 1, f => by
    by_cases hf : f < n + 2
    · have h1 := sumF_one (g := wNx ver y q (n + 1)) hf
      rw [wNx_sum] at h1
      have h2 := err_all ver hv y q n
      have h3 : sumF (wOp ver y q n) (n + 1) ≤ (y + q) ^ n := by omega
      rw [Nat.pow_succ]
      exact Nat.le_trans h1 (Nat.mul_le_mul_right _ h3)
    · rw [wNx_over ver y q (n + 1) f (by omega)]; exact Nat.zero_le _
theorem wOp_le (y q n f : Nat) : wOp ver y q n f ≤ (y + q) ^ n := by
  unfold wOp opW
  split
  · exact wNx_le ver hv y q n f
  · exact Nat.zero_le _
theorem nxF_le (y q n F k : Nat) : nxF ver y q n F k ≤ (y + q) ^ (n + 1) := by
  have h1 : nxF ver y q n F k ≤ wOp ver y q n k * q + (if 0 < k then wOp ver y q n (k - 1) * y else 0) := by
    unfold nxF
    split <;> split <;> (try split) <;> omega
  refine Nat.le_trans h1 ?_
  cases k with
  | zero =>
    rw [if_neg (by omega)]
    exact wNx_le ver hv y q (n + 1) 0
  | succ k =>
    rw [if_pos (by omega), show k + 1 - 1 = k by omega]
    exact wNx_le ver hv y q (n + 1) (k + 1)
theorem errW_le (v : Int) (h : v = 1 ∨ v = 2) (y q most n : Nat) (hn : n ≤ most) : errW ver v y q (y + q) n * (y + q) ^ (most - n) ≤ (y + q) ^ most := by
  have h1 := err_le ver hv v h y q n
  have h2 := Nat.mul_le_mul_right ((y + q) ^ (most - n)) h1
  rwa [← Nat.pow_add, show n + (most - n) = most by omega] at h2
theorem toF_le (v : Int) (h : v = 1 ∨ v = 2) (y q most n F : Nat) (hn : n + 1 ≤ most) (hF : F ≤ n + 2) : toF ver v y q (y + q) most n F ≤ (y + q) ^ most := by
  refine Nat.le_trans ?_ (errW_le ver hv v h y q most (n + 1) hn)
  rw [← toF_all ver hn]
  unfold toF
  exact Nat.add_le_add_left (Nat.mul_le_mul_right _ (sumF_mono hF)) _
end
end
end Go.Proofs.YtlkjgjojahjapaaGreatDoor
