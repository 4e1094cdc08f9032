import Derived.Test.YtpmnhdgajkickaaGreatDoorB1
import Derived.Test.YtpmnhdgajkickaaGreatDoorB20
import Derived.Test.YtpmnhdgajkickaaGreatDoorL5
/- Lines through points: plain. -/
namespace Go.Proofs.YtpmnhdgajkickaaGreatDoor
open Go

/-- the sums of points -/
def pX (l : List (Int × Int)) : Int := (l.map (·.1)).sum
def pY (l : List (Int × Int)) : Int := (l.map (·.2)).sum
def pXX (l : List (Int × Int)) : Int := (l.map fun p => p.1 * p.1).sum
def pXY (l : List (Int × Int)) : Int := (l.map fun p => p.1 * p.2).sum
def pYY (l : List (Int × Int)) : Int := (l.map fun p => p.2 * p.2).sum
def vXX (l : List (Int × Int)) : Int := (l.length : Int) * pXX l - pX l * pX l
def vXY (l : List (Int × Int)) : Int := (l.length : Int) * pXY l - pX l * pY l
def vYY (l : List (Int × Int)) : Int := (l.length : Int) * pYY l - pY l * pY l
/-- squares and spreads of a list of numbers -/
def sqs (l : List Int) : Int := (l.map fun z => z * z).sum
def vZ (l : List Int) : Int := (l.length : Int) * sqs l - l.sum * l.sum
def dsq (x : Int) (l : List Int) : Int := (l.map fun z => (z - x) * (z - x)).sum
theorem sq_nonneg (a : Int) : 0 ≤ a * a := by
  rcases Int.le_total 0 a with h | h
  · exact Int.mul_nonneg h h
  · have := Int.mul_nonneg (a := -a) (b := -a) (by omega) (by omega)
    rwa [Int.neg_mul_neg] at this
theorem dsq_eq (x : Int) : ∀ l : List Int, dsq x l = sqs l - 2 * x * l.sum + (l.length : Int) * (x * x)
  | [] => by simp [dsq, sqs]
  | z :: l => by
    have ih := dsq_eq x l
    unfold dsq sqs at *
    simp only [List.map_cons, List.sum_cons, List.length_cons, Int.natCast_add, Int.natCast_one] at *
    grind
theorem dsq_nonneg (x : Int) : ∀ l : List Int, 0 ≤ dsq x l
  | [] => by simp [dsq]
  | z :: l => by
    have ih := dsq_nonneg x l
    have h := sq_nonneg (z - x)
    have e : dsq x (z :: l) = (z - x) * (z - x) + dsq x l := by simp [dsq]
    omega
theorem dsq_zero {x : Int} : ∀ {l : List Int}, dsq x l = 0 → ∀ z ∈ l, z = x
  | z :: l, h, y, hy => by
    have h1 := sq_nonneg (z - x)
    have h2 := dsq_nonneg x l
    have e : dsq x (z :: l) = (z - x) * (z - x) + dsq x l := by simp [dsq]
    rcases List.mem_cons.1 hy with rfl | hy
    · have : (y - x) * (y - x) = 0 := by omega
      rcases Int.mul_eq_zero.1 this with h' | h' <;> omega
    · exact dsq_zero (by omega) y hy
theorem vZ_cons (x : Int) (l : List Int) : vZ (x :: l) = vZ l + dsq x l := by
  rw [dsq_eq]
  unfold vZ sqs
  simp only [List.map_cons, List.sum_cons, List.length_cons, Int.natCast_add, Int.natCast_one]
  grind
theorem vZ_nonneg : ∀ l : List Int, 0 ≤ vZ l
  | [] => by simp [vZ, sqs]
  | x :: l => by
    have := vZ_nonneg l
    have := dsq_nonneg x l
    rw [vZ_cons]; omega
theorem vZ_zero {x : Int} {l : List Int} (h : vZ (x :: l) = 0) : ∀ z ∈ l, z = x := by
  have h1 := vZ_nonneg l
  have h2 := dsq_nonneg x l
  rw [vZ_cons] at h
  exact dsq_zero (by omega)
theorem dsq_same {x : Int} : ∀ {l : List Int}, (∀ z ∈ l, z = x) → dsq x l = 0
  | [], _ => by simp [dsq]
  | z :: l, h => by
    have ih := dsq_same (l := l) (fun y hy => h y (by simp [hy]))
    have e : dsq x (z :: l) = (z - x) * (z - x) + dsq x l := by simp [dsq]
    rw [e, ih, h z (by simp)]; simp
theorem vZ_same {x : Int} : ∀ {l : List Int}, (∀ z ∈ l, z = x) → vZ l = 0
  | [], _ => by simp [vZ, sqs]
  | z :: l, h => by
    have ih := vZ_same (l := l) (fun y hy => h y (by simp [hy]))
    have hz := h z (by simp)
    rw [vZ_cons, ih, dsq_same (fun y hy => by rw [h y (by simp [hy]), hz])]; simp
theorem vXX_eq (l : List (Int × Int)) : vXX l = vZ (l.map (·.1)) := by
  unfold vXX vZ sqs pXX pX
  simp [List.map_map, Function.comp_def]
theorem vYY_eq (l : List (Int × Int)) : vYY l = vZ (l.map (·.2)) := by
  unfold vYY vZ sqs pYY pY
  simp [List.map_map, Function.comp_def]
/-- the spread of a mixture -/
theorem mix_sums (s t : Int) : ∀ l : List (Int × Int), (l.map fun p => s * p.1 - t * p.2).sum = s * pX l - t * pY l ∧ sqs (l.map fun p => s * p.1 - t * p.2) = s * s * pXX l - 2 * s * t * pXY l + t * t * pYY l
  | [] => by simp [pX, pY, pXX, pXY, pYY, sqs]
  | p :: l => by
    obtain ⟨h1, h2⟩ := mix_sums s t l
    unfold pX pY pXX pXY pYY sqs at *
    simp only [List.map_cons, List.sum_cons] at *
    exact ⟨by rw [h1]; grind, by rw [h2]; grind⟩
theorem mix_spread (s t : Int) (l : List (Int × Int)) : vZ (l.map fun p => s * p.1 - t * p.2) = s * s * vXX l - 2 * s * t * vXY l + t * t * vYY l := by
  obtain ⟨h1, h2⟩ := mix_sums s t l
  unfold vZ
  rw [h1, h2, List.length_map]
  unfold vXX vXY vYY
  grind
/-- what Cauchy and Schwarz say -/
theorem cs_le {l : List (Int × Int)} (h : 0 < vXX l) : vXY l * vXY l ≤ vYY l * vXX l := by
  have h1 := vZ_nonneg (l.map fun p => vXY l * p.1 - vXX l * p.2)
  rw [mix_spread] at h1
  have e : vXY l * vXY l * vXX l - 2 * vXY l * vXX l * vXY l + vXX l * vXX l * vYY l = vXX l * (vYY l * vXX l - vXY l * vXY l) := by grind
  rw [e] at h1
  have := Int.nonneg_of_mul_nonneg_right h1 h
  omega
theorem vXX_nonneg (l : List (Int × Int)) : 0 ≤ vXX l := by rw [vXX_eq]; exact vZ_nonneg _
theorem vYY_nonneg (l : List (Int × Int)) : 0 ≤ vYY l := by rw [vYY_eq]; exact vZ_nonneg _
/-- the slope and the offset of the best line, and what is left -/
def linA (l : List (Int × Int)) : Rat := (vXY l : Rat) / (vXX l : Rat)
def linB (l : List (Int × Int)) : Rat := ((pY l : Rat) - linA l * (pX l : Rat)) / (((l.length : Int)) : Rat)
def linF (l : List (Int × Int)) : Rat := mkRat (vYY l * vXX l - vXY l * vXY l) (l.length * (vXX l).toNat)
theorem intR_ne {n : Int} (h : n ≠ 0) : (n : Rat) ≠ 0 := by
  intro hc
  exact h (by exact_mod_cast hc)
theorem linF_eq {l : List (Int × Int)} (h : 0 < vXX l) (hn : 0 < l.length) : linF l = ((vYY l : Rat) - linA l * (vXY l : Rat)) * mkRat 1 l.length := by
  unfold linF linA
  have hx : (vXX l : Rat) ≠ 0 := intR_ne (by omega)
  have hl : ((l.length : Int) : Rat) ≠ 0 := intR_ne (by omega)
  rw [Rat.mkRat_eq_div, Rat.mkRat_eq_div]
  have e : ((l.length * (vXX l).toNat : Nat) : Rat) = ((l.length : Int) : Rat) * (vXX l : Rat) := by
    have : ((l.length * (vXX l).toNat : Nat) : Int) = (l.length : Int) * vXX l := by rw [Int.natCast_mul, Int.toNat_of_nonneg (by omega)]
    have h2 : (((l.length * (vXX l).toNat : Nat) : Int) : Rat) = (((l.length : Int) * vXX l : Int) : Rat) := by rw [this]
    rw [Rat.intCast_mul] at h2
    exact h2
  have e2 : ((vYY l * vXX l - vXY l * vXY l : Int) : Rat) = (vYY l : Rat) * (vXX l : Rat) - (vXY l : Rat) * (vXY l : Rat) := by
    rw [Rat.intCast_sub, Rat.intCast_mul, Rat.intCast_mul]
  have e3 : ((l.length : Nat) : Rat) = ((l.length : Int) : Rat) := rfl
  have e4 : ((1 : Int) : Rat) = 1 := rfl
  rw [e, e2, e3, e4]
  generalize (vYY l : Rat) = yy
  generalize (vXY l : Rat) = xy
  generalize (vXX l : Rat) = xx at *
  generalize ((l.length : Int) : Rat) = n at *
  have h1 : xx * xx⁻¹ = 1 := Rat.mul_inv_cancel _ hx
  have h2 : n * n⁻¹ = 1 := Rat.mul_inv_cancel _ hl
  have h3 : (n * xx) * (n * xx)⁻¹ = 1 := Rat.mul_inv_cancel _ (by
    intro hc
    rcases Rat.mul_eq_zero.1 hc with hc | hc
    · exact hl hc
    · exact hx hc)
  rw [Rat.div_def, Rat.div_def, Rat.div_def]
  generalize (n * xx)⁻¹ = I at *
  have : I = n⁻¹ * xx⁻¹ := by
    have : I * ((n * xx) * (n⁻¹ * xx⁻¹)) = (n⁻¹ * xx⁻¹) := by grind
    have h4 : (n * xx) * (n⁻¹ * xx⁻¹) = 1 := by grind
    rw [h4, Rat.mul_one] at this
    exact this
  rw [this]
  grind
end Go.Proofs.YtpmnhdgajkickaaGreatDoor

/- Lines through points: bounds, parts of the list. Plain. -/
namespace Go.Proofs.YtpmnhdgajkickaaGreatDoor
open Go Go.RowKit Go.Proofs

def OkP (l : List (Int × Int)) : Prop := ∀ p ∈ l, (-1000000 ≤ p.1 ∧ p.1 ≤ 1000000) ∧ (-1000000 ≤ p.2 ∧ p.2 ≤ 1000000)
theorem OkP.take {l : List (Int × Int)} (h : OkP l) (i : Nat) : OkP (l.take i) := fun p hp => h p (List.mem_of_mem_take hp)
theorem OkP.drop {l : List (Int × Int)} (h : OkP l) (i : Nat) : OkP (l.drop i) := fun p hp => h p (List.mem_of_mem_drop hp)
theorem ibnd {x y A B : Int} (h1 : -A ≤ x) (h2 : x ≤ A) (h3 : -B ≤ y) (h4 : y ≤ B) : -(A * B) ≤ x * y ∧ x * y ≤ A * B := by
  have hx : x.natAbs ≤ A.natAbs := by omega
  have hy : y.natAbs ≤ B.natAbs := by omega
  have h := Nat.mul_le_mul hx hy
  rw [← Int.natAbs_mul, ← Int.natAbs_mul] at h
  have hAB : 0 ≤ A * B := Int.mul_nonneg (by omega) (by omega)
  omega
theorem sum_bnd {α : Type} (f : α → Int) (B : Int) : ∀ l : List α, (∀ p ∈ l, -B ≤ f p ∧ f p ≤ B) → -((l.length : Int) * B) ≤ (l.map f).sum ∧ (l.map f).sum ≤ (l.length : Int) * B
  | [], _ => by simp
  | p :: l, h => by
    obtain ⟨h1, h2⟩ := sum_bnd f B l (fun q hq => h q (by simp [hq]))
    obtain ⟨h3, h4⟩ := h p (by simp)
    simp only [List.map_cons, List.sum_cons, List.length_cons, Int.natCast_add, Int.natCast_one, Int.add_mul, Int.one_mul]
    omega
/-- the bounds of all sums -/
structure BndP (l : List (Int × Int)) : Prop where
  n : l.length ≤ 300
  x1 : -300000000 ≤ pX l
  x2 : pX l ≤ 300000000
  y1 : -300000000 ≤ pY l
  y2 : pY l ≤ 300000000
  xx1 : -300000000000000 ≤ pXX l
  xx2 : pXX l ≤ 300000000000000
  xy1 : -300000000000000 ≤ pXY l
  xy2 : pXY l ≤ 300000000000000
  yy1 : -300000000000000 ≤ pYY l
  yy2 : pYY l ≤ 300000000000000
theorem bndP {l : List (Int × Int)} (h : OkP l) (hn : l.length ≤ 300) : BndP l := by
  have hl : (l.length : Int) ≤ 300 := by omega
  have a1 := sum_bnd (·.1) 1000000 l (fun p hp => (h p hp).1)
  have a2 := sum_bnd (·.2) 1000000 l (fun p hp => (h p hp).2)
  have a3 := sum_bnd (fun p : Int × Int => p.1 * p.1) 1000000000000 l (fun p hp => by have := ibnd (h p hp).1.1 (h p hp).1.2 (h p hp).1.1 (h p hp).1.2; omega)
  have a4 := sum_bnd (fun p : Int × Int => p.1 * p.2) 1000000000000 l (fun p hp => by have := ibnd (h p hp).1.1 (h p hp).1.2 (h p hp).2.1 (h p hp).2.2; omega)
  have a5 := sum_bnd (fun p : Int × Int => p.2 * p.2) 1000000000000 l (fun p hp => by have := ibnd (h p hp).2.1 (h p hp).2.2 (h p hp).2.1 (h p hp).2.2; omega)
  exact ⟨hn, by unfold pX; omega, by unfold pX; omega, by unfold pY; omega, by unfold pY; omega, by unfold pXX; omega, by unfold pXX; omega, by unfold pXY; omega, by unfold pXY; omega, by unfold pYY; omega, by unfold pYY; omega⟩
theorem BndP.spr {l : List (Int × Int)} (h : BndP l) : (0 ≤ vXX l ∧ vXX l ≤ 180000000000000000) ∧ (-180000000000000000 ≤ vXY l ∧ vXY l ≤ 180000000000000000) ∧ (0 ≤ vYY l ∧ vYY l ≤ 180000000000000000) := by
  have hl1 : (-300 : Int) ≤ l.length := by omega
  have hl2 : (l.length : Int) ≤ 300 := by have := h.n; omega
  have b1 := ibnd (A := 300000000) (B := 300000000) h.x1 h.x2 h.x1 h.x2
  have b2 := ibnd (A := 300000000) (B := 300000000) h.x1 h.x2 h.y1 h.y2
  have b3 := ibnd (A := 300000000) (B := 300000000) h.y1 h.y2 h.y1 h.y2
  have c1 := ibnd (A := 300) (B := 300000000000000) hl1 hl2 h.xx1 h.xx2
  have c2 := ibnd (A := 300) (B := 300000000000000) hl1 hl2 h.xy1 h.xy2
  have c3 := ibnd (A := 300) (B := 300000000000000) hl1 hl2 h.yy1 h.yy2
  have d1 := vXX_nonneg l
  have d2 := vYY_nonneg l
  refine ⟨⟨d1, ?_⟩, ⟨?_, ?_⟩, ⟨d2, ?_⟩⟩
  · unfold vXX; omega
  · unfold vXY; omega
  · unfold vXY; omega
  · unfold vYY; omega
/-- one point more -/
theorem sums_next {l : List (Int × Int)} {i : Nat} {x y : Int} (h : l[i]? = some (x, y)) : pX (l.take (i + 1)) = pX (l.take i) + x ∧ pY (l.take (i + 1)) = pY (l.take i) + y ∧ pXX (l.take (i + 1)) = pXX (l.take i) + x * x ∧ pXY (l.take (i + 1)) = pXY (l.take i) + x * y ∧ pYY (l.take (i + 1)) = pYY (l.take i) + y * y := by
  unfold pX pY pXX pXY pYY
  rw [List.take_add_one, h]
  simp
/-- the rest -/
theorem sums_rest (l : List (Int × Int)) (i : Nat) : pX (l.drop i) = pX l - pX (l.take i) ∧ pY (l.drop i) = pY l - pY (l.take i) ∧ pXX (l.drop i) = pXX l - pXX (l.take i) ∧ pXY (l.drop i) = pXY l - pXY (l.take i) ∧ pYY (l.drop i) = pYY l - pYY (l.take i) := by
  have e : l = l.take i ++ l.drop i := (List.take_append_drop i l).symm
  have key : ∀ f : Int × Int → Int, ((l.drop i).map f).sum = (l.map f).sum - ((l.take i).map f).sum := by
    intro f
    have h : (l.map f).sum = ((l.take i).map f).sum + ((l.drop i).map f).sum := by
      conv => lhs; rw [e]
      rw [List.map_append, List.sum_append]
    omega
  exact ⟨key _, key _, key _, key _, key _⟩
/-- strictly rising -/
def Rise (xs : List Int) : Prop := ∀ i x y, xs[i]? = some x → xs[i + 1]? = some y → x < y
/-- what checkPoints tells -/
def okZ (l : List Int) : Bool := l.all fun x => decide (-1000000 ≤ x) && decide (x ≤ 1000000)
def ptC (xs ys : List Int) : Int := if xs.length ≠ ys.length then 2 else if 300 < xs.length then 3 else if okZ xs = true ∧ okZ ys = true then 0 else 9
theorem okZ_mem {l : List Int} (h : okZ l = true) {x : Int} (hx : x ∈ l) : -1000000 ≤ x ∧ x ≤ 1000000 := by
  have := List.all_eq_true.1 h x hx
  simpa using this
theorem ptC_ok {xs ys : List Int} (h : ptC xs ys = 0) : xs.length = ys.length ∧ xs.length ≤ 300 ∧ OkP (xs.zip ys) := by
  unfold ptC at h
  split at h
  · cases h
  · rename_i h1
    split at h
    · cases h
    · rename_i h2
      split at h
      · rename_i h3
        refine ⟨by omega, by omega, fun p hp => ?_⟩
        have := List.of_mem_zip (a := p.1) (b := p.2) (by simpa using hp)
        exact ⟨okZ_mem h3.1 this.1, okZ_mem h3.2 this.2⟩
      · cases h
end Go.Proofs.YtpmnhdgajkickaaGreatDoor

/- Lines through points: what Line tells. Plain. -/
namespace Go.Proofs.YtpmnhdgajkickaaGreatDoor
open Go Go.RowKit Go.Proofs

def lnC (xs ys : List Int) : Int := if ptC xs ys ≠ 0 then ptC xs ys else if vXX (xs.zip ys) = 0 then 13 else if rtC (linA (xs.zip ys)) ≠ 0 then rtC (linA (xs.zip ys)) else rtC (linB (xs.zip ys))
def lnA (xs ys : List Int) : List UInt8 × List UInt8 := if lnC xs ys = 0 then rtT (linA (xs.zip ys)) else ([], [])
def lnB (xs ys : List Int) : List UInt8 × List UInt8 := if lnC xs ys = 0 then rtT (linB (xs.zip ys)) else ([], [])
theorem ln_bad {xs ys : List Int} (h : lnC xs ys ≠ 0) : lnA xs ys = ([], []) ∧ lnB xs ys = ([], []) := by unfold lnA lnB; rw [if_neg h, if_neg h]; exact ⟨rfl, rfl⟩
theorem ln_good {xs ys : List Int} (h : lnC xs ys = 0) : lnA xs ys = rtT (linA (xs.zip ys)) ∧ lnB xs ys = rtT (linB (xs.zip ys)) := by unfold lnA lnB; rw [if_pos h, if_pos h]; exact ⟨rfl, rfl⟩
theorem lnC_pt {xs ys : List Int} (h : ptC xs ys ≠ 0) : lnC xs ys = ptC xs ys := by unfold lnC; rw [if_pos h]
theorem lnC_xx {xs ys : List Int} (h : ptC xs ys = 0) (h2 : vXX (xs.zip ys) = 0) : lnC xs ys = 13 := by unfold lnC; rw [if_neg (by omega), if_pos h2]
theorem lnC_a {xs ys : List Int} (h : ptC xs ys = 0) (h2 : vXX (xs.zip ys) ≠ 0) (h3 : rtC (linA (xs.zip ys)) ≠ 0) : lnC xs ys = rtC (linA (xs.zip ys)) := by unfold lnC; rw [if_neg (by omega), if_neg h2, if_pos h3]
theorem lnC_b {xs ys : List Int} (h : ptC xs ys = 0) (h2 : vXX (xs.zip ys) ≠ 0) (h3 : rtC (linA (xs.zip ys)) = 0) : lnC xs ys = rtC (linB (xs.zip ys)) := by unfold lnC; rw [if_neg (by omega), if_neg h2, if_neg (by omega)]
theorem vXX_len {l : List (Int × Int)} (h : vXX l ≠ 0) : 0 < l.length := by
  rcases Nat.eq_zero_or_pos l.length with h0 | h0
  · rw [List.eq_nil_of_length_eq_zero h0] at h
    exact absurd rfl h
  · exact h0
theorem zip_get {xs ys : List Int} {k : Nat} {x y : Int} (h1 : xs[k]? = some x) (h2 : ys[k]? = some y) : (xs.zip ys)[k]? = some (x, y) := by
  rw [List.getElem?_zip_eq_some]; exact ⟨h1, h2⟩
end Go.Proofs.YtpmnhdgajkickaaGreatDoor

/- Where one line becomes another one. Plain. -/
namespace Go.Proofs.YtpmnhdgajkickaaGreatDoor
open Go Go.RowKit Go.Proofs

theorem vXX_two {l : List (Int × Int)} {p q : Int × Int} (h0 : l[0]? = some p) (h1 : l[1]? = some q) (h : p.1 < q.1) : 0 < vXX l := by
  have h2 := vXX_nonneg l
  rcases Nat.eq_zero_or_pos l.length with hl | hl
  · rw [List.eq_nil_of_length_eq_zero hl] at h0; cases h0
  · by_cases hz : vXX l = 0
    · exfalso
      rw [vXX_eq] at hz
      obtain ⟨p', l', rfl⟩ : ∃ a t, l = a :: t := by
        cases l with
        | nil => simp at hl
        | cons a t => exact ⟨a, t, rfl⟩
      simp only [List.getElem?_cons_zero, Option.some.injEq] at h0
      subst h0
      rw [List.map_cons] at hz
      have := vZ_zero hz q.1 (by
        have hm := List.mem_of_getElem? (l := l') (i := 0) (by simpa using h1)
        exact List.mem_map_of_mem hm)
      omega
    · omega
theorem knee_take {xs ys : List Int} (hr : Rise xs) (hl : xs.length = ys.length) {i : Nat} (h1 : 2 ≤ i) (h2 : i ≤ xs.length) : 0 < vXX ((xs.zip ys).take i) := by
  have g0 : xs[0]? = some xs[0] := List.getElem?_eq_getElem (by omega)
  have g1 : xs[1]? = some xs[1] := List.getElem?_eq_getElem (by omega)
  have k0 : ys[0]? = some ys[0] := List.getElem?_eq_getElem (by omega)
  have k1 : ys[1]? = some ys[1] := List.getElem?_eq_getElem (by omega)
  refine vXX_two (p := (xs[0], ys[0])) (q := (xs[1], ys[1])) ?_ ?_ (hr 0 _ _ g0 g1)
  · rw [List.getElem?_take_of_lt (by omega)]; exact zip_get g0 k0
  · rw [List.getElem?_take_of_lt (by omega)]; exact zip_get g1 k1
theorem knee_drop {xs ys : List Int} (hr : Rise xs) (hl : xs.length = ys.length) {i : Nat} (h2 : i + 2 ≤ xs.length) : 0 < vXX ((xs.zip ys).drop i) := by
  have g0 : xs[i]? = some xs[i] := List.getElem?_eq_getElem (by omega)
  have g1 : xs[i + 1]? = some xs[i + 1] := List.getElem?_eq_getElem (by omega)
  have k0 : ys[i]? = some ys[i] := List.getElem?_eq_getElem (by omega)
  have k1 : ys[i + 1]? = some ys[i + 1] := List.getElem?_eq_getElem (by omega)
  refine vXX_two (p := (xs[i], ys[i])) (q := (xs[i + 1], ys[i + 1])) ?_ ?_ (hr i _ _ g0 g1)
  · rw [List.getElem?_drop]; exact zip_get g0 k0
  · rw [List.getElem?_drop]; exact zip_get g1 k1
def knF (l : List (Int × Int)) (i : Nat) : Rat := linF (l.take i) + linF (l.drop i)
/-- the best of the first j places, and what is left there -/
def knB (l : List (Int × Int)) : Nat → Nat × Rat
  | 0 => (0, 0)
  | j + 1 => if (knB l j).1 = 0 ∨ knF l (j + 2) < (knB l j).2 then (j + 2, knF l (j + 2)) else knB l j
theorem knB_take {l : List (Int × Int)} {j : Nat} (h : (knB l j).1 = 0 ∨ knF l (j + 2) < (knB l j).2) : knB l (j + 1) = (j + 2, knF l (j + 2)) := by
  conv => lhs; unfold knB
  rw [if_pos h]
theorem knB_keep {l : List (Int × Int)} {j : Nat} (h : ¬ ((knB l j).1 = 0 ∨ knF l (j + 2) < (knB l j).2)) : knB l (j + 1) = knB l j := by
  conv => lhs; unfold knB
  rw [if_neg h]
open Classical in
noncomputable def kneeC (xs ys : List Int) : Int := if ptC xs ys ≠ 0 then ptC xs ys else if ¬ Rise xs then 10 else if xs.length < 4 then 13 else 0
open Classical in
noncomputable def kneeV (xs ys : List Int) : Int := if kneeC xs ys = 0 then ((knB (xs.zip ys) (xs.length - 3)).1 : Nat) else 0
theorem knee_pt {xs ys : List Int} (h : ptC xs ys ≠ 0) : kneeC xs ys = ptC xs ys ∧ kneeV xs ys = 0 := by
  have e : kneeC xs ys = ptC xs ys := by unfold kneeC; rw [if_pos h]
  exact ⟨e, by unfold kneeV; rw [e, if_neg h]⟩
theorem knee_order {xs ys : List Int} (h : ptC xs ys = 0) (h2 : ¬ Rise xs) : kneeC xs ys = 10 ∧ kneeV xs ys = 0 := by
  have e : kneeC xs ys = 10 := by unfold kneeC; rw [if_neg (by omega), if_pos h2]
  exact ⟨e, by unfold kneeV; rw [e, if_neg (by decide)]⟩
theorem knee_few {xs ys : List Int} (h : ptC xs ys = 0) (h2 : Rise xs) (h3 : xs.length < 4) : kneeC xs ys = 13 ∧ kneeV xs ys = 0 := by
  have e : kneeC xs ys = 13 := by unfold kneeC; rw [if_neg (by omega), if_neg (by simpa using h2), if_pos h3]
  exact ⟨e, by unfold kneeV; rw [e, if_neg (by decide)]⟩
theorem knee_ok {xs ys : List Int} (h : ptC xs ys = 0) (h2 : Rise xs) (h3 : ¬ xs.length < 4) : kneeC xs ys = 0 ∧ kneeV xs ys = ((knB (xs.zip ys) (xs.length - 3)).1 : Nat) := by
  have e : kneeC xs ys = 0 := by unfold kneeC; rw [if_neg (by omega), if_neg (by simpa using h2), if_neg h3]
  exact ⟨e, by unfold kneeV; rw [if_pos e]⟩
end Go.Proofs.YtpmnhdgajkickaaGreatDoor
