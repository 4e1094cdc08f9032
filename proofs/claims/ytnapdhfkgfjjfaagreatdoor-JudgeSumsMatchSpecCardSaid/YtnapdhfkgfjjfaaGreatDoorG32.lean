import Derived.Test.YtnapdhfkgfjjfaaGreatDoorJBin
import Derived.Test.YtnapdhfkgfjjfaaGreatDoorG30
import Derived.Test.YtnapdhfkgfjjfaaGreatDoorG11
import Derived.Test.YtnapdhfkgfjjfaaGreatDoorG0
import Derived.Test.YtnapdhfkgfjjfaaGreatDoorG25
import Derived.Test.YtnapdhfkgfjjfaaGreatDoorG1
import Derived.Laws.CopyOwn
/- Package dynamometerlaw10: same, halves. -/
namespace Go.Proofs.YtnapdhfkgfjjfaaGreatDoor
open Go Go.RowKit Go.Proofs

set_option maxHeartbeats 8000000 in
set_option maxRecDepth 100000 in
theorem halves_any (w : World) (htab : Tab w.heap.size w) :
    Calls Tryz.prog 10 #[] w fun e w' => e = .returned (.bool true) ∧ Below w.heap.size w w' := by
  have HB := Lib.hid (jBinomial_any ⟨#[49]⟩ ⟨#[50]⟩ [49] [50] 3 1 w rfl rfl (by decide) (by decide) (by omega) (by omega) htab)
  rw [bin_half.1, bin_half.2] at HB
  rw [show ratOf ([49], [50]) = .agg #[.string ⟨#[49]⟩, .string ⟨#[50]⟩] from rfl] at HB
  have HF := Lib.hid (fun W (hb : Below w.heap.size w W) o => (show Below w.heap.size w (W.alloc o) from hb.alloc hb.size _))
  go_enter Tryz.func10, Tryz.ntmps10
  go_wp2_with fail
  (with_reducible refine (HB.out).mono ?_)
  rintro e w1 ⟨rfl, hb1⟩
  have HB1 := Lib.hid hb1
  clear hb1
  go_wp2
  go_ret
  exact ⟨by rfl, HF.out _ HB1.out _⟩
end Go.Proofs.YtnapdhfkgfjjfaaGreatDoor

/- Blocks of integers. -/
namespace Go.Proofs.YtnapdhfkgfjjfaaGreatDoor
open Go Go.RowKit Go.Proofs

/-- block g holds these integers -/
def IBlk (w : World) (g : Nat) (o : List Int) : Prop := w.heap[g]? = some (.cells (ints o).toArray 3 (0, 0))
theorem IBlk.cell {w : World} {g : Nat} {o : List Int} (h : IBlk w g o) {i : Nat} {d : Int} (hi : o[i]? = some d) : w.cell? ⟨g, i, none⟩ = some (.int .i64 d) := by
  rw [cellsAt h]; simp [ints, hi]
theorem IBlk.frozen {w : World} {g : Nat} {o : List Int} (h : IBlk w g o) (i : Nat) : w.frozen? ⟨g, i, none⟩ = false := frozenAt h i
theorem IBlk.set {w : World} {g : Nat} {o : List Int} (h : IBlk w g o) (i : Nat) (d : Int) : IBlk (w.setCell ⟨g, i, none⟩ (.int .i64 d)) g (o.set i d) := by
  unfold IBlk at *
  simp only [World.setCell, Array.getElem?_modify, h, if_true, Option.map_some]
  congr 2
  rw [List.setIfInBounds_toArray]
  simp [ints, List.map_set]
theorem IBlk.of_own {w : World} {base g n : Nat} {o : List Int} (h : w.ownsRow base 3 1 (.slice (some ⟨g, 0, none⟩) n n) n (ints o)) : IBlk w g o ∧ o.length = n := by
  have hl : o.length = n := by have := h.1; simpa [ints] using this
  rcases h.2 with ⟨hv, _⟩ | ⟨g', cap, cur, hv, hb, hh, h1, h2, h3, h4⟩
  · cases hv
  · simp only [Value.slice.injEq, Option.some.injEq, Addr.mk.injEq] at hv
    obtain ⟨⟨rfl, _⟩, _, rfl⟩ := hv
    refine ⟨?_, hl⟩
    unfold IBlk
    rw [hh]
    have e : cur = (ints o).toArray := by
      apply Array.toList_inj.1
      rw [← h4, List.take_of_length_le (by simp; omega)]
    rw [e]
theorem IBlk.rd {w : World} {g : Nat} {o : List Int} (h : IBlk w g o) : Rd w 0 w.heap.size 1 (some ⟨g, 0, none⟩) o.length (ints o) :=
  ⟨by simp [ints], fun _ => ⟨g, 0, rfl, Nat.zero_le _, heap_lt h, fun j u hj => by rw [cellsAt h, Nat.zero_add]; simpa using hj⟩⟩
theorem made_zerosI (n : Nat) : (madeCells #[Value.int .i64 0] n).toList = ints (List.replicate n 0) := by
  rw [made_zeros4]; simp [d4s, ints]
end Go.Proofs.YtnapdhfkgfjjfaaGreatDoor

/- Lines through points: plain. -/
namespace Go.Proofs.YtnapdhfkgfjjfaaGreatDoor
open Go

/-- the sums of points -/
def pX (l : List (Int × Int)) : Int := (l.map (·.1)).sum
def pY (l : List (Int × Int)) : Int := (l.map (·.2)).sum
def pXX (l : List (Int × Int)) : Int := (l.map fun p => p.1 * p.1).sum
def pXY (l : List (Int × Int)) : Int := (l.map fun p => p.1 * p.2).sum
def pYY (l : List (Int × Int)) : Int := (l.map fun p => p.2 * p.2).sum
def vXX (l : List (Int × Int)) : Int := (l.length : Int) * pXX l - pX l * pX l
def vXY (l : List (Int × Int)) : Int := (l.length : Int) * pXY l - pX l * pY l
def vYY (l : List (Int × Int)) : Int := (l.length : Int) * pYY l - pY l * pY l
/-- squares and spreads of a list of numbers -/
def sqs (l : List Int) : Int := (l.map fun z => z * z).sum
def vZ (l : List Int) : Int := (l.length : Int) * sqs l - l.sum * l.sum
def dsq (x : Int) (l : List Int) : Int := (l.map fun z => (z - x) * (z - x)).sum
theorem sq_nonneg (a : Int) : 0 ≤ a * a := by
  rcases Int.le_total 0 a with h | h
  · exact Int.mul_nonneg h h
  · have := Int.mul_nonneg (a := -a) (b := -a) (by omega) (by omega)
    rwa [Int.neg_mul_neg] at this
theorem dsq_eq (x : Int) : ∀ l : List Int, dsq x l = sqs l - 2 * x * l.sum + (l.length : Int) * (x * x)
  | [] => by simp [dsq, sqs]
  | z :: l => by
    have ih := dsq_eq x l
    unfold dsq sqs at *
    simp only [List.map_cons, List.sum_cons, List.length_cons, Int.natCast_add, Int.natCast_one] at *
    grind
theorem dsq_nonneg (x : Int) : ∀ l : List Int, 0 ≤ dsq x l
  | [] => by simp [dsq]
  | z :: l => by
    have ih := dsq_nonneg x l
    have h := sq_nonneg (z - x)
    have e : dsq x (z :: l) = (z - x) * (z - x) + dsq x l := by simp [dsq]
    omega
theorem dsq_zero {x : Int} : ∀ {l : List Int}, dsq x l = 0 → ∀ z ∈ l, z = x
  | z :: l, h, y, hy => by
    have h1 := sq_nonneg (z - x)
    have h2 := dsq_nonneg x l
    have e : dsq x (z :: l) = (z - x) * (z - x) + dsq x l := by simp [dsq]
    rcases List.mem_cons.1 hy with rfl | hy
    · have : (y - x) * (y - x) = 0 := by omega
      rcases Int.mul_eq_zero.1 this with h' | h' <;> omega
    · exact dsq_zero (by omega) y hy
theorem vZ_cons (x : Int) (l : List Int) : vZ (x :: l) = vZ l + dsq x l := by
  rw [dsq_eq]
  unfold vZ sqs
  simp only [List.map_cons, List.sum_cons, List.length_cons, Int.natCast_add, Int.natCast_one]
  grind
theorem vZ_nonneg : ∀ l : List Int, 0 ≤ vZ l
  | [] => by simp [vZ, sqs]
  | x :: l => by
    have := vZ_nonneg l
    have := dsq_nonneg x l
    rw [vZ_cons]; omega
theorem vZ_zero {x : Int} {l : List Int} (h : vZ (x :: l) = 0) : ∀ z ∈ l, z = x := by
  have h1 := vZ_nonneg l
  have h2 := dsq_nonneg x l
  rw [vZ_cons] at h
  exact dsq_zero (by omega)
theorem dsq_same {x : Int} : ∀ {l : List Int}, (∀ z ∈ l, z = x) → dsq x l = 0
  | [], _ => by simp [dsq]
  | z :: l, h => by
    have ih := dsq_same (l := l) (fun y hy => h y (by simp [hy]))
    have e : dsq x (z :: l) = (z - x) * (z - x) + dsq x l := by simp [dsq]
    rw [e, ih, h z (by simp)]; simp
theorem vZ_same {x : Int} : ∀ {l : List Int}, (∀ z ∈ l, z = x) → vZ l = 0
  | [], _ => by simp [vZ, sqs]
  | z :: l, h => by
    have ih := vZ_same (l := l) (fun y hy => h y (by simp [hy]))
    have hz := h z (by simp)
    rw [vZ_cons, ih, dsq_same (fun y hy => by rw [h y (by simp [hy]), hz])]; simp
theorem vXX_eq (l : List (Int × Int)) : vXX l = vZ (l.map (·.1)) := by
  unfold vXX vZ sqs pXX pX
  simp [List.map_map, Function.comp_def]
theorem vYY_eq (l : List (Int × Int)) : vYY l = vZ (l.map (·.2)) := by
  unfold vYY vZ sqs pYY pY
  simp [List.map_map, Function.comp_def]
/-- the spread of a mixture -/
theorem mix_sums (s t : Int) : ∀ l : List (Int × Int), (l.map fun p => s * p.1 - t * p.2).sum = s * pX l - t * pY l ∧ sqs (l.map fun p => s * p.1 - t * p.2) = s * s * pXX l - 2 * s * t * pXY l + t * t * pYY l
  | [] => by simp [pX, pY, pXX, pXY, pYY, sqs]
  | p :: l => by
    obtain ⟨h1, h2⟩ := mix_sums s t l
    unfold pX pY pXX pXY pYY sqs at *
    simp only [List.map_cons, List.sum_cons] at *
    exact ⟨by rw [h1]; grind, by rw [h2]; grind⟩
theorem mix_spread (s t : Int) (l : List (Int × Int)) : vZ (l.map fun p => s * p.1 - t * p.2) = s * s * vXX l - 2 * s * t * vXY l + t * t * vYY l := by
  obtain ⟨h1, h2⟩ := mix_sums s t l
  unfold vZ
  rw [h1, h2, List.length_map]
  unfold vXX vXY vYY
  grind
/-- what Cauchy and Schwarz say -/
theorem cs_le {l : List (Int × Int)} (h : 0 < vXX l) : vXY l * vXY l ≤ vYY l * vXX l := by
  have h1 := vZ_nonneg (l.map fun p => vXY l * p.1 - vXX l * p.2)
  rw [mix_spread] at h1
  have e : vXY l * vXY l * vXX l - 2 * vXY l * vXX l * vXY l + vXX l * vXX l * vYY l = vXX l * (vYY l * vXX l - vXY l * vXY l) := by grind
  rw [e] at h1
  have := Int.nonneg_of_mul_nonneg_right h1 h
  omega
theorem vXX_nonneg (l : List (Int × Int)) : 0 ≤ vXX l := by rw [vXX_eq]; exact vZ_nonneg _
theorem vYY_nonneg (l : List (Int × Int)) : 0 ≤ vYY l := by rw [vYY_eq]; exact vZ_nonneg _
/-- the slope and the offset of the best line, and what is left -/
def linA (l : List (Int × Int)) : Rat := (vXY l : Rat) / (vXX l : Rat)
def linB (l : List (Int × Int)) : Rat := ((pY l : Rat) - linA l * (pX l : Rat)) / (((l.length : Int)) : Rat)
def linF (l : List (Int × Int)) : Rat := mkRat (vYY l * vXX l - vXY l * vXY l) (l.length * (vXX l).toNat)
theorem intR_ne {n : Int} (h : n ≠ 0) : (n : Rat) ≠ 0 := by
  intro hc
  exact h (by exact_mod_cast hc)
theorem linF_eq {l : List (Int × Int)} (h : 0 < vXX l) (hn : 0 < l.length) : linF l = ((vYY l : Rat) - linA l * (vXY l : Rat)) * mkRat 1 l.length := by
  unfold linF linA
  have hx : (vXX l : Rat) ≠ 0 := intR_ne (by omega)
  have hl : ((l.length : Int) : Rat) ≠ 0 := intR_ne (by omega)
  rw [Rat.mkRat_eq_div, Rat.mkRat_eq_div]
  have e : ((l.length * (vXX l).toNat : Nat) : Rat) = ((l.length : Int) : Rat) * (vXX l : Rat) := by
    have : ((l.length * (vXX l).toNat : Nat) : Int) = (l.length : Int) * vXX l := by rw [Int.natCast_mul, Int.toNat_of_nonneg (by omega)]
    have h2 : (((l.length * (vXX l).toNat : Nat) : Int) : Rat) = (((l.length : Int) * vXX l : Int) : Rat) := by rw [this]
    rw [Rat.intCast_mul] at h2
    exact h2
  have e2 : ((vYY l * vXX l - vXY l * vXY l : Int) : Rat) = (vYY l : Rat) * (vXX l : Rat) - (vXY l : Rat) * (vXY l : Rat) := by
    rw [Rat.intCast_sub, Rat.intCast_mul, Rat.intCast_mul]
  have e3 : ((l.length : Nat) : Rat) = ((l.length : Int) : Rat) := rfl
  have e4 : ((1 : Int) : Rat) = 1 := rfl
  rw [e, e2, e3, e4]
  generalize (vYY l : Rat) = yy
  generalize (vXY l : Rat) = xy
  generalize (vXX l : Rat) = xx at *
  generalize ((l.length : Int) : Rat) = n at *
  have h1 : xx * xx⁻¹ = 1 := Rat.mul_inv_cancel _ hx
  have h2 : n * n⁻¹ = 1 := Rat.mul_inv_cancel _ hl
  have h3 : (n * xx) * (n * xx)⁻¹ = 1 := Rat.mul_inv_cancel _ (by
    intro hc
    rcases Rat.mul_eq_zero.1 hc with hc | hc
    · exact hl hc
    · exact hx hc)
  rw [Rat.div_def, Rat.div_def, Rat.div_def]
  generalize (n * xx)⁻¹ = I at *
  have : I = n⁻¹ * xx⁻¹ := by
    have : I * ((n * xx) * (n⁻¹ * xx⁻¹)) = (n⁻¹ * xx⁻¹) := by grind
    have h4 : (n * xx) * (n⁻¹ * xx⁻¹) = 1 := by grind
    rw [h4, Rat.mul_one] at this
    exact this
  rw [this]
  grind
end Go.Proofs.YtnapdhfkgfjjfaaGreatDoor

/- Package judge: the sums of points. -/
namespace Go.Proofs.YtnapdhfkgfjjfaaGreatDoor
open Go Go.RowKit Go.Proofs

theorem ibound {x y A B : Int} (h1 : -A ≤ x) (h2 : x ≤ A) (h3 : -B ≤ y) (h4 : y ≤ B) : -(A * B) ≤ x * y ∧ x * y ≤ A * B := by
  have hx : x.natAbs ≤ A.natAbs := by omega
  have hy : y.natAbs ≤ B.natAbs := by omega
  have h := Nat.mul_le_mul hx hy
  rw [← Int.natAbs_mul, ← Int.natAbs_mul] at h
  have hAB : 0 ≤ A * B := Int.mul_nonneg (by omega) (by omega)
  omega
/-- the sums of points as a value -/
def momV (n x y xx xy yy : Int) : Value := .agg #[.int .i64 n, .int .i64 x, .int .i64 y, .int .i64 xx, .int .i64 xy, .int .i64 yy]
end Go.Proofs.YtnapdhfkgfjjfaaGreatDoor

/- Lines through points: bounds, parts of the list. Plain. -/
namespace Go.Proofs.YtnapdhfkgfjjfaaGreatDoor
open Go Go.RowKit Go.Proofs

def OkP (l : List (Int × Int)) : Prop := ∀ p ∈ l, (-1000000 ≤ p.1 ∧ p.1 ≤ 1000000) ∧ (-1000000 ≤ p.2 ∧ p.2 ≤ 1000000)
theorem OkP.take {l : List (Int × Int)} (h : OkP l) (i : Nat) : OkP (l.take i) := fun p hp => h p (List.mem_of_mem_take hp)
theorem OkP.drop {l : List (Int × Int)} (h : OkP l) (i : Nat) : OkP (l.drop i) := fun p hp => h p (List.mem_of_mem_drop hp)
theorem ibnd {x y A B : Int} (h1 : -A ≤ x) (h2 : x ≤ A) (h3 : -B ≤ y) (h4 : y ≤ B) : -(A * B) ≤ x * y ∧ x * y ≤ A * B := by
  have hx : x.natAbs ≤ A.natAbs := by omega
  have hy : y.natAbs ≤ B.natAbs := by omega
  have h := Nat.mul_le_mul hx hy
  rw [← Int.natAbs_mul, ← Int.natAbs_mul] at h
  have hAB : 0 ≤ A * B := Int.mul_nonneg (by omega) (by omega)
  omega
theorem sum_bnd {α : Type} (f : α → Int) (B : Int) : ∀ l : List α, (∀ p ∈ l, -B ≤ f p ∧ f p ≤ B) → -((l.length : Int) * B) ≤ (l.map f).sum ∧ (l.map f).sum ≤ (l.length : Int) * B
  | [], _ => by simp
  | p :: l, h => by
    obtain ⟨h1, h2⟩ := sum_bnd f B l (fun q hq => h q (by simp [hq]))
    obtain ⟨h3, h4⟩ := h p (by simp)
    simp only [List.map_cons, List.sum_cons, List.length_cons, Int.natCast_add, Int.natCast_one, Int.add_mul, Int.one_mul]
    omega
/-- the bounds of all sums -/
structure BndP (l : List (Int × Int)) : Prop where
  n : l.length ≤ 300
  x1 : -300000000 ≤ pX l
  x2 : pX l ≤ 300000000
  y1 : -300000000 ≤ pY l
  y2 : pY l ≤ 300000000
  xx1 : -300000000000000 ≤ pXX l
  xx2 : pXX l ≤ 300000000000000
  xy1 : -300000000000000 ≤ pXY l
  xy2 : pXY l ≤ 300000000000000
  yy1 : -300000000000000 ≤ pYY l
  yy2 : pYY l ≤ 300000000000000
theorem bndP {l : List (Int × Int)} (h : OkP l) (hn : l.length ≤ 300) : BndP l := by
  have hl : (l.length : Int) ≤ 300 := by omega
  have a1 := sum_bnd (·.1) 1000000 l (fun p hp => (h p hp).1)
  have a2 := sum_bnd (·.2) 1000000 l (fun p hp => (h p hp).2)
  have a3 := sum_bnd (fun p : Int × Int => p.1 * p.1) 1000000000000 l (fun p hp => by have := ibnd (h p hp).1.1 (h p hp).1.2 (h p hp).1.1 (h p hp).1.2; omega)
  have a4 := sum_bnd (fun p : Int × Int => p.1 * p.2) 1000000000000 l (fun p hp => by have := ibnd (h p hp).1.1 (h p hp).1.2 (h p hp).2.1 (h p hp).2.2; omega)
  have a5 := sum_bnd (fun p : Int × Int => p.2 * p.2) 1000000000000 l (fun p hp => by have := ibnd (h p hp).2.1 (h p hp).2.2 (h p hp).2.1 (h p hp).2.2; omega)
  exact ⟨hn, by unfold pX; omega, by unfold pX; omega, by unfold pY; omega, by unfold pY; omega, by unfold pXX; omega, by unfold pXX; omega, by unfold pXY; omega, by unfold pXY; omega, by unfold pYY; omega, by unfold pYY; omega⟩
theorem BndP.spr {l : List (Int × Int)} (h : BndP l) : (0 ≤ vXX l ∧ vXX l ≤ 180000000000000000) ∧ (-180000000000000000 ≤ vXY l ∧ vXY l ≤ 180000000000000000) ∧ (0 ≤ vYY l ∧ vYY l ≤ 180000000000000000) := by
  have hl1 : (-300 : Int) ≤ l.length := by omega
  have hl2 : (l.length : Int) ≤ 300 := by have := h.n; omega
  have b1 := ibnd (A := 300000000) (B := 300000000) h.x1 h.x2 h.x1 h.x2
  have b2 := ibnd (A := 300000000) (B := 300000000) h.x1 h.x2 h.y1 h.y2
  have b3 := ibnd (A := 300000000) (B := 300000000) h.y1 h.y2 h.y1 h.y2
  have c1 := ibnd (A := 300) (B := 300000000000000) hl1 hl2 h.xx1 h.xx2
  have c2 := ibnd (A := 300) (B := 300000000000000) hl1 hl2 h.xy1 h.xy2
  have c3 := ibnd (A := 300) (B := 300000000000000) hl1 hl2 h.yy1 h.yy2
  have d1 := vXX_nonneg l
  have d2 := vYY_nonneg l
  refine ⟨⟨d1, ?_⟩, ⟨?_, ?_⟩, ⟨d2, ?_⟩⟩
  · unfold vXX; omega
  · unfold vXY; omega
  · unfold vXY; omega
  · unfold vYY; omega
/-- one point more -/
theorem sums_next {l : List (Int × Int)} {i : Nat} {x y : Int} (h : l[i]? = some (x, y)) : pX (l.take (i + 1)) = pX (l.take i) + x ∧ pY (l.take (i + 1)) = pY (l.take i) + y ∧ pXX (l.take (i + 1)) = pXX (l.take i) + x * x ∧ pXY (l.take (i + 1)) = pXY (l.take i) + x * y ∧ pYY (l.take (i + 1)) = pYY (l.take i) + y * y := by
  unfold pX pY pXX pXY pYY
  rw [List.take_add_one, h]
  simp
/-- the rest -/
theorem sums_rest (l : List (Int × Int)) (i : Nat) : pX (l.drop i) = pX l - pX (l.take i) ∧ pY (l.drop i) = pY l - pY (l.take i) ∧ pXX (l.drop i) = pXX l - pXX (l.take i) ∧ pXY (l.drop i) = pXY l - pXY (l.take i) ∧ pYY (l.drop i) = pYY l - pYY (l.take i) := by
  have e : l = l.take i ++ l.drop i := (List.take_append_drop i l).symm
  have key : ∀ f : Int × Int → Int, ((l.drop i).map f).sum = (l.map f).sum - ((l.take i).map f).sum := by
    intro f
    have h : (l.map f).sum = ((l.take i).map f).sum + ((l.drop i).map f).sum := by
      conv => lhs; rw [e]
      rw [List.map_append, List.sum_append]
    omega
  exact ⟨key _, key _, key _, key _, key _⟩
/-- strictly rising -/
def Rise (xs : List Int) : Prop := ∀ i x y, xs[i]? = some x → xs[i + 1]? = some y → x < y
/-- what checkPoints tells -/
def okZ (l : List Int) : Bool := l.all fun x => decide (-1000000 ≤ x) && decide (x ≤ 1000000)
def ptC (xs ys : List Int) : Int := if xs.length ≠ ys.length then 2 else if 300 < xs.length then 3 else if okZ xs = true ∧ okZ ys = true then 0 else 9
theorem okZ_mem {l : List Int} (h : okZ l = true) {x : Int} (hx : x ∈ l) : -1000000 ≤ x ∧ x ≤ 1000000 := by
  have := List.all_eq_true.1 h x hx
  simpa using this
theorem ptC_ok {xs ys : List Int} (h : ptC xs ys = 0) : xs.length = ys.length ∧ xs.length ≤ 300 ∧ OkP (xs.zip ys) := by
  unfold ptC at h
  split at h
  · cases h
  · rename_i h1
    split at h
    · cases h
    · rename_i h2
      split at h
      · rename_i h3
        refine ⟨by omega, by omega, fun p hp => ?_⟩
        have := List.of_mem_zip (a := p.1) (b := p.2) (by simpa using hp)
        exact ⟨okZ_mem h3.1 this.1, okZ_mem h3.2 this.2⟩
      · cases h
end Go.Proofs.YtnapdhfkgfjjfaaGreatDoor

/- Package judge: points checked. -/
namespace Go.Proofs.YtnapdhfkgfjjfaaGreatDoor
open Go Go.RowKit Go.Proofs

theorem rd_add {w : World} {b o j : Nat} {v : Value} (h : w.cell? ⟨b, o + j, none⟩ = some v) : w.cell? (Addr.add ⟨b, o, none⟩ j) = some v := by
  rcases Nat.eq_zero_or_pos j with rfl | hj
  · simpa [Addr.add] using h
  · simpa [Addr.add, Nat.ne_of_gt hj] using h
theorem rd_src {w : World} {A : Option Addr} {xs : List Int} (h : Rd w 0 w.heap.size 1 A xs.length (ints xs)) (h0 : 0 < (ints xs).length) : ∃ ad, A = some ad ∧ ∀ j v, (ints xs)[j]? = some v → w.cell? (ad.add j) = some v := by
  obtain ⟨b, o, e, _, _, hc⟩ := h.2 (by simpa [ints] using h0)
  exact ⟨⟨b, o, none⟩, e, fun j v hj => rd_add (hc j v hj)⟩
theorem ints_one (xs : List Int) : ∀ v ∈ ints xs, v.oneCell' = true := by
  intro v hv
  simp only [ints, List.mem_map] at hv
  obtain ⟨x, _, rfl⟩ := hv
  rfl
theorem splice_two (xs ys : List Int) : splice (splice (ints (List.replicate (xs.length + ys.length) 0)) 0 (ints xs)) xs.length (ints ys) = ints (xs ++ ys) := by
  have h1 : splice (ints (List.replicate (xs.length + ys.length) 0)) 0 (ints xs) = ints xs ++ ints (List.replicate ys.length 0) := by
    unfold splice
    simp [ints]
  rw [h1]
  unfold splice
  simp [ints]
set_option maxHeartbeats 8000000 in
set_option maxRecDepth 100000 in
theorem jJoined_any (A B : Option Addr) (c d : Nat) (xs ys : List Int) (w : World) (hr1 : Rd w 0 w.heap.size 1 A xs.length (ints xs)) (hr2 : Rd w 0 w.heap.size 1 B ys.length (ints ys)) (hl1 : xs.length ≤ 100000) (hl2 : ys.length ≤ 100000) :
    Calls Tryz.prog 29 #[.slice A xs.length c, .slice B ys.length d] w fun e w' => ∃ g, e = .returned (.slice (some ⟨g, 0, none⟩) (xs.length + ys.length) (xs.length + ys.length)) ∧ IBlk w' g (xs ++ ys) ∧ Below w.heap.size w w' := by
  obtain ⟨i0, hi0, hz0, hz1, hz2⟩ := info_parts Tryz.infoI4
  have HSZ := Lib.hid (show (Tryz.prog.info? 3).map (·.size) = some 1 by rw [hi0]; simp [hz1])
  have HUI := Lib.hid (Tryz.underlying22)
  have HR1 := Lib.hid hr1
  have HR2 := Lib.hid hr2
  have HSP := Lib.hid (splice_two xs ys)
  obtain ⟨n, hn⟩ : ∃ n, n = xs.length := ⟨_, rfl⟩
  obtain ⟨m, hm⟩ : ∃ m, m = ys.length := ⟨_, rfl⟩
  have HLX := Lib.hid (show (ints xs).length = n by simp [ints, hn])
  have HLY := Lib.hid (show (ints ys).length = m by simp [ints, hm])
  obtain ⟨cx, hcx⟩ : ∃ cx, cx = ints xs := ⟨_, rfl⟩
  obtain ⟨cy, hcy⟩ : ∃ cy, cy = ints ys := ⟨_, rfl⟩
  have HOX := Lib.hid (ints_one xs)
  have HOY := Lib.hid (ints_one ys)
  have HPX := Lib.hid (fun (W : World) (hW : Below w.heap.size w W) (h0 : 0 < (ints xs).length) => rd_src (hr1.old hW) h0)
  have HPY := Lib.hid (fun (W : World) (hW : Below w.heap.size w W) (h0 : 0 < (ints ys).length) => rd_src (hr2.old hW) h0)
  rw [← hcx] at HLX HOX HPX HSP
  rw [← hcy] at HLY HOY HPY HSP
  rw [← hn, ← hm] at HSP ⊢
  rw [← hn] at hl1
  rw [← hm] at hl2
  clear hr1 hr2 HR1 HR2 hcx hcy hn hm
  go_enter Tryz.func29, Tryz.ntmps29
  go_wp2_with (at_make; refine wpList_make_full _ rfl (.tmp 10) (.tmp 10) 22 rfl w.heap.size 3 i0 _ 1 Tryz.underlying22 hi0 hz0 hz1 .i64 .i64 _ _ (n + m) rfl rfl ?m1 ?m2 ?m3 ?m4 ?m5 ?_)
  case m1 => go_num
  case m2 => go_num
  case m3 => rw [hz2]; omega
  case m4 => unfold maxLen; omega
  case m5 => exact Nat.le_refl _
  intro w2 hown hgr
  rw [made_zerosI] at hown
  obtain ⟨hblk, -⟩ := IBlk.of_own hown
  have HB2 := Lib.hid (show Below w.heap.size w w2 from (Below.refl _ w).grown hgr (Nat.le_refl _) (fun k hk => by cases hk))
  have HBK := Lib.hid (show w2.heap[w.heap.size]? = some (.cells (ints (List.replicate (n + m) 0)).toArray 3 (0, 0)) from hblk)
  obtain ⟨c0, hc0⟩ : ∃ c0, c0 = ints (List.replicate (n + m) 0) := ⟨_, rfl⟩
  have HL0 := Lib.hid (show c0.length = n + m by rw [hc0]; simp [ints])
  rw [← hc0] at HBK HSP
  clear hown hgr hblk hc0
  go_wp2_with (with_reducible refine wpList_copy_splice rfl (.tmp 12) (.tmp 13) 22 22 rfl 3 HUI.out HSZ.out (some ⟨w.heap.size, 0, none⟩) A (n + m) (n + m) n c rfl rfl w.heap.size 0 c0 3 HBK.out cx (by rw [HLX.out, show Nat.min n (n + m) = min n (n + m) from rfl]; omega) (fun h0 => ⟨rfl, HPX.out _ HB2.out h0⟩) (by rw [HLX.out, HL0.out]; omega) HOX.out w.heap.size w HB2.out (Nat.le_refl _) ?_)
  intro w3 HG3 hb3
  have HB3 := Lib.hid hb3
  obtain ⟨c1, hc1⟩ : ∃ c1, c1 = splice c0 0 cx := ⟨_, rfl⟩
  have HL1 := Lib.hid (show c1.length = n + m by rw [hc1, length_splice _ _ _ (by rw [HLX.out, HL0.out]; omega), HL0.out])
  rw [← hc1] at HG3 HSP
  clear hc1 hb3
  have hnm : (n : Int) ≤ (n : Int) + (m : Int) := by omega
  have HFIN := Lib.hid (show ∀ w4 : World, Hid (w4.heap[w.heap.size]? = some (.cells (splice c1 n cy).toArray 3 (0, 0))) → IBlk w4 w.heap.size (xs ++ ys) from fun w4 h => by
    unfold IBlk
    rw [← HSP.out]; exact h.out)
  by_cases hm0 : m = 0
  · subst hm0
    go_wp2_with (with_reducible refine wpList_copy_splice rfl (.tmp 18) (.tmp 19) 22 22 rfl 3 HUI.out HSZ.out (some ⟨w.heap.size, 0, none⟩) B 0 0 0 d rfl rfl w.heap.size n c1 3 HG3.out cy (by have := HLY.out; show cy.length = min 0 0; omega) (fun h0 => by have := HLY.out; omega) (by have := HLY.out; have := HL1.out; omega) HOY.out w.heap.size w HB3.out (Nat.le_refl _) ?_)
    intro w4 HG4 hb4
    have HB4 := Lib.hid hb4
    have HI4 := Lib.hid (HFIN.out w4 HG4)
    clear hb4 HG4
    go_wp2
    go_ret
    exact ⟨w.heap.size, by rfl, HI4.out, HB4.out⟩
  · have hne1 : ¬ n + m = n := by omega
    have hne2 : ¬ (n : Int) + (m : Int) = (n : Int) := by omega
    have HM0 := Lib.hid (show 0 < m by omega)
    go_wp2_with (with_reducible refine wpList_copy_splice rfl (.tmp 18) (.tmp 19) 22 22 rfl 3 HUI.out HSZ.out (some ⟨w.heap.size, n, none⟩) B m m m d rfl rfl w.heap.size n c1 3 HG3.out cy (by rw [HLY.out]; show m = min m m; omega) (fun h0 => ⟨rfl, HPY.out _ HB3.out h0⟩) (by rw [HLY.out, HL1.out]; exact Nat.le_refl _) HOY.out w.heap.size w HB3.out (Nat.le_refl _) ?_)
    intro w4 HG4 hb4
    have HB4 := Lib.hid hb4
    have HI4 := Lib.hid (HFIN.out w4 HG4)
    clear hb4 HG4
    go_wp2
    go_ret
    exact ⟨w.heap.size, by rfl, HI4.out, HB4.out⟩
set_option maxHeartbeats 8000000 in
set_option maxRecDepth 100000 in
theorem jChkNum_any (A : Option Addr) (c : Nat) (xs : List Int) (w : World) (hr : Rd w 0 w.heap.size 1 A xs.length (ints xs)) (hl : xs.length ≤ 100000) :
    Calls Tryz.prog 36 #[.slice A xs.length c] w fun e w' => e = .returned (.int .i64 (if okZ xs = true then 0 else 9)) ∧ Below w.heap.size w w' := by
  have HR := Lib.hid hr
  have HIN := Lib.hid (fun x W => jInside_any x (-1000000) 1000000 W)
  have hall : (∀ j x, xs[j]? = some x → (decide (-1000000 ≤ x) && decide (x ≤ 1000000)) = true) → okZ xs = true := fun h => by
    unfold okZ
    rw [List.all_eq_true]
    intro x hx
    obtain ⟨j, hj⟩ := List.getElem?_of_mem hx
    exact h j x hj
  have hbad : ∀ j x, xs[j]? = some x → (decide (-1000000 ≤ x) && decide (x ≤ 1000000)) = false → ¬ okZ xs = true := fun j x hj h hk => by
    have := List.all_eq_true.1 hk x (List.mem_of_getElem? hj)
    rw [h] at this; cases this
  obtain ⟨V, hV⟩ : ∃ V : Int, V = if okZ xs = true then 0 else 9 := ⟨_, rfl⟩
  have HALL := Lib.hid (fun h => show V = 0 by rw [hV, if_pos (hall h)])
  have HBAD := Lib.hid (fun j x hj h => show V = 9 by rw [hV, if_neg (hbad j x hj h)])
  rw [← hV]
  clear hr hV hall hbad
  go_enter Tryz.func36, Tryz.ntmps36
  go_wp2
  go_loopw [4, 7] (fun _ kv wr => ∃ k : Nat, kv = .int .i64 (k : Nat) ∧ k ≤ xs.length ∧ (∀ j x, j < k → xs[j]? = some x → (decide (-1000000 ≤ x) && decide (x ≤ 1000000)) = true) ∧ Below w.heap.size w wr) (fun _ kv _ => xs.length - (intOf kv).toNat)
  case atStart => exact ⟨0, rfl, Nat.zero_le _, fun j x h => by omega, Below.refl _ _⟩
  case round =>
    obtain ⟨k, rfl, hk, hok, hbw⟩ := hrel
    have HBW := Lib.hid hbw
    have HOK := Lib.hid hok
    by_cases hlt : k < xs.length
    · obtain ⟨b, o, u, rfl, hb, hu, qk⟩ := (HR.out.old hbw).at1 hlt
      obtain ⟨x, ht, rfl⟩ := ints_get hu
      have HT := Lib.hid ht
      obtain ⟨zb, hzb⟩ : ∃ zb, zb = (decide (-1000000 ≤ x) && decide (x ≤ 1000000)) := ⟨_, rfl⟩
      have HI := Lib.hid (HIN.out x wr)
      rw [← hzb] at HI
      have HZB := Lib.hid hzb
      clear hok hbw hu ht hzb
      go_wp2_with fail
      (with_reducible refine (HI.out).mono ?_)
      rintro e w1 ⟨rfl, hw1⟩
      have hw1' := hw1.symm
      subst hw1'
      cases zb with
      | true =>
        go_wp2
        go_roundw
        case rel => exact ⟨k + 1, by go_num, by omega, fun j z hj hz => by
          rcases Nat.lt_or_ge j k with g | g
          · exact HOK.out j z g hz
          · obtain rfl : j = k := by omega
            rw [HT.out] at hz
            obtain rfl := Option.some.inj hz
            exact HZB.out.symm, HBW.out⟩
        case measure => simp [intOf]; omega
      | false =>
        have HV := Lib.hid (HBAD.out k x HT.out HZB.out.symm)
        go_wp2
        go_ret
        exact ⟨by rw [HV.out]; rfl, HBW.out⟩
    · have HV := Lib.hid (HALL.out (fun j x hj => HOK.out j x (by have := (List.getElem?_eq_some_iff.1 hj).1; omega) hj))
      clear hok hbw
      go_wp2
      go_ret
      exact ⟨by rw [HV.out]; rfl, HBW.out⟩
theorem okZ_app (xs ys : List Int) : okZ (xs ++ ys) = (okZ xs && okZ ys) := by unfold okZ; rw [List.all_append]
end Go.Proofs.YtnapdhfkgfjjfaaGreatDoor
