import Derived.Test.YtnapdhfkgfjjfaaGreatDoorG32
import Derived.Test.YtnapdhfkgfjjfaaGreatDoorJShort
import Derived.Test.YtnapdhfkgfjjfaaGreatDoorShelf
import Derived.Test.YtnapdhfkgfjjfaaGreatDoorG1
import Derived.Maps.Own
import Derived.Maps.OwnOps
import Derived.Maps.OwnSet
import Derived.Maps.RangeWalk
import Derived.Maps.AppendAt
/- Choices of some of several numbers: plain. -/
namespace Go.Proofs.YtnapdhfkgfjjfaaGreatDoor

/-- the sums of the choices of k of some numbers -/
def chs : List Int → Nat → List Int
  | _, 0 => [0]
  | [], _ + 1 => []
  | x :: l, k + 1 => (chs l k).map (x + ·) ++ chs l (k + 1)
theorem chs_zero (l : List Int) : chs l 0 = [0] := by cases l <;> rfl
theorem chs_cons (x : Int) (l : List Int) (k : Nat) : chs (x :: l) (k + 1) = (chs l k).map (x + ·) ++ chs l (k + 1) := rfl
theorem chs_over : ∀ (l : List Int) (k : Nat), l.length < k → chs l k = []
  | [], k + 1, _ => rfl
  | x :: l, k + 1, h => by
    simp only [List.length_cons] at h
    rw [chs_cons, chs_over l k (by omega), chs_over l (k + 1) (by omega)]; rfl
theorem chs_swap (x y : Int) (l : List Int) : ∀ k, (chs (x :: y :: l) k).Perm (chs (y :: x :: l) k)
  | 0 => by rw [chs_zero, chs_zero]
  | 1 => by
    rw [chs_cons, chs_cons, chs_cons, chs_cons, chs_zero, chs_zero, chs_zero]
    simp only [List.map_cons, List.map_nil, List.cons_append, List.nil_append]
    exact List.Perm.swap _ _ _
  | k + 2 => by
    rw [chs_cons, chs_cons, chs_cons, chs_cons, chs_cons, chs_cons, List.map_append, List.map_append]
    simp only [List.map_map, Function.comp_def]
    have e : (chs l k).map (fun z => x + (y + z)) = (chs l k).map (fun z => y + (x + z)) := List.map_congr_left fun z _ => by omega
    rw [e, List.append_assoc, List.append_assoc]
    refine List.Perm.append_left _ ?_
    rw [← List.append_assoc, ← List.append_assoc]
    exact List.Perm.append_right _ List.perm_append_comm
theorem chs_perm {a b : List Int} (h : a.Perm b) : ∀ k, (chs a k).Perm (chs b k) := by
  induction h with
  | nil => intro k; exact List.Perm.refl _
  | cons x _ ih =>
    intro k
    cases k with
    | zero => rw [chs_zero, chs_zero]
    | succ k => rw [chs_cons, chs_cons]; exact ((ih k).map _).append (ih (k + 1))
  | swap x y l => intro k; exact chs_swap y x l k
  | trans _ _ ih1 ih2 => intro k; exact (ih1 k).trans (ih2 k)
theorem chs_snoc (l : List Int) (x : Int) (k : Nat) : (chs (l ++ [x]) (k + 1)).Perm ((chs l k).map (x + ·) ++ chs l (k + 1)) := by
  have h : (l ++ [x]).Perm (x :: l) := List.perm_append_singleton x l
  exact chs_perm h (k + 1)
theorem chs_length_le : ∀ (l : List Int) (k : Nat), (chs l k).length ≤ 2 ^ l.length
  | l, 0 => by rw [chs_zero]; exact Nat.pow_pos (by omega)
  | [], k + 1 => Nat.zero_le _
  | x :: l, k + 1 => by
    have h1 := chs_length_le l k
    have h2 := chs_length_le l (k + 1)
    rw [chs_cons, List.length_append, List.length_map, List.length_cons, Nat.pow_succ]
    omega
theorem chs_prefix : ∀ (a b : List Int), a.sum ∈ chs (a ++ b) a.length
  | [], b => by rw [List.length_nil, chs_zero]; simp
  | x :: a, b => by
    rw [List.length_cons, List.cons_append, chs_cons, List.sum_cons, List.mem_append]
    exact .inl (List.mem_map.2 ⟨_, chs_prefix a b, rfl⟩)
/-- the others -/
theorem chs_rest : ∀ (l : List Int) (k j : Nat), k + j = l.length → (chs l j).Perm ((chs l k).map (fun s => l.sum - s))
  | [], k, j, h => by
    simp only [List.length_nil] at h
    obtain rfl : k = 0 := by omega
    obtain rfl : j = 0 := by omega
    simp [chs_zero]
  | x :: l, 0, j, h => by
    simp only [List.length_cons] at h
    obtain rfl : j = l.length + 1 := by omega
    have ih := chs_rest l 0 l.length (by omega)
    rw [chs_cons, chs_over l (l.length + 1) (by omega), List.append_nil, chs_zero]
    rw [chs_zero] at ih
    refine (ih.map _).trans ?_
    simp only [List.map_cons, List.map_nil, List.sum_cons]
    rw [show x + (l.sum - 0) = x + l.sum - 0 by omega]
  | x :: l, k + 1, 0, h => by
    simp only [List.length_cons] at h
    obtain rfl : k = l.length := by omega
    have ih := chs_rest l l.length 0 (by omega)
    rw [chs_cons, chs_over l (l.length + 1) (by omega), List.append_nil, chs_zero, List.map_map]
    rw [chs_zero] at ih
    refine ih.trans ?_
    refine List.Perm.of_eq (List.map_congr_left fun z _ => ?_)
    simp only [Function.comp_def, List.sum_cons]; omega
  | x :: l, k + 1, j + 1, h => by
    simp only [List.length_cons] at h
    have i1 := chs_rest l (k + 1) j (by omega)
    have i2 := chs_rest l k (j + 1) (by omega)
    rw [chs_cons, chs_cons, List.map_append, List.map_map]
    refine ((i1.map _).append i2).trans ?_
    refine List.perm_append_comm.trans ?_
    rw [List.map_map]
    refine List.Perm.append (List.Perm.of_eq (List.map_congr_left fun z _ => ?_)) (List.Perm.of_eq (List.map_congr_left fun z _ => ?_))
    · simp only [Function.comp_def, List.sum_cons]; omega
    · simp only [Function.comp_def, List.sum_cons]; omega
/-- how many are at most, and at least, a value -/
def cntLe (v : Int) (l : List Int) : Nat := l.countP (fun s => decide (s ≤ v))
def cntGe (v : Int) (l : List Int) : Nat := l.countP (fun s => decide (v ≤ s))
theorem cnt_both (v : Int) : ∀ l : List Int, cntLe v l + cntGe v l = l.length + l.count v
  | [] => rfl
  | x :: l => by
    have ih := cnt_both v l
    unfold cntLe cntGe at *
    rw [List.countP_cons, List.countP_cons, List.count_cons, List.length_cons]
    rcases Int.lt_trichotomy x v with h | h | h
    · have h1 : decide (x ≤ v) = true := decide_eq_true (by omega)
      have h2 : decide (v ≤ x) = false := decide_eq_false (by omega)
      have h3 : (x == v) = false := by rw [beq_eq_false_iff_ne]; omega
      simp only [h1, h2, h3]
      simp; omega
    · subst h
      simp; omega
    · have h1 : decide (x ≤ v) = false := decide_eq_false (by omega)
      have h2 : decide (v ≤ x) = true := decide_eq_true (by omega)
      have h3 : (x == v) = false := by rw [beq_eq_false_iff_ne]; omega
      simp only [h1, h2, h3]
      simp; omega
theorem cnt_more {v : Int} {l : List Int} (h : v ∈ l) : l.length < cntLe v l + cntGe v l := by
  have h1 := cnt_both v l
  have h2 := List.count_pos_iff.2 h
  omega
theorem cntLe_perm {a b : List Int} (h : a.Perm b) (v : Int) : cntLe v a = cntLe v b := h.countP_eq _
theorem cntGe_perm {a b : List Int} (h : a.Perm b) (v : Int) : cntGe v a = cntGe v b := h.countP_eq _
theorem cntLe_rest (T v : Int) (l : List Int) : cntLe v (l.map (fun s => T - s)) = cntGe (T - v) l := by
  unfold cntLe cntGe
  rw [List.countP_map]
  refine List.countP_congr fun x _ => ?_
  simp only [Function.comp_def, decide_eq_true_eq]
  omega
theorem cntLe_shift (d v : Int) (l : List Int) : cntLe v (l.map (d + ·)) = cntLe (v - d) l := by
  unfold cntLe
  rw [List.countP_map]
  refine List.countP_congr fun x _ => ?_
  simp only [Function.comp_def, decide_eq_true_eq]
  omega
theorem cntGe_shift (d v : Int) (l : List Int) : cntGe v (l.map (d + ·)) = cntGe (v - d) l := by
  unfold cntGe
  rw [List.countP_map]
  refine List.countP_congr fun x _ => ?_
  simp only [Function.comp_def, decide_eq_true_eq]
  omega
/-- a constant more at each element -/
theorem chs_const (d : Int) : ∀ (l : List Int) (k : Nat), chs (l.map (d + ·)) k = (chs l k).map ((k : Int) * d + ·)
  | l, 0 => by rw [chs_zero, chs_zero]; simp
  | [], k + 1 => rfl
  | x :: l, k + 1 => by
    rw [List.map_cons, chs_cons, chs_cons, chs_const d l k, chs_const d l (k + 1), List.map_append, List.map_map, List.map_map]
    congr 1
    refine List.map_congr_left fun z _ => ?_
    simp only [Function.comp_def]
    have : ((k + 1 : Nat) : Int) * d = (k : Int) * d + d := by rw [Int.natCast_add, Int.add_mul]; simp
    omega
/-- entries of a table: a sum, and how often it comes -/
theorem tab_sum {E : List (Int × Int)} (P : Int → Bool) : ∀ {L : List Int}, (E.map (·.1)).Nodup → (∀ e ∈ E, e.2 = (L.count e.1 : Nat)) → (∀ s ∈ L, s ∈ E.map (·.1)) → (E.map fun e => if P e.1 = true then e.2 else 0).sum = (L.countP P : Nat) := by
  induction E with
  | nil =>
    intro L _ _ h
    have : L = [] := List.eq_nil_iff_forall_not_mem.2 fun s hs => by simpa using h s hs
    subst this; rfl
  | cons e E ih =>
    intro L hn hv hk
    rw [List.map_cons, List.nodup_cons] at hn
    have i := ih (L := L.filter (fun s => s != e.1)) hn.2 (fun x hx => ?_) (fun s hs => ?_)
    · rw [List.map_cons, List.sum_cons, i, hv e (by simp)]
      have hc : ∀ M : List Int, M.countP P = (if P e.1 = true then M.count e.1 else 0) + (M.filter (fun s => s != e.1)).countP P := by
        intro M
        induction M with
        | nil => simp
        | cons y M ihM =>
          rw [List.countP_cons, ihM, List.count_cons, List.filter_cons]
          by_cases hy : y = e.1
          · subst hy
            by_cases hp : P e.1 = true
            · simp [hp]; omega
            · simp [hp]
          · have hb : (y == e.1) = false := by simpa using hy
            have hb2 : (y != e.1) = true := by simpa using hy
            rw [hb, if_pos hb2, List.countP_cons]
            by_cases hp : P e.1 = true
            · simp [hp]; omega
            · simp [hp]
      rw [hc L]
      by_cases hp : P e.1 = true
      · simp [hp]
      · simp [hp]
    · rw [hv x (by simp [hx]), List.count_filter]
      have : x.1 ≠ e.1 := fun hc => hn.1 (by rw [← hc]; exact List.mem_map_of_mem hx)
      simpa using this
    · rw [List.mem_filter] at hs
      have := hk s hs.1
      rw [List.map_cons, List.mem_cons] at this
      rcases this with h | h
      · rw [h] at hs; simp at hs
      · exact h
/-- the scores of the elements among all -/
def scr (l : List Int) (x : Int) : Int := (l.map fun y => if y < x then (2 : Int) else if y = x then 1 else 0).sum
def scrs (l : List Int) : List Int := l.map (scr l)
theorem scr_pair (l : List Int) : ∀ m : List Int, (m.map (scr l)).sum + (l.map (scr m)).sum = 2 * (m.length : Int) * (l.length : Int)
  | [] => by
    have : ∀ l : List Int, (l.map (scr [])).sum = 0 := by
      intro l
      induction l with
      | nil => rfl
      | cons x l ih => rw [List.map_cons, List.sum_cons, ih]; rfl
    simp [this]
  | x :: m => by
    have ih := scr_pair l m
    have h1 : ∀ l : List Int, (l.map (scr (x :: m))).sum = (l.map (scr m)).sum + (l.map fun y => if x < y then (2 : Int) else if x = y then 1 else 0).sum := by
      intro l
      induction l with
      | nil => rfl
      | cons y l ihl =>
        rw [List.map_cons, List.sum_cons, ihl, List.map_cons, List.map_cons, List.sum_cons, List.sum_cons]
        have : scr (x :: m) y = (if x < y then (2 : Int) else if x = y then 1 else 0) + scr m y := by unfold scr; rw [List.map_cons, List.sum_cons]
        rw [this]; omega
    have h2 : ∀ l : List Int, scr l x + (l.map fun y => if x < y then (2 : Int) else if x = y then 1 else 0).sum = 2 * (l.length : Int) := by
      intro l
      induction l with
      | nil => rfl
      | cons y l ihl =>
        have : scr (y :: l) x = (if y < x then (2 : Int) else if y = x then 1 else 0) + scr l x := by unfold scr; rw [List.map_cons, List.sum_cons]
        rw [this, List.map_cons, List.sum_cons, List.length_cons, Int.natCast_add]
        rcases Int.lt_trichotomy x y with h | h | h
        · rw [if_neg (by omega), if_neg (by omega), if_pos h]; omega
        · subst h; simp; omega
        · rw [if_pos h, if_neg (by omega), if_neg (by omega)]; omega
    have := h2 l
    rw [h1 l, List.map_cons, List.sum_cons, List.length_cons, Int.natCast_add]
    have e : 2 * ((m.length : Int) + ((1 : Nat) : Int)) * (l.length : Int) = 2 * (m.length : Int) * (l.length : Int) + 2 * (l.length : Int) := by
      rw [Int.mul_add, Int.add_mul]; simp
    omega
theorem scr_all (l : List Int) : (scrs l).sum = (l.length : Int) * (l.length : Int) := by
  have := scr_pair l l
  unfold scrs
  have e : 2 * (l.length : Int) * (l.length : Int) = 2 * ((l.length : Int) * (l.length : Int)) := Int.mul_assoc _ _ _
  omega
theorem sum_perm {a b : List Int} (h : a.Perm b) : a.sum = b.sum := by
  induction h with
  | nil => rfl
  | cons x _ ih => rw [List.sum_cons, List.sum_cons, ih]
  | swap x y l => simp only [List.sum_cons]; omega
  | trans _ _ i1 i2 => exact i1.trans i2
theorem scr_perm {a b : List Int} (h : a.Perm b) (x : Int) : scr a x = scr b x := by
  unfold scr
  exact sum_perm (h.map _)
theorem scrs_perm {a b : List Int} (h : a.Perm b) : (scrs a).Perm (scrs b) := by
  unfold scrs
  rw [show scr a = scr b from funext fun x => scr_perm h x]
  exact h.map _
theorem scr_bound : ∀ (l : List Int) (x : Int), 0 ≤ scr l x ∧ scr l x ≤ 2 * (l.length : Int)
  | [], x => ⟨Int.le_refl _, Int.le_refl _⟩
  | y :: l, x => by
    have ih := scr_bound l x
    have : scr (y :: l) x = (if y < x then (2 : Int) else if y = x then 1 else 0) + scr l x := by unfold scr; rw [List.map_cons, List.sum_cons]
    rw [this, List.length_cons, Int.natCast_add]
    split
    · omega
    · split <;> omega
end Go.Proofs.YtnapdhfkgfjjfaaGreatDoor

/- Choices, counted in tables: plain. -/
namespace Go.Proofs.YtnapdhfkgfjjfaaGreatDoor

/-- how often a sum comes -/
def cN (L : List Int) (x : Int) : Int := (L.count x : Nat)
theorem count_add (L : List Int) (w x : Int) : (L.map (w + ·)).count x = L.count (x - w) := by
  induction L with
  | nil => rfl
  | cons y L ih =>
    rw [List.map_cons, List.count_cons, List.count_cons, ih]
    congr 1
    by_cases h : w + y = x
    · have h1 : (w + y == x) = true := by simpa using h
      have h2 : (y == x - w) = true := by simp; omega
      rw [h1, h2]
    · have h1 : (w + y == x) = false := by simpa using h
      have h2 : (y == x - w) = false := by simp; omega
      rw [h1, h2]
theorem cN_snoc (l : List Int) (w : Int) (k : Nat) (x : Int) : cN (chs (l ++ [w]) (k + 1)) x = cN (chs l (k + 1)) x + cN (chs l k) (x - w) := by
  unfold cN
  rw [(chs_snoc l w k).count_eq, List.count_append, count_add]
  omega
theorem cN_zero (l : List Int) (w : Int) (x : Int) : cN (chs (l ++ [w]) 0) x = cN (chs l 0) x := by rw [chs_zero, chs_zero]
theorem cN_nil (k : Nat) (x : Int) : cN (chs [] (k + 1)) x = 0 := rfl
theorem cN_one (x : Int) : cN (chs [] 0) x = if x = 0 then 1 else 0 := by
  rw [chs_zero]; unfold cN
  rw [List.count_cons, List.count_nil]
  by_cases h : x = 0
  · subst h; rfl
  · rw [if_neg h]
    have h1 : ((0 : Int) == x) = false := by simp; omega
    rw [h1]; rfl
theorem cN_bound (l : List Int) (k : Nat) (x : Int) (h : l.length ≤ 40) : 0 ≤ cN (chs l k) x ∧ cN (chs l k) x ≤ 1099511627776 := by
  unfold cN
  have h1 : (chs l k).count x ≤ (chs l k).length := List.count_le_length
  have h2 := chs_length_le l k
  have h3 : 2 ^ l.length ≤ 2 ^ 40 := Nat.pow_le_pow_right (by omega) h
  have h4 : (2 : Nat) ^ 40 = 1099511627776 := by decide
  omega
/-- the table of i + 1 while the entries of table i are added, moved by w -/
def gZ (f2 f1 : Int → Int) (w : Int) (done : Int → Bool) (x : Int) : Int := f2 x + if done (x - w) = true then f1 (x - w) else 0
theorem gZ_start (f2 f1 : Int → Int) (w : Int) : gZ f2 f1 w (fun _ => false) = f2 := by funext x; unfold gZ; simp
theorem gZ_step (f2 f1 : Int → Int) (w y : Int) (done : Int → Bool) (h : done y = false) : (fun x => if x = y + w then gZ f2 f1 w done (y + w) + f1 y else gZ f2 f1 w done x) = gZ f2 f1 w (fun z => done z || z == y) := by
  funext x
  by_cases hx : x = y + w
  · subst hx
    rw [if_pos rfl]
    unfold gZ
    rw [show y + w - w = y by omega, h]
    simp
  · rw [if_neg hx]
    unfold gZ
    have : (x - w == y) = false := by simp; omega
    simp only [this, Bool.or_false]
theorem gZ_all (f2 f1 : Int → Int) (w : Int) (done : Int → Bool) (x : Int) (h : f1 (x - w) ≠ 0 → done (x - w) = true) : gZ f2 f1 w done x = f2 x + f1 (x - w) := by
  unfold gZ
  by_cases hf : f1 (x - w) = 0
  · rw [hf]; simp
  · rw [if_pos (h hf)]
/-- entries that have come -/
def sumE (P : Int → Bool) (E : List (Int × Int)) : Int := (E.map fun e => if P e.1 = true then e.2 else 0).sum
theorem sumE_snoc (P : Int → Bool) (E : List (Int × Int)) (e : Int × Int) : sumE P (E ++ [e]) = sumE P E + if P e.1 = true then e.2 else 0 := by
  unfold sumE; rw [List.map_append, List.sum_append]; simp
theorem sumE_all {E : List (Int × Int)} {L : List Int} (P : Int → Bool) (h1 : (E.map (·.1)).Nodup) (h2 : ∀ e ∈ E, e.2 = cN L e.1) (h3 : ∀ s ∈ L, s ∈ E.map (·.1)) : sumE P E = (L.countP P : Nat) := tab_sum P h1 h2 h3
theorem sumE_le {E : List (Int × Int)} {L : List Int} (P : Int → Bool) (h1 : (E.map (·.1)).Nodup) (h2 : ∀ e ∈ E, e.2 = cN L e.1) : 0 ≤ sumE P E ∧ sumE P E ≤ (L.length : Nat) := by
  have h := tab_sum (E := E) (L := L.filter (fun s => decide (s ∈ E.map (·.1)))) P h1 (fun e he => by
    rw [h2 e he]
    unfold cN
    rw [List.count_filter (by simpa using ⟨e.2, he⟩)]) (fun s hs => by simpa using (List.mem_filter.1 hs).2)
  unfold sumE
  rw [h]
  have g1 : (L.filter (fun s => decide (s ∈ E.map (·.1)))).countP P ≤ (L.filter (fun s => decide (s ∈ E.map (·.1)))).length := List.countP_le_length
  have g2 : (L.filter (fun s => decide (s ∈ E.map (·.1)))).length ≤ L.length := List.length_filter_le _ _
  omega
/-- partial scores -/
def scP (l : List Int) (x : Int) (k : Nat) : Int := scr (l.take k) x
theorem scP_step {l : List Int} {k : Nat} {y : Int} (x : Int) (h : l[k]? = some y) : scP l x (k + 1) = scP l x k + (if y < x then 2 else if y = x then 1 else 0) := by
  unfold scP scr
  rw [List.take_add_one, h]
  simp
theorem scP_all (l : List Int) (x : Int) : scP l x l.length = scr l x := by unfold scP; rw [List.take_length]
theorem scP_nil (l : List Int) (x : Int) : scP l x 0 = 0 := rfl
theorem scP_bound (l : List Int) (x : Int) (k : Nat) (h : l.length ≤ 1000000) : 0 ≤ scP l x k ∧ scP l x k ≤ 2000000 := by
  have h1 := scr_bound (l.take k) x
  have h2 : (l.take k).length ≤ l.length := by rw [List.length_take]; omega
  unfold scP
  omega
end Go.Proofs.YtnapdhfkgfjjfaaGreatDoor

/- Package judge: score, checkSamples. -/
namespace Go.Proofs.YtnapdhfkgfjjfaaGreatDoor
open Go Go.RowKit Go.Proofs

set_option maxHeartbeats 8000000 in
set_option maxRecDepth 100000 in
theorem jScore_any (A : Option Addr) (c : Nat) (l : List Int) (x : Int) (w : World) (hr : Rd w 0 w.heap.size 1 A l.length (ints l)) (hl : l.length ≤ 1000000) :
    Calls Tryz.prog 30 #[.slice A l.length c, .int .i64 x] w fun e w' => e = .returned (.int .i64 (scr l x)) ∧ Below w.heap.size w w' := by
  have HR := Lib.hid hr
  have HBD := Lib.hid (fun k => scP_bound l x k hl)
  have HST := Lib.hid (fun k y (h : l[k]? = some y) => scP_step x h)
  have HAL := Lib.hid (scP_all l x)
  have HNI := Lib.hid (scP_nil l x)
  clear hr
  go_enter Tryz.func30, Tryz.ntmps30
  go_wp2
  go_loopw [5, 10] (fun nv kv wr => ∃ k : Nat, kv = .int .i64 (k : Nat) ∧ k ≤ l.length ∧ nv = .int .i64 (scP l x k) ∧ Below w.heap.size w wr) (fun _ kv _ => l.length - (intOf kv).toNat)
  case atStart => exact ⟨0, rfl, by omega, by rw [HNI.out], Below.refl _ _⟩
  case round =>
    obtain ⟨k, rfl, hk, rfl, hbw⟩ := hrel
    have HBW := Lib.hid hbw
    obtain ⟨b1, b2⟩ := HBD.out k
    obtain ⟨S, hS⟩ : ∃ S, S = scP l x k := ⟨_, rfl⟩
    rw [← hS] at b1 b2 ⊢
    have HS := Lib.hid hS
    by_cases hlt : k < l.length
    · obtain ⟨b, o, u, rfl, _, hu, hc⟩ := (HR.out.old hbw).at1 hlt
      obtain ⟨y, hy, rfl⟩ := ints_get hu
      have HY := Lib.hid (HST.out k y hy)
      clear hu hy hbw hS
      by_cases h1 : y < x
      · have t1 : decide (y < x) = true := decide_eq_true h1
        have HN := Lib.hid (show scP l x (k + 1) = S + 2 by rw [HY.out, if_pos h1, HS.out])
        go_wp2
        go_roundw
        case rel => exact ⟨k + 1, by go_num, by omega, by rw [HN.out], HBW.out⟩
        case measure => simp [intOf]; omega
      · have t1 : decide (y < x) = false := decide_eq_false h1
        by_cases h2 : y = x
        · have t2 : (y == x) = true := by simpa using h2
          have HN := Lib.hid (show scP l x (k + 1) = S + 1 by rw [HY.out, if_neg h1, if_pos h2, HS.out])
          subst h2
          go_wp2
          go_roundw
          case rel => exact ⟨k + 1, by go_num, by omega, by rw [HN.out], HBW.out⟩
          case measure => simp [intOf]; omega
        · have t2 : (y == x) = false := by simpa using h2
          have HN := Lib.hid (show scP l x (k + 1) = S by rw [HY.out, if_neg h1, if_neg h2, HS.out]; omega)
          go_wp2
          go_roundw
          case rel => exact ⟨k + 1, by go_num, by omega, by rw [HN.out], HBW.out⟩
          case measure => simp [intOf]; omega
    · obtain rfl : k = l.length := by omega
      have HF := Lib.hid (show scr l x = S by rw [← HAL.out, HS.out])
      clear hbw hS
      go_wp2
      go_ret
      exact ⟨by rw [HF.out]; rfl, HBW.out⟩
/-- the code of two samples -/
def smC (a b : List Int) (most : Int) : Int := if a.length = 0 ∨ b.length = 0 then 13 else if most < (a.length : Int) + (b.length : Int) then 3 else if okZ (a ++ b) = true then 0 else 9
theorem smC_empty {a b : List Int} {m : Int} (h : a.length = 0 ∨ b.length = 0) : smC a b m = 13 := by unfold smC; rw [if_pos h]
theorem smC_size {a b : List Int} {m : Int} (h : ¬ (a.length = 0 ∨ b.length = 0)) (h2 : m < (a.length : Int) + (b.length : Int)) : smC a b m = 3 := by unfold smC; rw [if_neg h, if_pos h2]
theorem smC_num {a b : List Int} {m : Int} (h : ¬ (a.length = 0 ∨ b.length = 0)) (h2 : ¬ m < (a.length : Int) + (b.length : Int)) : smC a b m = if okZ (a ++ b) = true then 0 else 9 := by unfold smC; rw [if_neg h, if_neg h2]
set_option maxHeartbeats 8000000 in
set_option maxRecDepth 100000 in
theorem jChkSmp_any (A B : Option Addr) (c d : Nat) (a b : List Int) (m : Int) (w : World) (hr1 : Rd w 0 w.heap.size 1 A a.length (ints a)) (hr2 : Rd w 0 w.heap.size 1 B b.length (ints b)) (hm : m ≤ 1000) (hc1 : a.length ≤ 9223372036854775807) (hc2 : b.length ≤ 9223372036854775807) (hs : a.length + b.length ≤ 9223372036854775807) :
    Calls Tryz.prog 28 #[.slice A a.length c, .slice B b.length d, .int .i64 m] w fun e w' => e = .returned (.int .i64 (smC a b m)) ∧ Below w.heap.size w w' := by
  have HR1 := Lib.hid hr1
  have HR2 := Lib.hid hr2
  clear hr1 hr2
  by_cases ha : a.length = 0
  · rw [smC_empty (.inl ha)]
    have t1 : ((a.length : Int) == 0) = true := by rw [ha]; rfl
    go_enter Tryz.func28, Tryz.ntmps28
    go_wp2
    go_ret
    exact ⟨rfl, Below.refl _ _⟩
  · have t1 : ((a.length : Int) == 0) = false := by rw [beq_eq_false_iff_ne]; omega
    by_cases hb : b.length = 0
    · rw [smC_empty (.inr hb)]
      have t2 : ((b.length : Int) == 0) = true := by rw [hb]; rfl
      clear ha
      go_enter Tryz.func28, Tryz.ntmps28
      go_wp2
      go_ret
      exact ⟨rfl, Below.refl _ _⟩
    · have t2 : ((b.length : Int) == 0) = false := by rw [beq_eq_false_iff_ne]; omega
      have hab : ¬ (a.length = 0 ∨ b.length = 0) := by omega
      by_cases hl : m < (a.length : Int) + (b.length : Int)
      · rw [smC_size hab hl]
        have t3 : decide (m < (a.length : Int) + (b.length : Int)) = true := decide_eq_true hl
        clear ha hb hab
        go_enter Tryz.func28, Tryz.ntmps28
        go_wp2
        go_ret
        exact ⟨rfl, Below.refl _ _⟩
      · rw [smC_num hab hl]
        have t3 : decide (m < (a.length : Int) + (b.length : Int)) = false := decide_eq_false hl
        have HJ := Lib.hid (fun W (hW : Below w.heap.size w W) => jJoined_any A B c d a b W (HR1.out.old hW) (HR2.out.old hW) (by omega) (by omega))
        have HCK := Lib.hid (fun W g (h : IBlk W g (a ++ b)) => jChkNum_any (some ⟨g, 0, none⟩) (a.length + b.length) (a ++ b) W h.rd (by rw [List.length_append]; omega))
        rw [List.length_append] at HCK
        obtain ⟨V, hV⟩ : ∃ V : Int, V = if okZ (a ++ b) = true then 0 else 9 := ⟨_, rfl⟩
        rw [← hV] at HCK ⊢
        clear ha hb hab hV
        go_enter Tryz.func28, Tryz.ntmps28
        go_wp2_with fail
        (with_reducible refine (HJ.out w (Below.refl _ _)).mono ?_)
        rintro e w1 ⟨g, rfl, hg, hb1⟩
        have HB1 := Lib.hid hb1
        have HC1 := Lib.hid (HCK.out w1 g hg)
        clear hg hb1
        go_wp2_with fail
        (with_reducible refine (HC1.out).mono ?_)
        rintro e w2 ⟨rfl, hb2⟩
        have HB2 := Lib.hid (below_next HB1.out hb2)
        clear hb2
        go_wp2
        go_ret
        exact ⟨rfl, HB2.out⟩
end Go.Proofs.YtnapdhfkgfjjfaaGreatDoor

/- Maps of integers to integers of one's own (map[int]int): what they hold, and loops over them. -/
namespace Go.Proofs.YtnapdhfkgfjjfaaGreatDoor
open Go Go.RowKit Go.Proofs Go.Maps

theorem lawZ : Keyed Tryz.prog 3 := int_keyed Tryz.underlying3
theorem zeroZ (w : World) : (zeroValue 3).run Tryz.prog w = .ok (.int .i64 0) w := by kernel_rfl
/-- block m is a map[int]int of at most n entries that holds f, with keys from -B to B -/
def MapZ (w : World) (m n : Nat) (B : Int) (f : Int → Int) : Prop :=
  ∃ D : DataW Unit, w.ownsMap Tryz.prog 3 (plainElem Tryz.prog 3) m n D ∧ (∀ x, (Lit.int .i64 x).wf = true → D.atKey (.int .i64 x) (.lit (.int .i64 0)) = .lit (.int .i64 (f x))) ∧ ∀ x, has D (.int .i64 x) = true → -B ≤ x ∧ x ≤ B
theorem litZ_inj {H : Type} {a b : Int} (h : (DataW.lit (.int .i64 a) : DataW H) = .lit (.int .i64 b)) : a = b := by
  injection h with h; injection h
theorem wfZ {x : Int} (h0 : -9223372036854775808 ≤ x) (h1 : x ≤ 9223372036854775807) : (Lit.int .i64 x).wf = true := by
  simp [Lit.wf, IntKind.min, IntKind.max, IntKind.signed, IntKind.bits]; omega
theorem ofWfZ {x : Int} (h : (Lit.int .i64 x).wf = true) : -9223372036854775808 ≤ x ∧ x ≤ 9223372036854775807 := by
  simp [Lit.wf, IntKind.min, IntKind.max, IntKind.signed, IntKind.bits] at h; omega
/-- f with c at x -/
def updZ (f : Int → Int) (x c : Int) : Int → Int := fun y => if y = x then c else f y
theorem mapZ_made (w : World) : MapZ (w.alloc (.map #[] 0)) w.heap.size 0 0 (fun _ => 0) :=
  ⟨.map [], World.ownsMap_made _ _ _ _, fun _x _ => rfl, fun x h => by cases h⟩
theorem MapZ.mono {w : World} {m n n' : Nat} {B B' : Int} {f : Int → Int} (h : MapZ w m n B f) (hn : n ≤ n') (hB : B ≤ B') : MapZ w m n' B' f := by
  obtain ⟨D, h1, h2, h3⟩ := h
  exact ⟨D, h1.mono hn, h2, fun x hx => by have := h3 x hx; omega⟩
theorem MapZ.fr {may : Nat → Prop} {w w' : World} {m n : Nat} {B : Int} {f : Int → Int} (h : MapZ w m n B f) (hf : Fr may w w') (hm : ¬ may m) : MapZ w' m n B f := by
  obtain ⟨D, h1, h2⟩ := h
  have hbl := h1.lt
  obtain ⟨es, clock, h3, h4⟩ := h1
  exact ⟨D, ⟨es, clock, (hf.block m hbl hm).trans h3, h4⟩, h2⟩
theorem MapZ.lt {w : World} {m n : Nat} {B : Int} {f : Int → Int} (h : MapZ w m n B f) : m < w.heap.size := by
  obtain ⟨D, h1, _⟩ := h; exact h1.lt
theorem MapZ.on {w w' : World} {m n : Nat} {B : Int} {f : Int → Int} (h : MapZ w m n B f) (hb : Below w.heap.size w w') : MapZ w' m n B f :=
  h.fr (Fr.of_below hb) (by have := h.lt; omega)
theorem isMapZ {w : World} {m n : Nat} {D : DataW Unit} {R : Value → Option (DataW Unit × List MemPlace)} {P : Program} {k : TypeId} (h : w.ownsMap P k R m n D) : IsMap D := by
  obtain ⟨es, clock, _, _, _, hD⟩ := h; exact ⟨_, hD⟩
/-- the world behind 'm[x] = c' -/
noncomputable def putZ (m : Nat) (x c : Int) (w : World) : World :=
  match (Instr.mapUpdate 55 (.map (some m)) (.int .i64 x) (.int .i64 c)).run Tryz.prog w with | .ok _ w' => w' | _ => w
theorem putZ_run {w : World} {m n : Nat} {B : Int} {f : Int → Int} (h : MapZ w m n B f) (hn : n < 10000000000000) (x c : Int) (h0 : -B ≤ x) (h1 : x ≤ B) (hB : B ≤ 1000000000000) (hc0 : -9223372036854775808 ≤ c) (hc1 : c ≤ 9223372036854775807) :
    (Instr.mapUpdate 55 (.map (some m)) (.int .i64 x) (.int .i64 c)).run Tryz.prog w = .ok () (putZ m x c w) ∧ MapZ (putZ m x c w) m (n + 1) B (updZ f x c) ∧ w.grownBy (putZ m x c w) (some m) := by
  obtain ⟨D, hown, hD, hK⟩ := h
  obtain ⟨w', hrun, g1, g2⟩ := hown.update lawZ Tryz.underlying55 (by unfold maxLen; omega) (keyOf_int_mk Tryz.underlying3 (wfZ (x := x) (by omega) (by omega))) (plainElem_int Tryz.underlying3 (wfZ hc0 hc1))
  have e : putZ m x c w = w' := by unfold putZ; rw [hrun]
  rw [e]
  have hm := isMapZ hown
  refine ⟨hrun, ⟨_, g1, fun y hy => ?_, fun y hy => ?_⟩, g2⟩
  · unfold updZ
    by_cases e : y = x
    · subst e
      rw [if_pos rfl, atKey_put_same (k := .int .i64 y) hm trivial]
    · rw [if_neg e, atKey_put_other (by simpa using e), hD y hy]
  · by_cases e : y = x
    · subst e; exact ⟨h0, h1⟩
    · rw [has_put_other (by simpa using e)] at hy
      exact hK y hy
theorem lookZ_run {w : World} {m n : Nat} {B : Int} {f : Int → Int} (h : MapZ w m n B f) (x : Int) (h0 : -9223372036854775808 ≤ x) (h1 : x ≤ 9223372036854775807) :
    (Instr.lookup 55 (.map (some m)) (.int .i64 x) false).run Tryz.prog w = .ok (.int .i64 (f x)) w := by
  obtain ⟨D, hown, hD, _⟩ := h
  obtain ⟨c, hrun, hat, _⟩ := hown.lookup_int lawZ Tryz.underlying55 Tryz.underlying3 (zeroZ _) (keyOf_int_mk Tryz.underlying3 (wfZ h0 h1))
  have : c = f x := litZ_inj (hat.symm.trans (hD x (wfZ h0 h1)))
  rw [hrun, this]
/-- a loop over such a map: iterator r, which keys have come, how many entries are to come -/
def RgZ (w : World) (m r n : Nat) (B : Int) (f : Int → Int) (done : Int → Bool) (cnt : Nat) : Prop :=
  ∃ (D : DataW Unit) (left : Lit → Bool), w.ranges Tryz.prog 3 (plainElem Tryz.prog 3) m r n D left cnt ∧ (∀ x, (Lit.int .i64 x).wf = true → D.atKey (.int .i64 x) (.lit (.int .i64 0)) = .lit (.int .i64 (f x))) ∧ (∀ x, has D (.int .i64 x) = true → -B ≤ x ∧ x ≤ B) ∧ ∀ x, left (.int .i64 x) = (has D (.int .i64 x) && !done x)
theorem RgZ.fr {may : Nat → Prop} {w w' : World} {m r n : Nat} {B : Int} {f : Int → Int} {done : Int → Bool} {cnt : Nat} (h : RgZ w m r n B f done cnt) (hf : Fr may w w') (hm : ¬ may m) (hr : ¬ may r) : RgZ w' m r n B f done cnt := by
  obtain ⟨D, left, h1, h2⟩ := h
  refine ⟨D, left, ?_, h2⟩
  have hrl := h1.lt
  have hbl := h1.owns.lt
  obtain ⟨es, clock, since, seen, c0, g1, g2, g3, g4, g5, g6⟩ := h1
  exact ⟨es, clock, since, seen, c0, (hf.block m hbl hm).trans g1, g2, g3, g4, (hf.block r hrl hr).trans g5, g6⟩
theorem RgZ.owns {w : World} {m r n : Nat} {B : Int} {f : Int → Int} {done : Int → Bool} {cnt : Nat} (h : RgZ w m r n B f done cnt) : MapZ w m n B f := by
  obtain ⟨D, left, h1, h2, h3, _⟩ := h
  exact ⟨D, h1.owns, h2, h3⟩
theorem RgZ.lt {w : World} {m r n : Nat} {B : Int} {f : Int → Int} {done : Int → Bool} {cnt : Nat} (h : RgZ w m r n B f done cnt) : m < w.heap.size ∧ r < w.heap.size ∧ r ≠ m := by
  obtain ⟨D, left, h1, _⟩ := h
  exact ⟨h1.owns.lt, h1.lt, h1.ne⟩
theorem RgZ.left {w : World} {m r n : Nat} {B : Int} {f : Int → Int} {done : Int → Bool} {cnt : Nat} (h : RgZ w m r n B f done cnt) : w.rangeLeft m r = cnt := by
  obtain ⟨D, left, h1, _⟩ := h
  exact h1.left_eq
section
variable {w : World} {ops : Array Oper} {rest : List Oper} {o : Oper} {a : Act} {Q : Exit → Act → World → Prop}
theorem wpList_range_z (hg : o.guard = none) (x : Operand) (hop : o.op = Op.range 55 x) (m n : Nat) (B : Int) (f : Int → Int) (hm : a.eval x = .map (some m)) (h : MapZ w m n B f)
    (hK : ∀ w' cnt, RgZ w' m w.heap.size n B f (fun _ => false) cnt → cnt ≤ n → Below w.heap.size w w' → wpList Tryz.prog ops Q rest (a.put o.dst (.pointer (some ⟨w.heap.size, 0, none⟩))) w') :
    wpList Tryz.prog ops Q (o :: rest) a w := by
  obtain ⟨D, hown, hD, hB⟩ := h
  refine wpList_range_own w hg x 55 hop 3 3 lawZ Tryz.underlying55 _ m n D hm hown ?_
  intro w' hr hgr hs
  refine hK w' (Maps.size D) ⟨D, Maps.has D, hr, hD, hB, fun x => by simp⟩ ?_ ((Fr.of_grown hgr).below (Nat.le_refl _) (fun i _ h => by simp at h))
  obtain ⟨es, clock, _, _, hsz, hDm⟩ := hown
  rw [hDm]
  simp only [Maps.size, length_sorted, List.length_map]
  simpa using hsz
theorem wpList_next_z (hg : o.guard = none) (it : Operand) (hop : o.op = Op.next it false) (m r n : Nat) (B : Int) (f : Int → Int) (done : Int → Bool) (cnt : Nat)
    (hit : a.eval it = .pointer (some ⟨r, 0, none⟩)) (h : RgZ w m r n B f done cnt)
    (hDone : (∀ x, f x ≠ 0 → (Lit.int .i64 x).wf = true → done x = true) → wpList Tryz.prog ops Q rest (a.put o.dst (.tuple #[.bool false])) w)
    (hMore : ∀ (x : Int) (w' : World) (cnt' : Nat), done x = false → -B ≤ x → x ≤ B → -9223372036854775808 ≤ x → x ≤ 9223372036854775807 → RgZ w' m r n B f (fun z => done z || z == x) cnt' → cnt' < cnt → Fr (fun i => i = r) w w' → w'.heap.size = w.heap.size →
      (Instr.entry (.pointer (some ⟨r, 0, none⟩))).run Tryz.prog w' = .ok (.tuple #[.int .i64 x, .int .i64 (f x)]) w' → wpList Tryz.prog ops Q rest (a.put o.dst (.tuple #[.bool true, .int .i64 x, .int .i64 (f x)])) w') :
    wpList Tryz.prog ops Q (o :: rest) a w := by
  obtain ⟨D, left, hrg, hD, hB, hl⟩ := h
  refine wpList_next_ranges_ii w hg it hop 3 3 .i64 .i64 lawZ Tryz.underlying3 Tryz.underlying3 m r n D left cnt hit hrg ?_ ?_
  · intro _ hl0
    refine hDone fun x hx hw => ?_
    have h1 := hl x
    rw [hl0] at h1
    cases hh : has D (.int .i64 x) with
    | true => rw [hh] at h1; cases hd : done x with
      | true => rfl
      | false => rw [hd] at h1; simp at h1
    | false =>
      have h2 := atKey_of_not_has hh (.lit (.int .i64 0))
      exact absurd (litZ_inj ((hD x hw).symm.trans h2)) hx
  · intro x c w' cnt' hwx hwc hlx hat hrg' hlt hgr hs hen
    obtain rfl : c = f x := litZ_inj ((hat (.lit (.int .i64 0))).symm.trans (hD x hwx))
    have hh := has_true_of_atKey hat
    have hdx : done x = false := by
      have h1 := hl x
      rw [hlx, hh] at h1
      simpa using h1.symm
    obtain ⟨b0, b1⟩ := hB x hh
    obtain ⟨c0, c1⟩ := ofWfZ hwx
    refine hMore x w' cnt' hdx b0 b1 c0 c1 ⟨D, _, hrg', hD, hB, fun z => ?_⟩ hlt ((Fr.of_grown hgr).mono fun i _ h => by simpa using h) hs hen
    by_cases hz : z = x
    · subst hz
      have hk : Lit.sameKey (.int .i64 z) (.int .i64 z) = true := WideAt.sameKey_self trivial
      simp [hk]
    · have hk : Lit.sameKey (.int .i64 z) (.int .i64 x) = false := sameKey_ne (by simpa using hz)
      have hzx : (z == x) = false := by simpa using hz
      simp [hk, hl z, hzx]
end
end Go.Proofs.YtnapdhfkgfjjfaaGreatDoor
