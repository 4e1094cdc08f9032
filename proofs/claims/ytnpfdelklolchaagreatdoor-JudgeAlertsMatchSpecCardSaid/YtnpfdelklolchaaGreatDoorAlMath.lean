/- Alerts: plain mathematics (no program). -/
import Derived.Lib.Hide
namespace Go.Proofs.YtnpfdelklolchaaGreatDoor

/-- a point: when, all, bad -/
abbrev Pt := Int × Int × Int
/-- a rule: short, long, num, den -/
abbrev Ru := Int × Int × Int × Int
def OkPt (p : Pt) : Prop := 0 ≤ p.1 ∧ p.1 ≤ 1000000000000 ∧ 0 ≤ p.2.2 ∧ p.2.2 ≤ p.2.1 ∧ p.2.1 ≤ 1000000
instance (p : Pt) : Decidable (OkPt p) := inferInstanceAs (Decidable (_ ∧ _))
def OkRu (r : Ru) : Prop := 1 ≤ r.1 ∧ r.1 ≤ r.2.1 ∧ r.2.1 ≤ 1000000000000 ∧ 0 ≤ r.2.2.1 ∧ r.2.2.1 ≤ 1000000 ∧ 1 ≤ r.2.2.2 ∧ r.2.2.2 ≤ 1000000
instance (r : Ru) : Decidable (OkRu r) := inferInstanceAs (Decidable (_ ∧ _))
/-- when the point ahead of i was -/
def prevP (l : List Pt) (i : Nat) : Int := match l[i - 1]? with | some p => p.1 | none => 0
/-- the first fault of the points from i on -/
def cdPt (l : List Pt) : Nat → Nat → Int
  | 0, _ => 0
  | n + 1, i => match l[i]? with
    | none => 0
    | some p => if OkPt p then (if 0 < i ∧ p.1 ≤ prevP l i then 10 else cdPt l n (i + 1)) else 9
theorem cdPt_step {l : List Pt} {i : Nat} {p : Pt} (hp : l[i]? = some p) : cdPt l (l.length - i) i = if OkPt p then (if 0 < i ∧ p.1 ≤ prevP l i then 10 else cdPt l (l.length - (i + 1)) (i + 1)) else 9 := by
  have hi := (List.getElem?_eq_some_iff.1 hp).1
  rw [show l.length - i = (l.length - (i + 1)) + 1 by omega, cdPt]
  simp only [hp]
theorem cdPt_bad {l : List Pt} {i : Nat} {p : Pt} (hp : l[i]? = some p) (h : ¬ OkPt p) : cdPt l (l.length - i) i = 9 := by rw [cdPt_step hp, if_neg h]
theorem cdPt_ord {l : List Pt} {i : Nat} {p : Pt} (hp : l[i]? = some p) (h : OkPt p) (h2 : 0 < i ∧ p.1 ≤ prevP l i) : cdPt l (l.length - i) i = 10 := by rw [cdPt_step hp, if_pos h, if_pos h2]
theorem cdPt_next {l : List Pt} {i : Nat} {p : Pt} (hp : l[i]? = some p) (h : OkPt p) (h2 : ¬ (0 < i ∧ p.1 ≤ prevP l i)) : cdPt l (l.length - (i + 1)) (i + 1) = cdPt l (l.length - i) i := by rw [cdPt_step hp, if_pos h, if_neg h2]
theorem cdPt_end (l : List Pt) : cdPt l (l.length - l.length) l.length = 0 := by rw [Nat.sub_self]; rfl
/-- the first fault of the rules from i on -/
def cdRu (l : List Ru) : Nat → Nat → Int
  | 0, _ => 0
  | n + 1, i => match l[i]? with
    | none => 0
    | some p => if OkRu p then cdRu l n (i + 1) else 9
theorem cdRu_step {l : List Ru} {i : Nat} {p : Ru} (hp : l[i]? = some p) : cdRu l (l.length - i) i = if OkRu p then cdRu l (l.length - (i + 1)) (i + 1) else 9 := by
  have hi := (List.getElem?_eq_some_iff.1 hp).1
  rw [show l.length - i = (l.length - (i + 1)) + 1 by omega, cdRu]
  simp only [hp]
theorem cdRu_bad {l : List Ru} {i : Nat} {p : Ru} (hp : l[i]? = some p) (h : ¬ OkRu p) : cdRu l (l.length - i) i = 9 := by rw [cdRu_step hp, if_neg h]
theorem cdRu_next {l : List Ru} {i : Nat} {p : Ru} (hp : l[i]? = some p) (h : OkRu p) : cdRu l (l.length - (i + 1)) (i + 1) = cdRu l (l.length - i) i := by rw [cdRu_step hp, if_pos h]
theorem cdRu_end (l : List Ru) : cdRu l (l.length - l.length) l.length = 0 := by rw [Nat.sub_self]; rfl
/-- the points' code, the rules' code -/
def codeP (l : List Pt) : Int := if 2000 < l.length then 3 else cdPt l l.length 0
def codeR (l : List Ru) : Int := if 10 < l.length then 3 else cdRu l l.length 0
def codeA (l : List Pt) (r : List Ru) : Int := if codeP l ≠ 0 then codeP l else codeR r
/-- points without a fault -/
structure OkPts (l : List Pt) : Prop where
  le : l.length ≤ 2000
  ok : ∀ (i : Nat) (p : Pt), l[i]? = some p → OkPt p
  asc : ∀ (i : Nat) (p q : Pt), l[i]? = some p → l[i + 1]? = some q → p.1 < q.1
structure OkRus (l : List Ru) : Prop where
  le : l.length ≤ 10
  ok : ∀ (i : Nat) (p : Ru), l[i]? = some p → OkRu p
theorem cdPt_ok {l : List Pt} : ∀ n i, i + n = l.length → cdPt l n i = 0 → (∀ (j : Nat) (p : Pt), i ≤ j → l[j]? = some p → OkPt p ∧ ¬ (0 < j ∧ p.1 ≤ prevP l j))
  | 0, i, hn, _, j, p, hj, hp => by have := (List.getElem?_eq_some_iff.1 hp).1; omega
  | n + 1, i, hn, h, j, p, hj, hp => by
    obtain ⟨q, hq⟩ : ∃ q, l[i]? = some q := ⟨_, List.getElem?_eq_getElem (by omega)⟩
    rw [cdPt] at h
    simp only [hq] at h
    by_cases h1 : OkPt q
    · rw [if_pos h1] at h
      by_cases h2 : 0 < i ∧ q.1 ≤ prevP l i
      · rw [if_pos h2] at h; exact absurd h (by decide)
      · rw [if_neg h2] at h
        rcases Nat.lt_or_ge i j with h3 | h3
        · exact cdPt_ok n (i + 1) (by omega) h j p h3 hp
        · obtain rfl : i = j := by omega
          rw [hq] at hp
          cases hp
          exact ⟨h1, h2⟩
    · rw [if_neg h1] at h; exact absurd h (by decide)
theorem OkPts.of {l : List Pt} (h : codeP l = 0) : OkPts l := by
  unfold codeP at h
  by_cases h1 : 2000 < l.length
  · rw [if_pos h1] at h; exact absurd h (by decide)
  · rw [if_neg h1] at h
    have hk := cdPt_ok l.length 0 (by omega) h
    refine ⟨by omega, fun i p hp => (hk i p (by omega) hp).1, fun i p q hp hq => ?_⟩
    have h2 := (hk (i + 1) q (by omega) hq).2
    have h3 : prevP l (i + 1) = p.1 := by unfold prevP; rw [show i + 1 - 1 = i by omega, hp]
    rw [h3] at h2
    omega
theorem cdRu_ok {l : List Ru} : ∀ n i, i + n = l.length → cdRu l n i = 0 → (∀ (j : Nat) (p : Ru), i ≤ j → l[j]? = some p → OkRu p)
  | 0, i, hn, _, j, p, hj, hp => by have := (List.getElem?_eq_some_iff.1 hp).1; omega
  | n + 1, i, hn, h, j, p, hj, hp => by
    obtain ⟨q, hq⟩ : ∃ q, l[i]? = some q := ⟨_, List.getElem?_eq_getElem (by omega)⟩
    rw [cdRu] at h
    simp only [hq] at h
    by_cases h1 : OkRu q
    · rw [if_pos h1] at h
      rcases Nat.lt_or_ge i j with h3 | h3
      · exact cdRu_ok n (i + 1) (by omega) h j p h3 hp
      · obtain rfl : i = j := by omega
        rw [hq] at hp
        cases hp
        exact h1
    · rw [if_neg h1] at h; exact absurd h (by decide)
theorem OkRus.of {l : List Ru} (h : codeR l = 0) : OkRus l := by
  unfold codeR at h
  by_cases h1 : 10 < l.length
  · rw [if_pos h1] at h; exact absurd h (by decide)
  · rw [if_neg h1] at h
    have hk := cdRu_ok l.length 0 (by omega) h
    exact ⟨by omega, fun i p hp => hk i p (by omega) hp⟩
theorem OkPts.lt {l : List Pt} (h : OkPts l) : ∀ (d i : Nat) (p q : Pt), l[i]? = some p → l[i + d + 1]? = some q → p.1 < q.1
  | 0, i, p, q, hp, hq => h.asc i p q hp hq
  | d + 1, i, p, q, hp, hq => by
    have hd := (List.getElem?_eq_some_iff.1 hq).1
    obtain ⟨z, hz⟩ : ∃ z, l[i + d + 1]? = some z := ⟨_, List.getElem?_eq_getElem (by omega)⟩
    have h1 := h.lt d i p z hp hz
    have h2 := h.asc (i + d + 1) z q hz (by rw [show i + d + 1 + 1 = i + (d + 1) + 1 by omega]; exact hq)
    omega
theorem OkPts.lt' {l : List Pt} (h : OkPts l) {i j : Nat} {p q : Pt} (hij : i < j) (hp : l[i]? = some p) (hq : l[j]? = some q) : p.1 < q.1 :=
  h.lt (j - i - 1) i p q hp (by rw [show i + (j - i - 1) + 1 = j by omega]; exact hq)
/-- the sums of a window, from its end down: points k < n that are younger than lo -/
def winS (f : Pt → Int) (l : List Pt) (lo : Int) : Nat → Int
  | 0 => 0
  | n + 1 => match l[n]? with
    | none => 0
    | some p => if lo < p.1 then f p + winS f l lo n else 0
theorem winS_in {f : Pt → Int} {l : List Pt} {lo : Int} {n : Nat} {p : Pt} (hp : l[n]? = some p) (h : lo < p.1) : winS f l lo (n + 1) = f p + winS f l lo n := by
  rw [winS]; simp only [hp, if_pos h]
theorem winS_out {f : Pt → Int} {l : List Pt} {lo : Int} {n : Nat} {p : Pt} (hp : l[n]? = some p) (h : ¬ lo < p.1) : winS f l lo (n + 1) = 0 := by
  rw [winS]; simp only [hp, if_neg h]
/-- the sums of a window, over all points -/
def allS (f : Pt → Int) (l : List Pt) (lo hi : Int) : Nat → Int
  | 0 => 0
  | n + 1 => match l[n]? with
    | none => allS f l lo hi n
    | some p => if lo < p.1 ∧ p.1 ≤ hi then allS f l lo hi n + f p else allS f l lo hi n
theorem allS_in {f : Pt → Int} {l : List Pt} {lo hi : Int} {n : Nat} {p : Pt} (hp : l[n]? = some p) (h : lo < p.1 ∧ p.1 ≤ hi) : allS f l lo hi (n + 1) = allS f l lo hi n + f p := by
  rw [allS]; simp only [hp, if_pos h]
theorem allS_out {f : Pt → Int} {l : List Pt} {lo hi : Int} {n : Nat} {p : Pt} (hp : l[n]? = some p) (h : ¬ (lo < p.1 ∧ p.1 ≤ hi)) : allS f l lo hi (n + 1) = allS f l lo hi n := by
  rw [allS]; simp only [hp, if_neg h]
theorem winS_zero {f : Pt → Int} {l : List Pt} (ho : OkPts l) {lo : Int} {n : Nat} {p : Pt} (hp : l[n]? = some p) (h : p.1 ≤ lo) : winS f l lo n = 0 := by
  cases n with
  | zero => rfl
  | succ m =>
    have hm := (List.getElem?_eq_some_iff.1 hp).1
    obtain ⟨q, hq⟩ : ∃ q, l[m]? = some q := ⟨_, List.getElem?_eq_getElem (by omega)⟩
    have := ho.asc m q p hq hp
    exact winS_out hq (by omega)
theorem all_win {f : Pt → Int} {l : List Pt} (ho : OkPts l) {lo hi : Int} {i : Nat} {pi : Pt} (hi' : l[i]? = some pi) (he : hi = pi.1) : ∀ n, n ≤ i + 1 → allS f l lo hi n = winS f l lo n
  | 0, _ => rfl
  | n + 1, hn => by
    have hlt := (List.getElem?_eq_some_iff.1 hi').1
    obtain ⟨p, hp⟩ : ∃ p, l[n]? = some p := ⟨_, List.getElem?_eq_getElem (by omega)⟩
    have ih := all_win ho hi' he n (by omega) (f := f) (lo := lo)
    have h1 : p.1 ≤ hi := by
      rcases Nat.lt_or_ge n i with h2 | h2
      · have := ho.lt' h2 hp hi'; omega
      · obtain rfl : n = i := by omega
        rw [hp] at hi'; cases hi'; omega
    by_cases h2 : lo < p.1
    · rw [allS_in hp ⟨h2, h1⟩, winS_in hp h2, ih]; omega
    · rw [allS_out hp (by omega), winS_out hp h2, ih, winS_zero ho hp (by omega)]
theorem all_more {f : Pt → Int} {l : List Pt} (ho : OkPts l) {lo hi : Int} {i : Nat} {pi : Pt} (hi' : l[i]? = some pi) (he : hi = pi.1) : ∀ d, i + 1 + d ≤ l.length → allS f l lo hi (i + 1 + d) = winS f l lo (i + 1)
  | 0, _ => all_win ho hi' he _ (Nat.le_refl _)
  | d + 1, hd => by
    have ih := all_more ho hi' he d (by omega) (f := f) (lo := lo)
    obtain ⟨p, hp⟩ : ∃ p, l[i + 1 + d]? = some p := ⟨_, List.getElem?_eq_getElem (by omega)⟩
    have h1 := ho.lt' (i := i) (by omega) hi' hp
    rw [show i + 1 + (d + 1) = i + 1 + d + 1 by omega, allS_out hp (by omega), ih]
/-- both forms tell the same -/
theorem all_eq {f : Pt → Int} {l : List Pt} (ho : OkPts l) {t : Int} {i : Nat} {p : Pt} (hp : l[i]? = some p) : allS f l (p.1 - t) p.1 l.length = winS f l (p.1 - t) (i + 1) := by
  have hlt := (List.getElem?_eq_some_iff.1 hp).1
  have := all_more (f := f) (lo := p.1 - t) ho hp rfl (l.length - (i + 1)) (by omega)
  rwa [show i + 1 + (l.length - (i + 1)) = l.length by omega] at this
theorem winS_bd {f : Pt → Int} {l : List Pt} {lo : Int} (hf : ∀ (i : Nat) (p : Pt), l[i]? = some p → 0 ≤ f p ∧ f p ≤ 1000000) : ∀ n, 0 ≤ winS f l lo n ∧ winS f l lo n ≤ n * 1000000
  | 0 => by simp [winS]
  | n + 1 => by
    have ih := winS_bd hf n (lo := lo)
    rw [winS]
    cases hp : l[n]? with
    | none => simp only; omega
    | some p =>
      simp only
      have := hf n p hp
      by_cases h : lo < p.1
      · rw [if_pos h]; omega
      · rw [if_neg h]; omega
theorem winS_le {f g : Pt → Int} {l : List Pt} {lo : Int} (hf : ∀ (i : Nat) (p : Pt), l[i]? = some p → f p ≤ g p) : ∀ n, winS f l lo n ≤ winS g l lo n
  | 0 => by simp [winS]
  | n + 1 => by
    have ih := winS_le hf n (lo := lo)
    rw [winS, winS]
    cases hp : l[n]? with
    | none => simp
    | some p =>
      simp only
      have := hf n p hp
      by_cases h : lo < p.1
      · rw [if_pos h, if_pos h]; omega
      · rw [if_neg h, if_neg h]; omega
theorem allS_bd {f : Pt → Int} {l : List Pt} {lo hi : Int} (hf : ∀ (i : Nat) (p : Pt), l[i]? = some p → 0 ≤ f p ∧ f p ≤ 1000000) : ∀ n, 0 ≤ allS f l lo hi n ∧ allS f l lo hi n ≤ n * 1000000
  | 0 => by simp [allS]
  | n + 1 => by
    have ih := allS_bd hf n (lo := lo) (hi := hi)
    rw [allS]
    cases hp : l[n]? with
    | none => simp only; omega
    | some p =>
      simp only
      have := hf n p hp
      by_cases h : lo < p.1 ∧ p.1 ≤ hi
      · rw [if_pos h]; omega
      · rw [if_neg h]; omega
def fB (p : Pt) : Int := p.2.2
def fA (p : Pt) : Int := p.2.1
theorem OkPts.fB {l : List Pt} (h : OkPts l) : ∀ (i : Nat) (p : Pt), l[i]? = some p → 0 ≤ fB p ∧ fB p ≤ 1000000 := fun i p hp => by
  have := h.ok i p hp
  unfold OkPt at this
  unfold Go.Proofs.YtnpfdelklolchaaGreatDoor.fB
  omega
theorem OkPts.fA {l : List Pt} (h : OkPts l) : ∀ (i : Nat) (p : Pt), l[i]? = some p → 0 ≤ fA p ∧ fA p ≤ 1000000 := fun i p hp => by
  have := h.ok i p hp
  unfold OkPt at this
  unfold Go.Proofs.YtnpfdelklolchaaGreatDoor.fA
  omega
theorem OkPts.fBA {l : List Pt} (h : OkPts l) : ∀ (i : Nat) (p : Pt), l[i]? = some p → Go.Proofs.YtnpfdelklolchaaGreatDoor.fB p ≤ Go.Proofs.YtnpfdelklolchaaGreatDoor.fA p := fun i p hp => by
  have := h.ok i p hp
  unfold OkPt at this
  unfold Go.Proofs.YtnpfdelklolchaaGreatDoor.fB Go.Proofs.YtnpfdelklolchaaGreatDoor.fA
  omega
/-- does the window of t that ends at the point i burn as fast as num / den? -/
def brnV (g o : Int) (bad all num den : Int) : Bool := if all = 0 then decide (num = 0) else decide (all * (o - g) * num ≤ bad * o * den)
def brnAt (g o : Int) (l : List Pt) (i : Nat) (t num den : Int) : Bool :=
  match l[i]? with
  | none => false
  | some p => brnV g o (winS fB l (p.1 - t) (i + 1)) (winS fA l (p.1 - t) (i + 1)) num den
theorem brnAt_eq {g o : Int} {l : List Pt} {i : Nat} {p : Pt} (hp : l[i]? = some p) (t num den : Int) : brnAt g o l i t num den = brnV g o (winS fB l (p.1 - t) (i + 1)) (winS fA l (p.1 - t) (i + 1)) num den := by
  unfold brnAt; simp only [hp]
/-- both windows of a rule -/
def hld (g o : Int) (l : List Pt) (r : Ru) (i : Nat) : Bool := brnAt g o l i r.1 r.2.2.1 r.2.2.2 && brnAt g o l i r.2.1 r.2.2.1 r.2.2.2
/-- the last alert goes on to t -/
def setTo (out : List (Int × Int × Int)) (t : Int) : List (Int × Int × Int) := match out[out.length - 1]? with
  | some x => out.set (out.length - 1) (x.1, x.2.1, t)
  | none => out
theorem setTo_eq {out : List (Int × Int × Int)} {x : Int × Int × Int} (t : Int) (h : out[out.length - 1]? = some x) : setTo out t = out.set (out.length - 1) (x.1, x.2.1, t) := by unfold setTo; rw [h]
theorem setTo_len (out : List (Int × Int × Int)) (t : Int) : (setTo out t).length = out.length := by
  unfold setTo
  split
  · rw [List.length_set]
  · rfl
def keyA (x : Int × Int × Int) : Int × Int := (x.1, x.2.1)
theorem map_set_same {α β : Type} (f : α → β) : ∀ (l : List α) (i : Nat) (x y : α), l[i]? = some x → f y = f x → (l.set i y).map f = l.map f
  | [], _, _, _, h, _ => by simp at h
  | a :: l, 0, x, y, h, e => by simp at h; subst h; simp [e]
  | a :: l, i + 1, x, y, h, e => by
    have ih := map_set_same f l i x y (by simpa using h) e
    simp [ih]
theorem setTo_key (out : List (Int × Int × Int)) (t : Int) : (setTo out t).map keyA = out.map keyA := by
  unfold setTo
  split
  · rename_i x hx; exact map_set_same keyA _ _ x _ hx rfl
  · rfl
/-- what a point does to (held, alerts) -/
def alStep (k at' : Int) (h : Bool) (s : Bool × List (Int × Int × Int)) : Bool × List (Int × Int × Int) := (h, if h then (if s.1 then setTo s.2 at' else s.2 ++ [(k, at', at')]) else s.2)
def alPts (k : Int) (l : List Pt) (b : Nat → Bool) (s : List (Int × Int × Int)) : Nat → Bool × List (Int × Int × Int)
  | 0 => (false, s)
  | n + 1 => match l[n]? with
    | some p => alStep k p.1 (b n) (alPts k l b s n)
    | none => alPts k l b s n
theorem alPts_step {k : Int} {l : List Pt} {b : Nat → Bool} {s : List (Int × Int × Int)} {n : Nat} {p : Pt} (hp : l[n]? = some p) : alPts k l b s (n + 1) = alStep k p.1 (b n) (alPts k l b s n) := by rw [alPts]; simp only [hp]
def alRus (g o : Int) (l : List Pt) (rs : List Ru) : Nat → List (Int × Int × Int)
  | 0 => []
  | k + 1 => match rs[k]? with
    | some r => (alPts (k : Int) l (hld g o l r) (alRus g o l rs k) l.length).2
    | none => alRus g o l rs k
theorem alRus_step {g o : Int} {l : List Pt} {rs : List Ru} {k : Nat} {r : Ru} (hr : rs[k]? = some r) : alRus g o l rs (k + 1) = (alPts (k : Int) l (hld g o l r) (alRus g o l rs k) l.length).2 := by rw [alRus]; simp only [hr]
/-- what is always true of the alerts while rule k is at its point i -/
structure AlInv (l : List Pt) (k : Int) (i : Nat) (n : Nat) (s : Bool × List (Int × Int × Int)) : Prop where
  nd : (s.2.map keyA).Nodup
  rule : ∀ x ∈ s.2, 0 ≤ x.1 ∧ x.1 ≤ k
  from' : ∀ x ∈ s.2, x.1 = k → ∃ q p, q < i ∧ l[q]? = some p ∧ x.2.1 = p.1
  len : s.2.length ≤ n
  ne : s.1 = true → 0 < s.2.length
theorem mem_key {l : List (Int × Int × Int)} {a : Int × Int} (h : a ∈ l.map keyA) : ∃ x ∈ l, x.1 = a.1 ∧ x.2.1 = a.2 := by
  obtain ⟨x, h1, h2⟩ := List.mem_map.1 h
  exact ⟨x, h1, by rw [← h2]; exact ⟨rfl, rfl⟩⟩
theorem key_mem {l l' : List (Int × Int × Int)} (h : l.map keyA = l'.map keyA) {x : Int × Int × Int} (hx : x ∈ l) : ∃ y ∈ l', y.1 = x.1 ∧ y.2.1 = x.2.1 := by
  have h1 : keyA x ∈ l'.map keyA := by rw [← h]; exact List.mem_map_of_mem hx
  exact mem_key h1
theorem AlInv.step {l : List Pt} (ho : OkPts l) {k : Int} (hk : 0 ≤ k) {i n : Nat} {s : Bool × List (Int × Int × Int)} {p : Pt} (h : AlInv l k i n s) (hp : l[i]? = some p) (b : Bool) : AlInv l k (i + 1) (n + 1) (alStep k p.1 b s) := by
  have up : ∀ x ∈ s.2, x.1 = k → ∃ q z, q < i + 1 ∧ l[q]? = some z ∧ x.2.1 = z.1 := fun x hx e => by
    obtain ⟨q, z, h1, h2⟩ := h.from' x hx e
    exact ⟨q, z, by omega, h2⟩
  obtain ⟨hd, out⟩ := s
  unfold alStep
  cases b with
  | false => exact ⟨h.nd, h.rule, up, Nat.le_succ_of_le h.len, fun e => by simp at e⟩
  | true =>
    cases hd with
    | true =>
      have hkey := setTo_key out p.1
      refine ⟨?_, fun x hx => ?_, fun x hx e => ?_, ?_, fun _ => ?_⟩
      · show ((setTo out p.1).map keyA).Nodup
        rw [hkey]; exact h.nd
      · obtain ⟨y, hy, e1, e2⟩ := key_mem hkey (x := x) hx
        have := h.rule y hy
        rw [e1] at this; exact this
      · obtain ⟨y, hy, e1, e2⟩ := key_mem hkey (x := x) hx
        obtain ⟨q, z, h1, h2, h3⟩ := up y hy (e1.trans e)
        exact ⟨q, z, h1, h2, by rw [← e2]; exact h3⟩
      · show (setTo out p.1).length ≤ n + 1
        rw [setTo_len]; have := h.len; simp only at this; omega
      · show 0 < (setTo out p.1).length
        rw [setTo_len]; exact h.ne rfl
    | false =>
      refine ⟨?_, fun x hx => ?_, fun x hx e => ?_, ?_, fun _ => ?_⟩
      · show ((out ++ [(k, p.1, p.1)]).map keyA).Nodup
        rw [List.map_append, List.nodup_append]
        refine ⟨h.nd, by simp, fun a ha b hb => ?_⟩
        simp only [List.map_cons, List.map_nil, List.mem_singleton] at hb
        subst hb
        intro e
        subst e
        obtain ⟨x, hx, e1, e2⟩ := mem_key ha
        obtain ⟨q, z, h1, h2, h3⟩ := h.from' x hx e1
        have h4 := ho.lt' h1 h2 hp
        have e3 : x.2.1 = p.1 := e2
        omega
      · have hx : x ∈ out ++ [(k, p.1, p.1)] := hx
        rw [List.mem_append, List.mem_singleton] at hx
        rcases hx with hx | rfl
        · exact h.rule x hx
        · exact ⟨hk, Int.le_refl _⟩
      · have hx : x ∈ out ++ [(k, p.1, p.1)] := hx
        rw [List.mem_append, List.mem_singleton] at hx
        rcases hx with hx | rfl
        · exact up x hx e
        · exact ⟨i, p, by omega, hp, rfl⟩
      · show (out ++ [(k, p.1, p.1)]).length ≤ n + 1
        have := h.len; simp only at this; rw [List.length_append]; simp only [List.length_cons, List.length_nil]; omega
      · show 0 < (out ++ [(k, p.1, p.1)]).length
        rw [List.length_append]; simp
/-- what is true of the alerts of the first k rules -/
structure AlDone (k : Int) (n : Nat) (s : List (Int × Int × Int)) : Prop where
  nd : (s.map keyA).Nodup
  rule : ∀ x ∈ s, 0 ≤ x.1 ∧ x.1 < k
  len : s.length ≤ n
theorem AlDone.zero (n : Nat) : AlDone 0 n [] := ⟨by simp, fun x hx => by simp at hx, by simp⟩
theorem AlDone.start {l : List Pt} {k : Int} {n : Nat} {s : List (Int × Int × Int)} (h : AlDone k n s) : AlInv l k 0 n (false, s) :=
  ⟨h.nd, fun x hx => by have := h.rule x hx; omega, fun x hx e => by have := h.rule x hx; omega, h.len, fun e => by simp at e⟩
theorem AlInv.pts {l : List Pt} (ho : OkPts l) {k : Int} (hk : 0 ≤ k) {n : Nat} {s : List (Int × Int × Int)} (b : Nat → Bool) (h : AlDone k n s) : ∀ i, i ≤ l.length → AlInv l k i (n + i) (alPts k l b s i)
  | 0, _ => h.start
  | i + 1, hi => by
    have ih := AlInv.pts ho hk b h i (by omega)
    obtain ⟨p, hp⟩ : ∃ p, l[i]? = some p := ⟨_, List.getElem?_eq_getElem (by omega)⟩
    rw [alPts_step hp]
    exact ih.step ho hk hp _
theorem AlDone.next {l : List Pt} (ho : OkPts l) {k : Nat} {n : Nat} {s : List (Int × Int × Int)} (b : Nat → Bool) (h : AlDone (k : Int) n s) : AlDone ((k + 1 : Nat) : Int) (n + 2000) (alPts (k : Int) l b s l.length).2 := by
  have h1 := AlInv.pts ho (Int.natCast_nonneg _) b h l.length (Nat.le_refl _)
  refine ⟨h1.nd, fun x hx => ?_, ?_⟩
  · have := h1.rule x hx; omega
  · have := h1.len; have := ho.le; omega
theorem AlDone.rus {g o : Int} {l : List Pt} (ho : OkPts l) {rs : List Ru} : ∀ k, k ≤ rs.length → AlDone (k : Int) (2000 * k) (alRus g o l rs k)
  | 0, _ => AlDone.zero _
  | k + 1, hk => by
    have ih := AlDone.rus ho k (by omega) (g := g) (o := o) (rs := rs)
    obtain ⟨r, hr⟩ : ∃ r, rs[k]? = some r := ⟨_, List.getElem?_eq_getElem (by omega)⟩
    rw [alRus_step hr]
    exact ih.next ho _
end Go.Proofs.YtnpfdelklolchaaGreatDoor
