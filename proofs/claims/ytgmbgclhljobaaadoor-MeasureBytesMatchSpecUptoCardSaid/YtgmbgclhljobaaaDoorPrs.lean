/- What FromBytes reads: plain. -/
import Derived.Test.YtgmbgclhljobaaaDoorNumAt
namespace Go.Proofs.YtgmbgclhljobaaaDoor
open Go Go.RowKit Go.Proofs Go.Maps

theorem rdN_len : ∀ (l : List UInt8) (i acc : Nat), (rdN i acc l).1 = 0 → (rdN i acc l).2.2.length < l.length
  | [], i, acc, h => by simp [rdN] at h
  | x :: r, i, acc, h => by
    unfold rdN at h ⊢
    by_cases h1 : x.toNat < 128
    · rw [if_pos h1] at h ⊢
      by_cases h2 : x.toNat = 0 ∧ 0 < i
      · rw [if_pos h2] at h; simp at h
      · rw [if_neg h2]; simp
    · rw [if_neg h1] at h ⊢
      by_cases h3 : i = 8
      · rw [if_pos h3] at h; simp at h
      · rw [if_neg h3] at h ⊢
        have := rdN_len r _ _ h
        simp only [List.length_cons]; omega
theorem rdN_val : ∀ (l : List UInt8) (i acc : Nat), i ≤ 8 → acc < 128 ^ i → (rdN i acc l).2.1 ≤ 9223372036854775807
  | [], i, acc, _, _ => by simp [rdN]
  | x :: r, i, acc, hi, ha => by
    have hp : (128 : Nat) ^ i ≤ 128 ^ 8 := Nat.pow_le_pow_right (by omega) hi
    unfold rdN
    by_cases h1 : x.toNat < 128
    · rw [if_pos h1]
      by_cases h2 : x.toNat = 0 ∧ 0 < i
      · rw [if_pos h2]; simp
      · rw [if_neg h2]
        have : x.toNat * 128 ^ i ≤ 127 * 128 ^ i := Nat.mul_le_mul_right _ (by omega)
        simp only; omega
    · rw [if_neg h1]
      by_cases h3 : i = 8
      · rw [if_pos h3]; simp
      · rw [if_neg h3]
        refine rdN_val r (i + 1) _ (by omega) ?_
        have hx := x.toNat_lt
        have : (x.toNat - 128) * 128 ^ i ≤ 127 * 128 ^ i := Nat.mul_le_mul_right _ (by omega)
        rw [Nat.pow_succ]; omega
theorem rdN_err : ∀ (l : List UInt8) (i acc : Nat), (rdN i acc l).1 ≠ 0 → (rdN i acc l).2.1 = 0
  | [], i, acc, _ => by simp [rdN]
  | x :: r, i, acc, h => by
    unfold rdN at h ⊢
    by_cases h1 : x.toNat < 128
    · rw [if_pos h1] at h ⊢
      by_cases h2 : x.toNat = 0 ∧ 0 < i
      · rw [if_pos h2]
      · rw [if_neg h2] at h; simp at h
    · rw [if_neg h1] at h ⊢
      by_cases h3 : i = 8
      · rw [if_pos h3]
      · rw [if_neg h3] at h ⊢
        exact rdN_err r _ _ h
theorem rdN_code : ∀ (l : List UInt8) (i acc : Nat), (rdN i acc l).1 = 0 ∨ (rdN i acc l).1 = 2 ∨ (rdN i acc l).1 = 16
  | [], i, acc => by simp [rdN]
  | x :: r, i, acc => by
    unfold rdN
    repeat' split
    all_goals first | exact rdN_code r _ _ | simp
/-- the counts: the error, the list, the rest; u is the next bucket -/
def prs (u : Int → Int → Int) : Nat → Int → Int → List UInt8 → Int × List (Int × Int) × List UInt8
  | 0, _, _, l => (0, [], l)
  | f + 1, cnt, last, l =>
    if cnt ≤ 0 then (0, [], l)
    else if (rdN 0 0 l).1 ≠ 0 then ((rdN 0 0 l).1, [], [])
    else if (rdN 0 0 (rdN 0 0 l).2.2).1 ≠ 0 then ((rdN 0 0 (rdN 0 0 l).2.2).1, [], [])
    else ((prs u f (cnt - 1) (u last (rdN 0 0 l).2.1) (rdN 0 0 (rdN 0 0 l).2.2).2.2).1, (u last (rdN 0 0 l).2.1, ((rdN 0 0 (rdN 0 0 l).2.2).2.1 : Int)) :: (prs u f (cnt - 1) (u last (rdN 0 0 l).2.1) (rdN 0 0 (rdN 0 0 l).2.2).2.2).2.1, (prs u f (cnt - 1) (u last (rdN 0 0 l).2.1) (rdN 0 0 (rdN 0 0 l).2.2).2.2).2.2)
def comb (acc : List (Int × Int)) (r : Int × List (Int × Int) × List UInt8) : Int × List (Int × Int) × List UInt8 := (r.1, acc ++ r.2.1, r.2.2)
theorem prs_step {u : Int → Int → Int} {f : Nat} {cnt last : Int} {l : List UInt8} {acc : List (Int × Int)} (hc : 0 < cnt) (h1 : (rdN 0 0 l).1 = 0) (h2 : (rdN 0 0 (rdN 0 0 l).2.2).1 = 0) :
    comb acc (prs u (f + 1) cnt last l) = comb (acc ++ [(u last (rdN 0 0 l).2.1, ((rdN 0 0 (rdN 0 0 l).2.2).2.1 : Int))]) (prs u f (cnt - 1) (u last (rdN 0 0 l).2.1) (rdN 0 0 (rdN 0 0 l).2.2).2.2) := by
  conv => lhs; unfold prs
  rw [if_neg (by omega), if_neg (by simpa using h1), if_neg (by simpa using h2)]
  simp [comb]
theorem prs_bad {u : Int → Int → Int} {f : Nat} {cnt last : Int} {l : List UInt8} (hc : 0 < cnt) (h : (rdN 0 0 l).1 ≠ 0) : (prs u (f + 1) cnt last l).1 = (rdN 0 0 l).1 := by
  unfold prs; rw [if_neg (by omega), if_pos h]
theorem prs_bad2 {u : Int → Int → Int} {f : Nat} {cnt last : Int} {l : List UInt8} (hc : 0 < cnt) (h1 : (rdN 0 0 l).1 = 0) (h : (rdN 0 0 (rdN 0 0 l).2.2).1 ≠ 0) : (prs u (f + 1) cnt last l).1 = (rdN 0 0 (rdN 0 0 l).2.2).1 := by
  unfold prs; rw [if_neg (by omega), if_neg (by simpa using h1), if_pos h]
theorem prs_end {u : Int → Int → Int} {f : Nat} {cnt last : Int} {l : List UInt8} (hc : cnt ≤ 0) : prs u f cnt last l = (0, [], l) := by
  cases f with
  | zero => rfl
  | succ f => unfold prs; rw [if_pos hc]
/-- the next bucket, of the program and of the reference -/
def uP (last d : Int) : Int := min last 4611686018427387904 + min d 4611686018427387903
def uR (last d : Int) : Int := if 4611686018427387904 - last < d then 4611686018427387904 else last + d
/-- the counts of the bytes behind the first one -/
def prsL (u : Int → Int → Int) (r : List UInt8) : Int × List (Int × Int) × List UInt8 := prs u (r.length + 1) (rdN 0 0 r).2.1 0 (rdN 0 0 r).2.2
/-- the error of FromBytes -/
def codeF (u : Int → Int → Int) : List UInt8 → Int
  | [] => 16
  | x :: r => if (rdN 0 0 r).1 ≠ 0 then (rdN 0 0 r).1 else if (prsL u r).1 ≠ 0 then (prsL u r).1 else if (prsL u r).2.2 ≠ [] then 2 else codeH x.toNat (prsL u r).2.1
theorem codeF_cons (u : Int → Int → Int) (x : UInt8) (r : List UInt8) : codeF u (x :: r) = if (rdN 0 0 r).1 ≠ 0 then (rdN 0 0 r).1 else if (prsL u r).1 ≠ 0 then (prsL u r).1 else if (prsL u r).2.2 ≠ [] then 2 else codeH x.toNat (prsL u r).2.1 := rfl
def bitsF : List UInt8 → Int | [] => 0 | x :: _ => x.toNat
def listF (u : Int → Int → Int) : List UInt8 → List (Int × Int) | [] => [] | _ :: r => (prsL u r).2.1
/-- a number read, or nothing behind an error -/
def rdS (no : Int) (l : List UInt8) : Int × Nat × List UInt8 := if no ≠ 0 then (no, 0, l) else rdN 0 0 l
theorem rdS_val (no : Int) (l : List UInt8) : (rdS no l).2.1 ≤ 9223372036854775807 := by
  unfold rdS
  split
  · simp
  · exact rdN_val l 0 0 (by omega) (by simp)
theorem numberG_any (B K : Nat) (l : List UInt8) (no : Int) (w : World) (h : SrcAt w B K l no) :
    Calls Tryd.prog 68 #[.pointer (some ⟨K, 0, none⟩)] w fun e w' => e = .returned (.int .i64 (rdS no l).2.1) ∧ SrcAt w' B K (rdS no l).2.2 (rdS no l).1 ∧ Fr (fun i => i = K) w w' := by
  by_cases h0 : no = 0
  · subst h0
    have e : rdS 0 l = rdN 0 0 l := by unfold rdS; simp
    rw [e]
    exact numberS_any B K l w h
  · have e : rdS no l = (no, 0, l) := by unfold rdS; rw [if_pos h0]
    rw [e]
    refine (number_err B K l no w h h0).mono ?_
    rintro e w' ⟨rfl, rfl⟩
    exact ⟨rfl, h, Fr.refl _ _⟩
/-- a prefix of an agreeing list of counts decides codeH -/
theorem stepH_take (b : Int) (a c d : List (Int × Int)) (j : Nat) (h : j < a.length) : stepH b (a ++ c) j = stepH b (a ++ d) j := by
  have h1 : (a ++ c).getD j (0, 0) = (a ++ d).getD j (0, 0) := by
    simp [List.getD_eq_getElem?_getD, List.getElem?_append_left h]
  have h2 : (a ++ c).getD (j - 1) (0, 0) = (a ++ d).getD (j - 1) (0, 0) := by
    simp [List.getD_eq_getElem?_getD, List.getElem?_append_left (show j - 1 < a.length by omega)]
  unfold stepH
  rw [h1, h2]
theorem codeH_same {b : Int} (a : List (Int × Int)) (x y n m : Int) (c d : List (Int × Int)) (hx : fineK b x = false) (hy : fineK b y = false) : codeH b (a ++ (x, n) :: c) = codeH b (a ++ (y, m) :: d) := by
  by_cases hb : fineB b = true
  · have key : ∀ (z l : Int) (e : List (Int × Int)), fineK b z = false → stepH b (a ++ (z, l) :: e) a.length = 9 := by
      intro z l e hz
      exact step_no (k := a.length) (x := z) (m := l) (by simp) hz
    by_cases ho : okTo b (a ++ (x, n) :: c) a.length
    · have ho' : okTo b (a ++ (y, m) :: d) a.length := fun j hj => by rw [stepH_take b a _ ((x, n) :: c) j hj]; exact ho j hj
      rw [codeH_at hb (by simp) ho (by rw [key x n c hx]; omega), codeH_at hb (by simp) ho' (by rw [key y m d hy]; omega), key x n c hx, key y m d hy]
    · -- the first bad one lies within a
      obtain ⟨j, hj, hbad⟩ : ∃ j, j < a.length ∧ stepH b (a ++ (x, n) :: c) j ≠ 0 := by
        refine Classical.byContradiction fun hn => ho fun j hj => ?_
        refine Classical.byContradiction fun h => hn ⟨j, hj, h⟩
      have hmin : ∀ (N : Nat), (∃ j, j < N ∧ j < a.length ∧ stepH b (a ++ (x, n) :: c) j ≠ 0) → ∃ j, j < a.length ∧ stepH b (a ++ (x, n) :: c) j ≠ 0 ∧ okTo b (a ++ (x, n) :: c) j := by
        intro N
        induction N with
        | zero => rintro ⟨j, h, _⟩; omega
        | succ N ih =>
          rintro ⟨j, h1, h2, h3⟩
          by_cases hp : ∃ j', j' < j ∧ stepH b (a ++ (x, n) :: c) j' ≠ 0
          · obtain ⟨j', g1, g2⟩ := hp
            exact ih ⟨j', by omega, by omega, g2⟩
          · exact ⟨j, h2, h3, fun j' hj' => Classical.byContradiction fun h => hp ⟨j', hj', h⟩⟩
      obtain ⟨i, hi, hs, hok⟩ := hmin (j + 1) ⟨j, by omega, hj, hbad⟩
      have hok' : okTo b (a ++ (y, m) :: d) i := fun j' hj' => by rw [stepH_take b a _ ((x, n) :: c) j' (by omega)]; exact hok j' hj'
      have hs' : stepH b (a ++ (y, m) :: d) i ≠ 0 := by rw [stepH_take b a _ ((x, n) :: c) i hi]; exact hs
      rw [codeH_at hb (by simp; omega) hok hs, codeH_at hb (by simp; omega) hok' hs', stepH_take b a _ ((y, m) :: d) i hi]
  · have hb' : fineB b = false := by simpa using hb
    rw [codeH_bad hb', codeH_bad hb']
theorem fineK_big {b x : Int} (h : 1000000 < x) (hb : fineB b = true) : fineK b x = false := by
  simp [fineB] at hb
  have := maxB_bd b hb.1 hb.2
  simp [fineK]; omega
/-- while the buckets are small the two readers agree; then both have a bucket that is too great -/
theorem prs_agree : ∀ (f : Nat) (cnt last : Int) (l : List UInt8), 0 ≤ last → last ≤ 1000000 →
    prs uP f cnt last l = prs uR f cnt last l ∨ ((prs uP f cnt last l).1 = (prs uR f cnt last l).1 ∧ (prs uP f cnt last l).2.2 = (prs uR f cnt last l).2.2 ∧ ∃ a x y n m c d, (prs uP f cnt last l).2.1 = a ++ (x, n) :: c ∧ (prs uR f cnt last l).2.1 = a ++ (y, m) :: d ∧ 1000000 < x ∧ 1000000 < y)
  | 0, _, _, _, _, _ => .inl rfl
  | f + 1, cnt, last, l, h0, h1 => by
    by_cases hc : cnt ≤ 0
    · left; rw [prs_end hc, prs_end hc]
    · by_cases hd : (rdN 0 0 l).1 ≠ 0
      · left; unfold prs; rw [if_neg hc, if_neg hc, if_pos hd, if_pos hd]
      · by_cases hn : (rdN 0 0 (rdN 0 0 l).2.2).1 ≠ 0
        · left; unfold prs; rw [if_neg hc, if_neg hc, if_neg hd, if_neg hd, if_pos hn, if_pos hn]
        · have same : ∀ (g : Nat) (cnt x y : Int) (l : List UInt8), (prs uP g cnt x l).1 = (prs uR g cnt y l).1 ∧ (prs uP g cnt x l).2.2 = (prs uR g cnt y l).2.2 := by
            intro g
            induction g with
            | zero => intro _ _ _ _; exact ⟨rfl, rfl⟩
            | succ g ih =>
              intro cnt x y l
              unfold prs
              by_cases hc : cnt ≤ 0
              · rw [if_pos hc, if_pos hc]; exact ⟨rfl, rfl⟩
              · rw [if_neg hc, if_neg hc]
                by_cases hd : (rdN 0 0 l).1 ≠ 0
                · rw [if_pos hd, if_pos hd]; exact ⟨rfl, rfl⟩
                · rw [if_neg hd, if_neg hd]
                  by_cases hn : (rdN 0 0 (rdN 0 0 l).2.2).1 ≠ 0
                  · rw [if_pos hn, if_pos hn]; exact ⟨rfl, rfl⟩
                  · rw [if_neg hn, if_neg hn]
                    exact ih _ _ _ _
          have eP : prs uP (f + 1) cnt last l = ((prs uP f (cnt - 1) (uP last (rdN 0 0 l).2.1) (rdN 0 0 (rdN 0 0 l).2.2).2.2).1, (uP last (rdN 0 0 l).2.1, ((rdN 0 0 (rdN 0 0 l).2.2).2.1 : Int)) :: (prs uP f (cnt - 1) (uP last (rdN 0 0 l).2.1) (rdN 0 0 (rdN 0 0 l).2.2).2.2).2.1, (prs uP f (cnt - 1) (uP last (rdN 0 0 l).2.1) (rdN 0 0 (rdN 0 0 l).2.2).2.2).2.2) := by
            conv => lhs; unfold prs
            rw [if_neg hc, if_neg hd, if_neg hn]
          have eR : prs uR (f + 1) cnt last l = ((prs uR f (cnt - 1) (uR last (rdN 0 0 l).2.1) (rdN 0 0 (rdN 0 0 l).2.2).2.2).1, (uR last (rdN 0 0 l).2.1, ((rdN 0 0 (rdN 0 0 l).2.2).2.1 : Int)) :: (prs uR f (cnt - 1) (uR last (rdN 0 0 l).2.1) (rdN 0 0 (rdN 0 0 l).2.2).2.2).2.1, (prs uR f (cnt - 1) (uR last (rdN 0 0 l).2.1) (rdN 0 0 (rdN 0 0 l).2.2).2.2).2.2) := by
            conv => lhs; unfold prs
            rw [if_neg hc, if_neg hd, if_neg hn]
          have hv := rdN_val l 0 0 (by omega) (by simp)
          generalize hD : ((rdN 0 0 l).2.1 : Nat) = D at *
          generalize (rdN 0 0 (rdN 0 0 l).2.2).2.1 = NN at *
          generalize (rdN 0 0 (rdN 0 0 l).2.2).2.2 = RR at *
          by_cases hs : last + (D : Int) ≤ 1000000
          · have e1 : uP last D = last + D := by unfold uP; omega
            have e2 : uR last D = last + D := by unfold uR; rw [if_neg (by omega)]
            rw [eP, eR, e1, e2]
            rcases prs_agree f (cnt - 1) (last + D) RR (by omega) hs with h | ⟨g1, g2, a, x, y, n, m, c, d, g3, g4, g5, g6⟩
            · left; rw [h]
            · right
              refine ⟨g1, g2, (last + D, (NN : Int)) :: a, x, y, n, m, c, d, ?_, ?_, g5, g6⟩
              · simp only [g3, List.cons_append]
              · simp only [g4, List.cons_append]
          · right
            rw [eP, eR]
            have hs2 := same f (cnt - 1) (uP last D) (uR last D) RR
            refine ⟨hs2.1, hs2.2, [], uP last D, uR last D, NN, NN, _, _, rfl, rfl, ?_, ?_⟩
            · unfold uP; omega
            · unfold uR; split <;> omega
theorem codeF_same (l : List UInt8) : codeF uP l = codeF uR l := by
  cases l with
  | nil => rfl
  | cons x r =>
    rw [codeF_cons, codeF_cons]
    by_cases h1 : (rdN 0 0 r).1 ≠ 0
    · rw [if_pos h1, if_pos h1]
    · rw [if_neg h1, if_neg h1]
      rcases prs_agree (r.length + 1) (rdN 0 0 r).2.1 0 (rdN 0 0 r).2.2 (by omega) (by omega) with h | ⟨g1, g2, a, x', y', n, m, c, d, g3, g4, g5, g6⟩
      · have : prsL uP r = prsL uR r := h
        rw [this]
      · have e1 : (prsL uP r).1 = (prsL uR r).1 := g1
        have e2 : (prsL uP r).2.2 = (prsL uR r).2.2 := g2
        rw [e1, e2]
        by_cases h2 : (prsL uR r).1 ≠ 0
        · rw [if_pos h2, if_pos h2]
        · rw [if_neg h2, if_neg h2]
          by_cases h3 : (prsL uR r).2.2 ≠ []
          · rw [if_pos h3, if_pos h3]
          · rw [if_neg h3, if_neg h3]
            have e3 : (prsL uP r).2.1 = a ++ (x', n) :: c := g3
            have e4 : (prsL uR r).2.1 = a ++ (y', m) :: d := g4
            rw [e3, e4]
            by_cases hb : fineB (x.toNat : Int) = true
            · exact codeH_same a x' y' n m c d (fineK_big g5 hb) (fineK_big g6 hb)
            · have hb' : fineB (x.toNat : Int) = false := by simpa using hb
              rw [codeH_bad hb', codeH_bad hb']
theorem codeF_zero {u : Int → Int → Int} {l : List UInt8} (h : codeF u l = 0) : ∃ x r, l = x :: r ∧ (rdN 0 0 r).1 = 0 ∧ (prsL u r).1 = 0 ∧ (prsL u r).2.2 = [] ∧ codeH x.toNat (prsL u r).2.1 = 0 := by
  cases l with
  | nil => simp [codeF] at h
  | cons x r =>
    rw [codeF_cons] at h
    by_cases h1 : (rdN 0 0 r).1 ≠ 0
    · rw [if_pos h1] at h; exact absurd h h1
    · rw [if_neg h1] at h
      by_cases h2 : (prsL u r).1 ≠ 0
      · rw [if_pos h2] at h; exact absurd h h2
      · rw [if_neg h2] at h
        by_cases h3 : (prsL u r).2.2 ≠ []
        · rw [if_pos h3] at h; omega
        · rw [if_neg h3] at h
          exact ⟨x, r, rfl, by simpa using h1, by simpa using h2, by simpa using h3, h⟩
theorem listF_same {l : List UInt8} (h : codeF uP l = 0) : listF uP l = listF uR l := by
  obtain ⟨x, r, rfl, h1, h2, h3, h4⟩ := codeF_zero h
  show (prsL uP r).2.1 = (prsL uR r).2.1
  rcases prs_agree (r.length + 1) (rdN 0 0 r).2.1 0 (rdN 0 0 r).2.2 (by omega) (by omega) with h | ⟨g1, g2, a, x', y', n, m, c, d, g3, g4, g5, g6⟩
  · have : prsL uP r = prsL uR r := h
    rw [this]
  · have e3 : (prsL uP r).2.1 = a ++ (x', n) :: c := g3
    have hg := codeH_zero h4
    have := (hg.2.2.2.1 (x', n) (by rw [e3]; simp)).1
    have := maxB_bd _ hg.1 hg.2.1
    simp only at *; omega
end Go.Proofs.YtgmbgclhljobaaaDoor
