import Derived.Test.YtepfmoaihhonlaaGreatDoorFracPlus
import Derived.Test.YtepfmoaihhonlaaGreatDoorG14
import Derived.Test.YtepfmoaihhonlaaGreatDoorG38
/- How large the parts of fractions can be: plain. -/
namespace Go.Proofs.YtepfmoaihhonlaaGreatDoor

theorem mk_le (b : Bool) (n : Nat) {d : Nat} (hd : 0 < d) : frN (mkRat (sg b n) d) ≤ n ∧ (mkRat (sg b n) d).den ≤ d := by
  rcases Nat.eq_zero_or_pos n with rfl | h
  · rw [low_zero]; exact ⟨Nat.le_refl _, hd⟩
  · obtain ⟨_, h2, h3⟩ := low_pos (b := b) h hd
    rw [h2, h3]
    exact ⟨Nat.div_le_self _ _, Nat.div_le_self _ _⟩
theorem sz_mono {n m : Nat} {a : Rat} (h : Sz n a) (hnm : n ≤ m) : Sz m a := by
  have : T4 ^ n ≤ T4 ^ m := Nat.pow_le_pow_right (by unfold T4; omega) hnm
  exact ⟨Nat.lt_of_lt_of_le h.1 this, Nat.lt_of_lt_of_le h.2 this⟩
theorem sz_mul {n m : Nat} {a b : Rat} (ha : Sz n a) (hb : Sz m b) : Sz (n + m) (a * b) := by
  have h := mk_le (frS a != frS b) (frN a * frN b) (Nat.mul_pos a.den_pos b.den_pos)
  rw [times_eq] at h
  refine ⟨?_, ?_⟩
  · exact Nat.lt_of_le_of_lt h.1 (by rw [Nat.pow_add]; exact Nat.mul_lt_mul'' ha.1 hb.1)
  · exact Nat.lt_of_le_of_lt h.2 (by rw [Nat.pow_add]; exact Nat.mul_lt_mul'' ha.2 hb.2)
theorem sz_add {n m : Nat} {a b : Rat} (ha : Sz n a) (hb : Sz m b) : Sz (n + m + 1) (a + b) := by
  have hx : frN a * b.den < T4 ^ (n + m) := by rw [Nat.pow_add]; exact Nat.mul_lt_mul'' ha.1 hb.2
  have hy : frN b * a.den < T4 ^ (n + m) := by rw [Nat.pow_add, Nat.mul_comm]; exact Nat.mul_lt_mul'' ha.2 hb.1
  have hd : a.den * b.den < T4 ^ (n + m) := by rw [Nat.pow_add]; exact Nat.mul_lt_mul'' ha.2 hb.2
  have hp := Nat.mul_pos a.den_pos b.den_pos
  have e : T4 ^ (n + m + 1) = T4 ^ (n + m) * 10000 := Nat.pow_succ T4 (n + m)
  have key : frN (a + b) ≤ frN a * b.den + frN b * a.den ∧ (a + b).den ≤ a.den * b.den := by
    by_cases hs : frS a = frS b
    · have h := mk_le (frS a) (frN a * b.den + frN b * a.den) hp
      rw [plus_same hs] at h; exact h
    · rcases Nat.le_total (frN b * a.den) (frN a * b.den) with hc | hc
      · have h := mk_le (frS a) (frN a * b.den - frN b * a.den) hp
        rw [plus_ge hs hc] at h; exact ⟨by omega, h.2⟩
      · have h := mk_le (frS b) (frN b * a.den - frN a * b.den) hp
        rw [plus_lt hs hc] at h; exact ⟨by omega, h.2⟩
  exact ⟨by rw [e]; omega, by rw [e]; omega⟩
theorem sz_sub {n m : Nat} {a b : Rat} (ha : Sz n a) (hb : Sz m b) : Sz (n + m + 1) (a - b) := by
  rw [Rat.sub_eq_add_neg]; exact sz_add ha (sz_neg hb)
theorem sz_part {n : Nat} {z : Int} {d : Nat} (hd : 0 < d) (h1 : z.natAbs < T4 ^ n) (h2 : d < T4 ^ n) : Sz n (mkRat z d) := by
  have h := mk_le (decide (z < 0)) z.natAbs hd
  rw [sg_self] at h
  exact ⟨Nat.lt_of_le_of_lt h.1 h1, Nat.lt_of_le_of_lt h.2 h2⟩
theorem sz_int {n : Nat} {z : Int} (hn : 1 ≤ n) (h1 : z.natAbs < T4 ^ n) : Sz n (z : Rat) := by
  refine ⟨h1, ?_⟩
  have : T4 ^ 1 ≤ T4 ^ n := Nat.pow_le_pow_right (by unfold T4; omega) hn
  rw [Nat.pow_one] at this
  show 1 < _
  unfold T4 at *; omega
/-- the area of a part of a stage, as the reference adds it up -/
def stA (s : Int × Int × Int) (long : Int) : Rat := (((s.2.1 : Int) : Rat) + (((s.2.1 : Int) : Rat) + (((s.2.2 - s.2.1 : Int)) : Rat) * mkRat long s.1.toNat)) * mkRat 1 2 * mkRat long 1000000000
/-- the sum of the first ones up to a time -/
def accR (l : List (Int × Int × Int)) (t : Int) : Nat → Rat
  | 0 => 0
  | k + 1 => accR l t k + (match l[k]? with | some s => stA s (min s.1 (t - ((l.take k).map (·.1)).sum)) | none => 0)
end Go.Proofs.YtepfmoaihhonlaaGreatDoor

/- Means: plain. -/
namespace Go.Proofs.YtepfmoaihhonlaaGreatDoor

/-- the sum of what a function has of the buckets, so often as there are values -/
def sumN (f : Int → Int) (cs : List (Int × Int)) : Nat := (cs.map (fun c => (f c.1).toNat * c.2.toNat)).sum
theorem sumN_take {f : Int → Int} {cs : List (Int × Int)} {k : Nat} {X M : Int} (h : cs[k]? = some (X, M)) : sumN f (cs.take (k + 1)) = sumN f (cs.take k) + (f X).toNat * M.toNat := by
  unfold sumN
  rw [List.take_add_one, h]
  simp
theorem sumN_le {f : Int → Int} {cs : List (Int × Int)} (hf : ∀ c ∈ cs, f c.1 ≤ 1125899906842623) (h : ∀ c ∈ cs, 1 ≤ c.2 ∧ c.2 ≤ 1125899906842624) : sumN f cs ≤ 1125899906842623 * (tot cs).toNat := by
  induction cs with
  | nil => simp [sumN]
  | cons c r ih =>
    have h1 := h c (by simp)
    have h2 := hf c (by simp)
    have h3 := ih (fun x hx => hf x (by simp [hx])) (fun x hx => h x (by simp [hx]))
    have h4 := (tot_bd r (fun x hx => h x (by simp [hx]))).1
    have e : (tot (c :: r)).toNat = c.2.toNat + (tot r).toNat := by unfold tot at *; simp only [List.map_cons, List.sum_cons]; omega
    have h5 : (f c.1).toNat * c.2.toNat ≤ 1125899906842623 * c.2.toNat := Nat.mul_le_mul (by omega) (Nat.le_refl _)
    unfold sumN at *
    rw [List.map_cons, List.sum_cons, e, Nat.mul_add]
    omega
theorem sumN_good {b : Int} {cs : List (Int × Int)} (hg : Good b cs) (k : Nat) : sumN (loB b) (cs.take k) ≤ 1125899906842623 * 1125899906842624 ∧ sumN (hiB b) (cs.take k) ≤ 1125899906842623 * 1125899906842624 := by
  have hm := fun c (hc : c ∈ cs.take k) => hg.2.2.2.1 c (List.mem_of_mem_take hc)
  have hl := fun c (hc : c ∈ cs.take k) => lim_bd b c.1 hg.1 hg.2.1 (hm c hc).1.1 (hm c hc).1.2
  have htk : tot (cs.take k) ≤ tot cs := by
    have h3 : tot cs = tot (cs.take k) + tot (cs.drop k) := by
      conv => lhs; rw [← List.take_append_drop k cs]
      unfold tot; rw [List.map_append, List.sum_append]
    have := (tot_bd (cs.drop k) (fun c hc => (hg.2.2.2.1 c (List.mem_of_mem_drop hc)).2)).1
    omega
  have h6 := hg.2.2.2.2.2
  have h1 := sumN_le (f := loB b) (cs := cs.take k) (fun c hc => by have := hl c hc; omega) (fun c hc => (hm c hc).2)
  have h2 := sumN_le (f := hiB b) (cs := cs.take k) (fun c hc => by have := hl c hc; omega) (fun c hc => (hm c hc).2)
  have h7 : (tot (cs.take k)).toNat ≤ 1125899906842624 := by omega
  have h8 := Nat.mul_le_mul (Nat.le_refl 1125899906842623) h7
  exact ⟨Nat.le_trans h1 h8, Nat.le_trans h2 h8⟩
def meanC (b : Int) (cs : List (Int × Int)) : Int := if codeH b cs ≠ 0 then codeH b cs else if cs.length = 0 then 13 else 0
def meanL (b : Int) (cs : List (Int × Int)) : List UInt8 × List UInt8 := if meanC b cs = 0 then ratS (sumN (loB b) cs) (tot cs).toNat else ([], [])
def meanH (b : Int) (cs : List (Int × Int)) : List UInt8 × List UInt8 := if meanC b cs = 0 then ratS (sumN (hiB b) cs) (tot cs).toNat else ([], [])
theorem rat_mk (n d : Nat) (hd : 0 < d) : frS (mkRat (n : Int) d) = false ∧ ratQ (mkRat (n : Int) d) = ratS n d := by
  have e : mkRat (n : Int) d = (n : Rat) / (d : Rat) := by rw [Rat.mkRat_eq_div]; rfl
  rw [e]
  exact ⟨(rat_low n d hd).1, ratQ_div n d hd⟩
end Go.Proofs.YtepfmoaihhonlaaGreatDoor
