import Derived.Test.YtepfmoaihhonlaaGreatDoorFracPlus
import Derived.Test.YtepfmoaihhonlaaGreatDoorG10
/- How large the parts of fractions can be: plain. -/
namespace Go.Proofs.YtepfmoaihhonlaaGreatDoor

theorem mk_le (b : Bool) (n : Nat) {d : Nat} (hd : 0 < d) : frN (mkRat (sg b n) d) ≤ n ∧ (mkRat (sg b n) d).den ≤ d := by
  rcases Nat.eq_zero_or_pos n with rfl | h
  · rw [low_zero]; exact ⟨Nat.le_refl _, hd⟩
  · obtain ⟨_, h2, h3⟩ := low_pos (b := b) h hd
    rw [h2, h3]
    exact ⟨Nat.div_le_self _ _, Nat.div_le_self _ _⟩
theorem sz_mono {n m : Nat} {a : Rat} (h : Sz n a) (hnm : n ≤ m) : Sz m a := by
  have : T4 ^ n ≤ T4 ^ m := Nat.pow_le_pow_right (by unfold T4; omega) hnm
  exact ⟨Nat.lt_of_lt_of_le h.1 this, Nat.lt_of_lt_of_le h.2 this⟩
theorem sz_mul {n m : Nat} {a b : Rat} (ha : Sz n a) (hb : Sz m b) : Sz (n + m) (a * b) := by
  have h := mk_le (frS a != frS b) (frN a * frN b) (Nat.mul_pos a.den_pos b.den_pos)
  rw [times_eq] at h
  refine ⟨?_, ?_⟩
  · exact Nat.lt_of_le_of_lt h.1 (by rw [Nat.pow_add]; exact Nat.mul_lt_mul'' ha.1 hb.1)
  · exact Nat.lt_of_le_of_lt h.2 (by rw [Nat.pow_add]; exact Nat.mul_lt_mul'' ha.2 hb.2)
theorem sz_add {n m : Nat} {a b : Rat} (ha : Sz n a) (hb : Sz m b) : Sz (n + m + 1) (a + b) := by
  have hx : frN a * b.den < T4 ^ (n + m) := by rw [Nat.pow_add]; exact Nat.mul_lt_mul'' ha.1 hb.2
  have hy : frN b * a.den < T4 ^ (n + m) := by rw [Nat.pow_add, Nat.mul_comm]; exact Nat.mul_lt_mul'' ha.2 hb.1
  have hd : a.den * b.den < T4 ^ (n + m) := by rw [Nat.pow_add]; exact Nat.mul_lt_mul'' ha.2 hb.2
  have hp := Nat.mul_pos a.den_pos b.den_pos
  have e : T4 ^ (n + m + 1) = T4 ^ (n + m) * 10000 := Nat.pow_succ T4 (n + m)
  have key : frN (a + b) ≤ frN a * b.den + frN b * a.den ∧ (a + b).den ≤ a.den * b.den := by
    by_cases hs : frS a = frS b
    · have h := mk_le (frS a) (frN a * b.den + frN b * a.den) hp
      rw [plus_same hs] at h; exact h
    · rcases Nat.le_total (frN b * a.den) (frN a * b.den) with hc | hc
      · have h := mk_le (frS a) (frN a * b.den - frN b * a.den) hp
        rw [plus_ge hs hc] at h; exact ⟨by omega, h.2⟩
      · have h := mk_le (frS b) (frN b * a.den - frN a * b.den) hp
        rw [plus_lt hs hc] at h; exact ⟨by omega, h.2⟩
  exact ⟨by rw [e]; omega, by rw [e]; omega⟩
theorem sz_sub {n m : Nat} {a b : Rat} (ha : Sz n a) (hb : Sz m b) : Sz (n + m + 1) (a - b) := by
  rw [Rat.sub_eq_add_neg]; exact sz_add ha (sz_neg hb)
theorem sz_part {n : Nat} {z : Int} {d : Nat} (hd : 0 < d) (h1 : z.natAbs < T4 ^ n) (h2 : d < T4 ^ n) : Sz n (mkRat z d) := by
  have h := mk_le (decide (z < 0)) z.natAbs hd
  rw [sg_self] at h
  exact ⟨Nat.lt_of_le_of_lt h.1 h1, Nat.lt_of_le_of_lt h.2 h2⟩
theorem sz_int {n : Nat} {z : Int} (hn : 1 ≤ n) (h1 : z.natAbs < T4 ^ n) : Sz n (z : Rat) := by
  refine ⟨h1, ?_⟩
  have : T4 ^ 1 ≤ T4 ^ n := Nat.pow_le_pow_right (by unfold T4; omega) hn
  rw [Nat.pow_one] at this
  show 1 < _
  unfold T4 at *; omega
/-- the area of a part of a stage, as the reference adds it up -/
def stA (s : Int × Int × Int) (long : Int) : Rat := (((s.2.1 : Int) : Rat) + (((s.2.1 : Int) : Rat) + (((s.2.2 - s.2.1 : Int)) : Rat) * mkRat long s.1.toNat)) * mkRat 1 2 * mkRat long 1000000000
/-- the sum of the first ones up to a time -/
def accR (l : List (Int × Int × Int)) (t : Int) : Nat → Rat
  | 0 => 0
  | k + 1 => accR l t k + (match l[k]? with | some s => stA s (min s.1 (t - ((l.take k).map (·.1)).sum)) | none => 0)
end Go.Proofs.YtepfmoaihhonlaaGreatDoor

/- Means: plain. -/
namespace Go.Proofs.YtepfmoaihhonlaaGreatDoor

/-- the sum of what a function has of the buckets, so often as there are values -/
def sumN (f : Int → Int) (cs : List (Int × Int)) : Nat := (cs.map (fun c => (f c.1).toNat * c.2.toNat)).sum
theorem sumN_take {f : Int → Int} {cs : List (Int × Int)} {k : Nat} {X M : Int} (h : cs[k]? = some (X, M)) : sumN f (cs.take (k + 1)) = sumN f (cs.take k) + (f X).toNat * M.toNat := by
  unfold sumN
  rw [List.take_add_one, h]
  simp
theorem sumN_le {f : Int → Int} {cs : List (Int × Int)} (hf : ∀ c ∈ cs, f c.1 ≤ 1125899906842623) (h : ∀ c ∈ cs, 1 ≤ c.2 ∧ c.2 ≤ 1125899906842624) : sumN f cs ≤ 1125899906842623 * (tot cs).toNat := by
  induction cs with
  | nil => simp [sumN]
  | cons c r ih =>
    have h1 := h c (by simp)
    have h2 := hf c (by simp)
    have h3 := ih (fun x hx => hf x (by simp [hx])) (fun x hx => h x (by simp [hx]))
    have h4 := (tot_bd r (fun x hx => h x (by simp [hx]))).1
    have e : (tot (c :: r)).toNat = c.2.toNat + (tot r).toNat := by unfold tot at *; simp only [List.map_cons, List.sum_cons]; omega
    have h5 : (f c.1).toNat * c.2.toNat ≤ 1125899906842623 * c.2.toNat := Nat.mul_le_mul (by omega) (Nat.le_refl _)
    unfold sumN at *
    rw [List.map_cons, List.sum_cons, e, Nat.mul_add]
    omega
theorem sumN_good {b : Int} {cs : List (Int × Int)} (hg : Good b cs) (k : Nat) : sumN (loB b) (cs.take k) ≤ 1125899906842623 * 1125899906842624 ∧ sumN (hiB b) (cs.take k) ≤ 1125899906842623 * 1125899906842624 := by
  have hm := fun c (hc : c ∈ cs.take k) => hg.2.2.2.1 c (List.mem_of_mem_take hc)
  have hl := fun c (hc : c ∈ cs.take k) => lim_bd b c.1 hg.1 hg.2.1 (hm c hc).1.1 (hm c hc).1.2
  have htk : tot (cs.take k) ≤ tot cs := by
    have h3 : tot cs = tot (cs.take k) + tot (cs.drop k) := by
      conv => lhs; rw [← List.take_append_drop k cs]
      unfold tot; rw [List.map_append, List.sum_append]
    have := (tot_bd (cs.drop k) (fun c hc => (hg.2.2.2.1 c (List.mem_of_mem_drop hc)).2)).1
    omega
  have h6 := hg.2.2.2.2.2
  have h1 := sumN_le (f := loB b) (cs := cs.take k) (fun c hc => by have := hl c hc; omega) (fun c hc => (hm c hc).2)
  have h2 := sumN_le (f := hiB b) (cs := cs.take k) (fun c hc => by have := hl c hc; omega) (fun c hc => (hm c hc).2)
  have h7 : (tot (cs.take k)).toNat ≤ 1125899906842624 := by omega
  have h8 := Nat.mul_le_mul (Nat.le_refl 1125899906842623) h7
  exact ⟨Nat.le_trans h1 h8, Nat.le_trans h2 h8⟩
def meanC (b : Int) (cs : List (Int × Int)) : Int := if codeH b cs ≠ 0 then codeH b cs else if cs.length = 0 then 13 else 0
def meanL (b : Int) (cs : List (Int × Int)) : List UInt8 × List UInt8 := if meanC b cs = 0 then ratS (sumN (loB b) cs) (tot cs).toNat else ([], [])
def meanH (b : Int) (cs : List (Int × Int)) : List UInt8 × List UInt8 := if meanC b cs = 0 then ratS (sumN (hiB b) cs) (tot cs).toNat else ([], [])
theorem rat_mk (n d : Nat) (hd : 0 < d) : frS (mkRat (n : Int) d) = false ∧ ratQ (mkRat (n : Int) d) = ratS n d := by
  have e : mkRat (n : Int) d = (n : Rat) / (d : Rat) := by rw [Rat.mkRat_eq_div]; rfl
  rw [e]
  exact ⟨(rat_low n d hd).1, ratQ_div n d hd⟩
end Go.Proofs.YtepfmoaihhonlaaGreatDoor

/- Apart: plain. -/
namespace Go.Proofs.YtepfmoaihhonlaaGreatDoor

/-- how many values lie in buckets up to k -/
def cumF (cs : List (Int × Int)) (k : Int) : Int := belF (fun x => decide (x ≤ k)) cs
theorem belF_app (P : Int → Bool) (a b : List (Int × Int)) : belF P (a ++ b) = belF P a + belF P b := by
  unfold belF; rw [List.map_append, List.sum_append]
theorem belF_none {P : Int → Bool} {cs : List (Int × Int)} (h : ∀ c ∈ cs, P c.1 = false) : belF P cs = 0 := by
  induction cs with
  | nil => rfl
  | cons c r ih =>
    unfold belF at *
    rw [List.map_cons, List.sum_cons, h c (by simp), ih (fun x hx => h x (by simp [hx]))]
    rfl
theorem cum_split {cs : List (Int × Int)} {j : Nat} {k : Int} (h1 : ∀ c ∈ cs.take j, c.1 ≤ k) (h2 : ∀ c ∈ cs.drop j, k < c.1) : cumF cs k = tot (cs.take j) := by
  unfold cumF
  conv => lhs; rw [← List.take_append_drop j cs]
  rw [belF_app, belF_tot (fun c hc => decide_eq_true (h1 c hc)), belF_none (fun c hc => decide_eq_false (by have := h2 c hc; omega)), Int.add_zero]
/-- the difference at a bucket, times both numbers -/
def dAp (a b : List (Int × Int)) (n m : Nat) (k : Int) : Nat := ((cumF a k).toNat * m - (cumF b k).toNat * n) + ((cumF b k).toNat * n - (cumF a k).toNat * m)
def mxD (D : Int → Nat) : List Int → Nat
  | [] => 0
  | k :: r => max (D k) (mxD D r)
theorem mxD_le {D : Int → Nat} {l : List Int} {M : Nat} : mxD D l ≤ M ↔ ∀ k ∈ l, D k ≤ M := by
  induction l with
  | nil => simp [mxD]
  | cons k r ih => simp only [mxD, List.mem_cons, forall_eq_or_imp, ← ih]; omega
theorem mxD_mem {D : Int → Nat} {l l' : List Int} (h : ∀ k, k ∈ l ↔ k ∈ l') : mxD D l = mxD D l' := by
  apply Nat.le_antisymm
  · exact mxD_le.2 fun k hk => mxD_le.1 (Nat.le_refl _) k ((h k).1 hk)
  · exact mxD_le.2 fun k hk => mxD_le.1 (Nat.le_refl _) k ((h k).2 hk)
theorem mxD_app {D : Int → Nat} (l l' : List Int) : mxD D (l ++ l') = max (mxD D l) (mxD D l') := by
  induction l with
  | nil => simp [mxD]
  | cons k r ih => simp only [List.cons_append, mxD, ih]; omega
def keysB (cs : List (Int × Int)) : List Int := cs.map (·.1)
theorem keys_take {cs : List (Int × Int)} {k : Nat} {X M : Int} (h : cs[k]? = some (X, M)) : keysB (cs.take (k + 1)) = keysB (cs.take k) ++ [X] := by
  unfold keysB; rw [List.take_add_one, h]; simp
/-- the state of the walk through both lists: what is passed lies ahead of what is left -/
def ApInv (a b : List (Int × Int)) (i k : Nat) : Prop := (∀ c ∈ a.take i, ∀ d ∈ b.drop k, c.1 < d.1) ∧ (∀ c ∈ b.take k, ∀ d ∈ a.drop i, c.1 < d.1)
theorem sorted_split {cs : List (Int × Int)} (hs : cs.Pairwise (fun a b => a.1 < b.1)) (j : Nat) : ∀ c ∈ cs.take j, ∀ d ∈ cs.drop j, c.1 < d.1 := by
  intro c hc d hd
  have h : (cs.take j ++ cs.drop j).Pairwise (fun a b : Int × Int => a.1 < b.1) := by rw [List.take_append_drop]; exact hs
  exact (List.pairwise_append.1 h).2.2 c hc d hd
theorem drop_at2 {cs : List (Int × Int)} {k : Nat} {s : Int × Int} (h : cs[k]? = some s) : cs.drop k = s :: cs.drop (k + 1) := by
  have e := List.getElem?_eq_some_iff.1 h
  rw [List.drop_eq_getElem_cons e.1, e.2]
theorem take_at2 {cs : List (Int × Int)} {k : Nat} {s : Int × Int} (h : cs[k]? = some s) : cs.take (k + 1) = cs.take k ++ [s] := by
  rw [List.take_add_one, h]; rfl
/-- a step in the first list alone -/
theorem ap_step1 {a b : List (Int × Int)} (ha : a.Pairwise (fun a b => a.1 < b.1)) {i k : Nat} {X M : Int} (hx : a[i]? = some (X, M)) (hI : ApInv a b i k) (hb : ∀ d ∈ b.drop k, X < d.1) :
    ApInv a b (i + 1) k ∧ cumF a X = tot (a.take (i + 1)) ∧ cumF b X = tot (b.take k) := by
  have hd := drop_at2 hx
  have ht := take_at2 hx
  have hs := sorted_split ha (i + 1)
  have hs0 := sorted_split ha i
  have hXd : (X, M) ∈ a.drop i := by rw [hd]; simp
  have hXt : (X, M) ∈ a.take (i + 1) := by rw [ht]; simp
  refine ⟨⟨fun c hc d hdd => ?_, fun c hc d hdd => hI.2 c hc d (by rw [hd]; simp [hdd])⟩, cum_split (fun c hc => ?_) (fun c hc => hs _ hXt c hc), cum_split (fun c hc => ?_) hb⟩
  · rw [ht] at hc
    rcases List.mem_append.1 hc with h | h
    · exact hI.1 c h d hdd
    · rw [List.mem_singleton.1 h]; exact hb d hdd
  · rw [ht] at hc
    rcases List.mem_append.1 hc with h | h
    · have := hs0 c h _ hXd; simp only at this; omega
    · rw [List.mem_singleton.1 h]; exact Int.le_refl _
  · have := hI.2 c hc _ hXd; simp only at this; omega
theorem ApInv.swap {a b : List (Int × Int)} {i k : Nat} (h : ApInv a b i k) : ApInv b a k i := ⟨h.2, h.1⟩
/-- a step in both -/
theorem ap_step3 {a b : List (Int × Int)} (ha : a.Pairwise (fun a b => a.1 < b.1)) (hb : b.Pairwise (fun a b => a.1 < b.1)) {i k : Nat} {X M K : Int} (hx : a[i]? = some (X, M)) (hy : b[k]? = some (X, K)) (hI : ApInv a b i k) :
    ApInv a b (i + 1) (k + 1) ∧ cumF a X = tot (a.take (i + 1)) ∧ cumF b X = tot (b.take (k + 1)) := by
  have hd := drop_at2 hx
  have ht := take_at2 hx
  have hd' := drop_at2 hy
  have ht' := take_at2 hy
  have hs := sorted_split ha (i + 1)
  have hs0 := sorted_split ha i
  have hs' := sorted_split hb (k + 1)
  have hs0' := sorted_split hb k
  have hXd : (X, M) ∈ a.drop i := by rw [hd]; simp
  have hXt : (X, M) ∈ a.take (i + 1) := by rw [ht]; simp
  have hYd : (X, K) ∈ b.drop k := by rw [hd']; simp
  have hYt : (X, K) ∈ b.take (k + 1) := by rw [ht']; simp
  have hup : ∀ c ∈ a.take (i + 1), c.1 ≤ X := fun c hc => by
    rw [ht] at hc
    rcases List.mem_append.1 hc with h | h
    · have := hs0 c h _ hXd; simp only at this; omega
    · rw [List.mem_singleton.1 h]; exact Int.le_refl _
  have hup' : ∀ c ∈ b.take (k + 1), c.1 ≤ X := fun c hc => by
    rw [ht'] at hc
    rcases List.mem_append.1 hc with h | h
    · have := hs0' c h _ hYd; simp only at this; omega
    · rw [List.mem_singleton.1 h]; exact Int.le_refl _
  refine ⟨⟨fun c hc d hdd => ?_, fun c hc d hdd => ?_⟩, cum_split hup (fun c hc => hs _ hXt c hc), cum_split hup' (fun c hc => hs' _ hYt c hc)⟩
  · have h1 := hup c hc; have h2 := hs' _ hYt d hdd; simp only at h2; omega
  · have h1 := hup' c hc; have h2 := hs _ hXt d hdd; simp only at h2; omega
/-- the greatest difference so far -/
def apM (a b : List (Int × Int)) (n m : Nat) (i k : Nat) : Nat := mxD (dAp a b n m) (keysB (a.take i) ++ keysB (b.take k))
theorem apM_step1 {a b : List (Int × Int)} {n m i k : Nat} {X M : Int} (hx : a[i]? = some (X, M)) : apM a b n m (i + 1) k = max (apM a b n m i k) (dAp a b n m X) := by
  unfold apM
  rw [keys_take hx, mxD_app, mxD_app, mxD_app]
  simp only [mxD]; omega
theorem apM_step2 {a b : List (Int × Int)} {n m i k : Nat} {X M : Int} (hx : b[k]? = some (X, M)) : apM a b n m i (k + 1) = max (apM a b n m i k) (dAp a b n m X) := by
  unfold apM
  rw [keys_take hx, mxD_app, mxD_app, mxD_app]
  simp only [mxD]; omega
/-- what Apart returns -/
def apV (a b : List (Int × Int)) : Nat := apM a b (tot a).toNat (tot b).toNat a.length b.length
theorem cum_bd {cs : List (Int × Int)} (h : ∀ c ∈ cs, 1 ≤ c.2 ∧ c.2 ≤ 1125899906842624) (k : Int) : 0 ≤ cumF cs k ∧ cumF cs k ≤ tot cs := belF_bd h
theorem dAp_le {a b : List (Int × Int)} {n m : Nat} (ha : ∀ c ∈ a, 1 ≤ c.2 ∧ c.2 ≤ 1125899906842624) (hb : ∀ c ∈ b, 1 ≤ c.2 ∧ c.2 ≤ 1125899906842624) (hn : tot a ≤ n) (hm : tot b ≤ m) (k : Int) : dAp a b n m k ≤ n * m := by
  have h1 := cum_bd ha k
  have h2 := cum_bd hb k
  have e1 : (cumF a k).toNat * m ≤ n * m := Nat.mul_le_mul (by omega) (Nat.le_refl _)
  have e2 : (cumF b k).toNat * n ≤ n * m := by rw [Nat.mul_comm n m]; exact Nat.mul_le_mul (by omega) (Nat.le_refl _)
  unfold dAp; omega
theorem apM_le {a b : List (Int × Int)} {n m : Nat} (ha : ∀ c ∈ a, 1 ≤ c.2 ∧ c.2 ≤ 1125899906842624) (hb : ∀ c ∈ b, 1 ≤ c.2 ∧ c.2 ≤ 1125899906842624) (hn : tot a ≤ n) (hm : tot b ≤ m) (i k : Nat) : apM a b n m i k ≤ n * m :=
  mxD_le.2 fun q _ => dAp_le ha hb hn hm q
/-- the order of the two does not matter -/
theorem apV_comm (a b : List (Int × Int)) : apV b a = apV a b := by
  unfold apV apM
  have e : dAp b a (tot b).toNat (tot a).toNat = dAp a b (tot a).toNat (tot b).toNat := by
    funext k; unfold dAp; omega
  rw [e]
  exact mxD_mem fun k => by simp only [List.mem_append]; exact or_comm
end Go.Proofs.YtepfmoaihhonlaaGreatDoor

/- Division digit by digit: plain. -/
namespace Go.Proofs.YtepfmoaihhonlaaGreatDoor

theorem kn_le {B y1 y0 u d q r : Nat} (h : q * y1 + r = u) (ht : q * y0 ≤ B * r + d) : q * (y1 * B + y0) ≤ u * B + d := by
  rw [← h, Nat.mul_add, Nat.add_mul, ← Nat.mul_assoc, Nat.mul_comm r B]; omega
theorem kn_gt {B y1 y0 u d q r : Nat} (h : q * y1 + r = u) (ht : B * r + d < q * y0) : u * B + d < q * (y1 * B + y0) := by
  rw [← h, Nat.mul_add, Nat.add_mul, ← Nat.mul_assoc, Nat.mul_comm r B]; omega
theorem kn_first {B y1 y0 u d : Nat} (hy : 0 < y1) (hd : d < B) : (u * B + d) / (y1 * B + y0) ≤ u / y1 := by
  have hB : 0 < B := by omega
  have hyp : 0 < y1 * B + y0 := by have := Nat.mul_pos hy hB; omega
  refine Nat.le_of_lt_succ ((Nat.div_lt_iff_lt_mul hyp).2 ?_)
  have h1 := Nat.lt_mul_div_succ u hy
  have h2 := Nat.mul_le_mul_right B (show u + 1 ≤ y1 * (u / y1 + 1) from h1)
  have h3 : (u / y1).succ * (y1 * B + y0) = y1 * (u / y1 + 1) * B + (u / y1 + 1) * y0 := by
    rw [Nat.mul_add, Nat.mul_comm y1 (u / y1 + 1), Nat.mul_assoc]
  rw [h3]
  rw [Nat.add_mul] at h2
  omega
theorem kn_bound {B y1 y0 u : Nat} (hy : B ≤ 2 * y1) (h0 : y0 < B) (hu : u < y1 * B + y0) : u / y1 ≤ B + 1 := by
  have hy1 : 0 < y1 := by omega
  refine Nat.le_of_lt_succ ((Nat.div_lt_iff_lt_mul hy1).2 ?_)
  have : (B + 1).succ * y1 = y1 * B + 2 * y1 := by rw [Nat.succ_mul, Nat.add_mul, Nat.mul_comm B y1]; omega
  omega
theorem kn_break {B y1 y0 u d q r : Nat} (h : q * y1 + r = u) (hr : B ≤ r) (hq : q ≤ B) (h0 : y0 < B) : q * (y1 * B + y0) ≤ u * B + d := by
  refine kn_le h ?_
  have h1 := Nat.mul_le_mul_right y0 hq
  have h2 := Nat.mul_le_mul_left B (show y0 ≤ r by omega)
  omega
theorem kn_is {N y q : Nat} (hy : 0 < y) (h1 : q * y ≤ N) (h2 : N / y ≤ q) : q = N / y :=
  Nat.le_antisymm ((Nat.le_div_iff_mul_le hy).2 h1) h2
theorem kn_less {N y q : Nat} (hy : 0 < y) (h : N < q * y) : N / y < q := (Nat.div_lt_iff_lt_mul hy).2 h
/-- two digits, one after the other -/
theorem two_digits {u a b B y : Nat} (hy : 0 < y) :
    ((u * B + a) * B + b) / y = (u * B + a) / y * B + ((u * B + a) % y * B + b) / y ∧ ((u * B + a) * B + b) % y = ((u * B + a) % y * B + b) % y := by
  have h1 := Nat.div_add_mod (u * B + a) y
  have e : (u * B + a) * B + b = ((u * B + a) % y * B + b) + (u * B + a) / y * B * y := by
    conv => lhs; rw [← h1]
    rw [Nat.add_mul, Nat.mul_comm y, Nat.mul_assoc, Nat.mul_comm y B, ← Nat.mul_assoc]; omega
  constructor
  · rw [e, Nat.add_mul_div_right _ _ hy]; omega
  · rw [e, Nat.add_mul_mod_self_right]
theorem digit_lt {u a B y : Nat} (hu : u < y) (ha : a < B) : (u * B + a) / y < B := by
  refine (Nat.div_lt_iff_lt_mul (by omega)).2 ?_
  have h1 := Nat.mul_le_mul_right B (show u + 1 ≤ y from hu)
  rw [Nat.add_mul, Nat.mul_comm y B] at h1
  omega
/-- both shifted -/
theorem shifted {N y p : Nat} (hp : 0 < p) : N * p / (y * p) = N / y ∧ N * p % (y * p) = N % y * p :=
  ⟨Nat.mul_div_mul_right _ _ hp, Nat.mul_mod_mul_right _ _ _⟩

theorem drop_two {l : List Nat} {k s t : Nat} (hl : l.length = k + 2) (h1 : l[k]? = some s) (h2 : l[k + 1]? = some t) : l = l.take k ++ [s, t] := by
  conv => lhs; rw [← List.take_append_drop k l]
  congr 1
  have e1 := (List.getElem?_eq_some_iff.1 h1)
  have e2 := (List.getElem?_eq_some_iff.1 h2)
  rw [List.drop_eq_getElem_cons e1.1, List.drop_eq_getElem_cons e2.1, e1.2, e2.2, List.drop_eq_nil_of_le (by omega)]
theorem val_two {B : Nat} {l : List Nat} {k s t : Nat} (hl : l.length = k + 2) (h1 : l[k]? = some s) (h2 : l[k + 1]? = some t) : val B l = val B (l.take k) + B ^ k * (s + B * t) := by
  conv => lhs; rw [drop_two hl h1 h2, val_append]
  have : (l.take k).length = k := by simp; omega
  rw [this]; simp [val]
theorem drop_three {l : List Nat} {k r s t : Nat} (hl : l.length = k + 3) (h0 : l[k]? = some r) (h1 : l[k + 1]? = some s) (h2 : l[k + 2]? = some t) : l = l.take k ++ [r, s, t] := by
  conv => lhs; rw [← List.take_append_drop k l]
  congr 1
  have e0 := (List.getElem?_eq_some_iff.1 h0)
  have e1 := (List.getElem?_eq_some_iff.1 h1)
  have e2 := (List.getElem?_eq_some_iff.1 h2)
  rw [List.drop_eq_getElem_cons e0.1, List.drop_eq_getElem_cons e1.1, List.drop_eq_getElem_cons e2.1, e0.2, e1.2, e2.2, List.drop_eq_nil_of_le (by omega)]
theorem val_three {B : Nat} {l : List Nat} {k r s t : Nat} (hl : l.length = k + 3) (h0 : l[k]? = some r) (h1 : l[k + 1]? = some s) (h2 : l[k + 2]? = some t) : val B l = val B (l.take k) + B ^ k * (r + B * (s + B * t)) := by
  conv => lhs; rw [drop_three hl h0 h1 h2, val_append]
  have : (l.take k).length = k := by simp; omega
  rw [this]; simp [val]
/-- the first guess of a digit is not too small -/
theorem guess_first {B P X' D' a2 a1 a0 T S : Nat} (hX : X' < P) (ha0 : a0 < B) (hT : 0 < T) :
    (X' + P * (a0 + B * (a1 + B * a2))) / (D' + P * (S + B * T)) ≤ (a2 * B + a1) / T := by
  have e1 : X' + P * (a0 + B * (a1 + B * a2)) = (a2 * B + a1) * (P * B) + (X' + P * a0) := by
    rw [Nat.mul_add, ← Nat.mul_assoc P B, Nat.mul_comm (P * B), Nat.mul_comm B a2, Nat.add_comm a1]; omega
  have e2 : D' + P * (S + B * T) = T * (P * B) + (D' + P * S) := by
    rw [Nat.mul_add, ← Nat.mul_assoc P B, Nat.mul_comm (P * B) T]; omega
  rw [e1, e2]
  refine kn_first hT ?_
  have := Nat.mul_le_mul_left P (show a0 + 1 ≤ B from ha0)
  rw [Nat.mul_add] at this
  omega
/-- a guess that is too great for the upper words is too great -/
theorem guess_less {B P X' D' a2 a1 a0 T S q r : Nat} (hX : X' < P) (h : q * T + r = a2 * B + a1) (ht : r * B + a0 < q * S) :
    X' + P * (a0 + B * (a1 + B * a2)) < q * (D' + P * (S + B * T)) := by
  have h1 : (a2 * B + a1) * B + a0 + 1 ≤ q * (T * B + S) := kn_gt (B := B) h (by rw [Nat.mul_comm B r]; exact ht)
  have h2 := Nat.mul_le_mul_left P h1
  have e1 : P * (a0 + B * (a1 + B * a2)) + P = P * ((a2 * B + a1) * B + a0 + 1) := by
    rw [Nat.mul_add P _ 1, Nat.mul_one, Nat.mul_comm (a2 * B + a1) B, Nat.mul_comm a2 B, Nat.add_comm (B * a2) a1, Nat.add_comm (B * (a1 + B * a2)) a0]
  have e2 : q * (D' + P * (S + B * T)) = q * D' + P * (q * (T * B + S)) := by
    rw [Nat.mul_add, Nat.mul_comm B T, Nat.add_comm S, Nat.mul_left_comm]
  rw [e2]; omega

/-- the number of m digits from place j on -/
def win (B : Nat) (l : List Nat) (j : Nat) : Nat → Nat
  | 0 => 0
  | m + 1 => win B l j m + B ^ m * (l[j + m]?.getD 0)
theorem win_succ {B : Nat} {l : List Nat} {j m d : Nat} (h : l[j + m]? = some d) : win B l j (m + 1) = win B l j m + B ^ m * d := by
  show win B l j m + B ^ m * (l[j + m]?.getD 0) = _
  rw [h]; rfl
theorem win_congr {B : Nat} {l l' : List Nat} {j : Nat} : ∀ {m : Nat}, (∀ i, j ≤ i → i < j + m → l[i]? = l'[i]?) → win B l j m = win B l' j m
  | 0, _ => rfl
  | m + 1, h => by
    show win B l j m + B ^ m * (l[j + m]?.getD 0) = win B l' j m + B ^ m * (l'[j + m]?.getD 0)
    rw [win_congr (m := m) (fun i h1 h2 => h i h1 (by omega)), h (j + m) (by omega) (by omega)]
theorem win_lt {B : Nat} (hB : 0 < B) {l : List Nat} (hl : ∀ d ∈ l, d < B) (j : Nat) : ∀ m, win B l j m < B ^ m
  | 0 => by simp [win]
  | m + 1 => by
    have ih := win_lt hB hl j m
    have hd : l[j + m]?.getD 0 < B := by
      cases h : l[j + m]? with
      | none => simpa using hB
      | some d => exact hl d (List.mem_of_getElem? h)
    have h2 := Nat.mul_le_mul_left (B ^ m) (show l[j + m]?.getD 0 + 1 ≤ B from hd)
    show win B l j m + B ^ m * (l[j + m]?.getD 0) < _
    rw [Nat.pow_succ]
    rw [Nat.mul_add] at h2
    omega
theorem win_val {B : Nat} {l : List Nat} {j : Nat} : ∀ {m : Nat}, j + m ≤ l.length → win B l j m = val B ((l.drop j).take m)
  | 0, _ => by simp [win, val]
  | m + 1, h => by
    have hm : j + m < l.length := by omega
    rw [win_succ (List.getElem?_eq_getElem hm), win_val (m := m) (by omega)]
    have e : (l.drop j)[m]? = some l[j + m] := by rw [List.getElem?_drop]; exact List.getElem?_eq_getElem hm
    rw [List.take_add_one, e]
    simp only [Option.toList_some]
    rw [val_snoc]
    have : ((l.drop j).take m).length = m := by simp; omega
    rw [this]
theorem val_win {B : Nat} {l : List Nat} {j m : Nat} (h : j + m ≤ l.length) : val B l = val B (l.take j) + B ^ j * win B l j m + B ^ (j + m) * val B (l.drop (j + m)) := by
  have h1 : (l.take j).length = j := by simp; omega
  have h2 : ((l.drop j).take m).length = m := by simp; omega
  conv => lhs; rw [← List.take_append_drop j l, val_append, ← List.take_append_drop m (l.drop j), val_append]
  rw [h1, h2, win_val h, List.drop_drop, Nat.mul_add, ← Nat.mul_assoc, ← Nat.pow_add]; omega
theorem val_set0 {B : Nat} : ∀ {l : List Nat} {j q : Nat}, l[j]? = some 0 → val B (l.set j q) = val B l + B ^ j * q
  | [], j, q, h => by simp at h
  | d :: r, 0, q, h => by
    have h : d = 0 := by simpa using h
    simp [val, h]; omega
  | d :: r, j + 1, q, h => by
    have ih := val_set0 (l := r) (j := j) (q := q) (B := B) (by simpa using h)
    simp only [List.set_cons_succ, val, ih, Nat.pow_succ, Nat.mul_add]
    rw [Nat.mul_comm (B ^ j) B, Nat.mul_assoc]; omega
/-- taking away q times D: enough, or too much -/
theorem take_enough {X D w v M : Nat} (hD : 0 < D) (h : v + w * D = X + M * 0) (hw : X / D ≤ w) : w = X / D ∧ v = X % D := by
  have h1 : w ≤ X / D := (Nat.le_div_iff_mul_le hD).2 (by omega)
  have h2 : w = X / D := by omega
  refine ⟨h2, ?_⟩
  have := Nat.div_add_mod X D
  rw [h2, Nat.mul_comm] at h
  omega
theorem take_much {X D w v M : Nat} (h : v + w * D = X + M * 1) (hv : v < M) : X < w * D := by omega
/-- giving back: not yet, or now -/
theorem give_now {X D w v v' M : Nat} (hD : 0 < D) (h : v + (w + 1) * D = X + M) (hX : X < (w + 1) * D) (hg : v' + M * 1 = v + D) : w = X / D ∧ v' = X % D := by
  rw [Nat.add_mul] at h hX
  refine take_enough (M := M) hD (by omega) ?_
  refine Nat.le_of_lt_succ ((Nat.div_lt_iff_lt_mul hD).2 ?_)
  rw [Nat.succ_mul]; omega
theorem give_more {X D w v v' M : Nat} (h : v + (w + 1) * D = X + M) (hg : v' + M * 0 = v + D) (hv : v' < M) : v' + w * D = X + M ∧ X < w * D := by
  rw [Nat.add_mul] at h; omega
/-- one digit of the quotient, the number and the quotient so far -/
theorem div_step {B D n j Q : Nat} {x x' q : List Nat} (hDB : D ≤ B ^ n) (hx : ∀ d ∈ x, d < B) (hl : x'.length = x.length) (hj : j + n + 1 ≤ x.length) (hlt : val B x < D * B ^ (j + 1))
    (hsame : ∀ i, i < j ∨ j + (n + 1) ≤ i → x'[i]? = x[i]?) (hQ : Q = win B x j (n + 1) / D) (hR : win B x' j (n + 1) = win B x j (n + 1) % D) (hq : q[j]? = some 0) (hD : 0 < D) :
    val B x' < D * B ^ j ∧ val B x' + D * val B (q.set j Q) = val B x + D * val B q := by
  have e0 : val B (x.drop (j + (n + 1))) = 0 := by
    have h1 := val_win (B := B) (l := x) (j := j) (m := n + 1) (by omega)
    have h2 : D * B ^ (j + 1) ≤ B ^ (j + (n + 1)) := by
      have := Nat.mul_le_mul_right (B ^ (j + 1)) hDB
      rwa [← Nat.pow_add, show n + (j + 1) = j + (n + 1) by omega] at this
    rcases Nat.eq_zero_or_pos (val B (x.drop (j + (n + 1)))) with h | h
    · exact h
    · have h3 := Nat.mul_le_mul_left (B ^ (j + (n + 1))) h
      rw [Nat.mul_one] at h3
      omega
  have et : x'.take j = x.take j := by
    apply List.ext_getElem?
    intro i
    rw [List.getElem?_take, List.getElem?_take]
    split
    · exact hsame i (.inl (by omega))
    · rfl
  have ed : x'.drop (j + (n + 1)) = x.drop (j + (n + 1)) := by
    apply List.ext_getElem?
    intro i
    rw [List.getElem?_drop, List.getElem?_drop]
    exact hsame _ (.inr (by omega))
  have v1 := val_win (B := B) (l := x) (j := j) (m := n + 1) (by omega)
  have v2 := val_win (B := B) (l := x') (j := j) (m := n + 1) (by omega)
  rw [ed, et, e0] at v2
  rw [e0] at v1
  have ht : val B (x.take j) < B ^ j := by
    have := val_lt (B := B) (l := x.take j) (fun d hd => hx d (List.mem_of_mem_take hd))
    have e : (x.take j).length = j := by simp; omega
    rwa [e] at this
  have hm : win B x' j (n + 1) < D := by rw [hR]; exact Nat.mod_lt _ hD
  constructor
  · have := Nat.mul_le_mul_left (B ^ j) (show win B x' j (n + 1) + 1 ≤ D from hm)
    rw [Nat.mul_add, Nat.mul_comm (B ^ j) D] at this
    omega
  · rw [val_set0 hq, v1, v2, Nat.mul_add, hR]
    have h3 := Nat.div_add_mod (win B x j (n + 1)) D
    have h4 : D * (B ^ j * Q) = B ^ j * (D * (win B x j (n + 1) / D)) := by rw [hQ, Nat.mul_left_comm]
    have h5 : B ^ j * win B x j (n + 1) = B ^ j * (D * (win B x j (n + 1) / D)) + B ^ j * (win B x j (n + 1) % D) := by rw [← Nat.mul_add, h3]
    rw [h4, h5]; omega
end Go.Proofs.YtepfmoaihhonlaaGreatDoor
