import Derived.Test.YtnapdhfkgfjjfaaGreatDoorG33
import Derived.Test.YtnapdhfkgfjjfaaGreatDoorG29
import Derived.Test.YtnapdhfkgfjjfaaGreatDoorG32
import Derived.Test.YtnapdhfkgfjjfaaGreatDoorG1
/- Package judge: Ranks. -/
namespace Go.Proofs.YtnapdhfkgfjjfaaGreatDoor
open Go Go.RowKit Go.Proofs

/-- a sum of scores is not great -/
theorem chs_bd {B : Int} : ∀ (l : List Int) (k : Nat), (∀ x ∈ l, 0 ≤ x ∧ x ≤ B) → ∀ s ∈ chs l k, 0 ≤ s ∧ s ≤ B * l.length
  | l, 0, h, s, hs => by
    rw [chs_zero] at hs
    simp at hs
    subst hs
    refine ⟨Int.le_refl _, ?_⟩
    cases l with
    | nil => simp
    | cons x l =>
      have := h x (by simp)
      exact Int.mul_nonneg (by omega) (by omega)
  | [], k + 1, _, s, hs => by cases hs
  | x :: l, k + 1, h, s, hs => by
    have hx := h x (by simp)
    have e : B * ((x :: l).length : Int) = B * (l.length : Int) + B := by rw [List.length_cons, Int.natCast_add, Int.mul_add]; simp
    rw [chs_cons, List.mem_append] at hs
    rcases hs with hs | hs
    · obtain ⟨z, hz, rfl⟩ := List.mem_map.1 hs
      have := chs_bd l k (fun y hy => h y (by simp [hy])) z hz
      omega
    · have := chs_bd l (k + 1) (fun y hy => h y (by simp [hy])) s hs
      omega
theorem made_m (n : Nat) : (madeCells #[Value.map none] n).toList = List.replicate n (Value.map none) := by
  apply List.ext_getElem
  · simp [madeCells]
  · intro i h1 h2
    simp [madeCells, Nat.mod_one]
theorem infoMp : (Tryz.prog.info? 55).map (fun i => (i.zero, i.size, i.bytes)) = some (some (.map none), 1, 8) := by kernel_rfl
/-- tables of one's own in a row -/
def msV (ms : List Nat) : List Value := ms.map fun m => .map (some m)
theorem msV_get {ms : List Nat} {i m : Nat} (h : ms[i]? = some m) : (msV ms)[i]? = some (.map (some m)) := by unfold msV; rw [List.getElem?_map, h]; rfl
theorem MapZ.ne {w : World} {m n g : Nat} {B : Int} {f : Int → Int} {e : TypeId} {vs : List Value} (h : MapZ w m n B f) (hb : VBlk w g e vs) : g ≠ m := by
  obtain ⟨D, ⟨es, clock, h1, _⟩, _⟩ := h
  rintro rfl
  unfold VBlk at hb
  rw [h1] at hb
  cases hb
/-- what the tables hold behind j elements -/
def wTab (W : List Int) (j i : Nat) (x : Int) : Int := cN (chs (W.take j) i) x
theorem wTab_zero (W : List Int) (x : Int) : wTab W 0 0 x = if x = 0 then 1 else 0 := cN_one x
theorem wTab_none (W : List Int) (i : Nat) (x : Int) : wTab W 0 (i + 1) x = 0 := rfl
theorem wTab_step {W : List Int} {j : Nat} {w : Int} (h : W[j]? = some w) (i : Nat) (x : Int) : wTab W (j + 1) (i + 1) x = wTab W j (i + 1) x + wTab W j i (x - w) := by
  unfold wTab; rw [List.take_add_one, h]; exact cN_snoc _ w i x
theorem wTab_keep {W : List Int} {j : Nat} {w : Int} (h : W[j]? = some w) (x : Int) : wTab W (j + 1) 0 x = wTab W j 0 x := by
  unfold wTab; rw [List.take_add_one, h]; exact cN_zero _ w x
theorem wTab_bd (W : List Int) (j i : Nat) (x : Int) (h : W.length ≤ 40) : 0 ≤ wTab W j i x ∧ wTab W j i x ≤ 1099511627776 := cN_bound _ _ _ (by rw [List.length_take]; omega)
theorem two_pow {j : Nat} (h : j ≤ 40) : 2 ^ j ≤ 1099511627776 := by
  have : 2 ^ j ≤ 2 ^ 40 := Nat.pow_le_pow_right (by omega) h
  have h4 : (2 : Nat) ^ 40 = 1099511627776 := by decide
  omega
/-- the tables while element j is put in, from table i on upwards it has been put in -/
def Tabs (w : World) (g : Nat) (ms : List Nat) (W : List Int) (j i : Nat) : Prop :=
  VBlk w g 55 (msV ms) ∧ ms.Nodup ∧ (∀ m ∈ ms, g < m) ∧ ∀ (k m : Nat), ms[k]? = some m → (i < k → MapZ w m (2 ^ (j + 1)) (80 * ((j : Int) + 1)) (wTab W (j + 1) k)) ∧ (k ≤ i → MapZ w m (2 ^ j) (80 * (j : Int)) (wTab W j k))
theorem nodup_at {ms : List Nat} (h : ms.Nodup) {i j m : Nat} (h1 : ms[i]? = some m) (h2 : ms[j]? = some m) : i = j := by
  obtain ⟨a1, a2⟩ := List.getElem?_eq_some_iff.1 h1
  obtain ⟨b1, b2⟩ := List.getElem?_eq_some_iff.1 h2
  have hp := List.pairwise_iff_getElem.1 h
  rcases Nat.lt_trichotomy i j with e | e | e
  · exact absurd (a2.trans b2.symm) (hp i j a1 b1 e)
  · exact e
  · exact absurd (b2.trans a2.symm) (hp j i b1 a1 e)
/-- table i is done -/
theorem Tabs.next {w w' : World} {g : Nat} {ms : List Nat} {W : List Int} {j i m B : Nat} (h : Tabs w g ms W j (i + 1)) (hm : ms[i + 1]? = some m) (hf : Fr (fun b => b = m ∨ B ≤ b) w w') (hB : w.heap.size ≤ B) (hz : MapZ w' m (2 ^ (j + 1)) (80 * ((j : Int) + 1)) (wTab W (j + 1) (i + 1))) : Tabs w' g ms W j i := by
  obtain ⟨h1, h2, h4, h3⟩ := h
  have hmm := ((h3 _ _ hm).2 (Nat.le_refl _))
  have hgm : g ≠ m := hmm.ne h1
  have hg := heap_lt h1
  refine ⟨(hf.block g hg (by omega)).trans h1, h2, h4, fun k m' hk => ⟨fun hik => ?_, fun hik => ?_⟩⟩
  · by_cases e : k = i + 1
    · subst e
      obtain rfl := Option.some.inj (hm.symm.trans hk)
      exact hz
    · have hh := (h3 k m' hk).1 (by omega)
      have := hh.lt
      have hne : m' ≠ m := fun e' => e (nodup_at h2 (e' ▸ hk) hm)
      exact hh.fr hf (by omega)
  · have hh := (h3 k m' hk).2 (by omega)
    have := hh.lt
    have hne : m' ≠ m := fun e' => by
      have := nodup_at h2 (e' ▸ hk) hm
      omega
    exact hh.fr hf (by omega)
/-- an element more -/
theorem Tabs.turn {w : World} {g : Nat} {ms : List Nat} {W : List Int} {j N : Nat} {x : Int} (h : Tabs w g ms W j 0) (hx : W[j]? = some x) (hN : ms.length ≤ N + 1) : Tabs w g ms W (j + 1) N := by
  obtain ⟨h1, h2, h4, h3⟩ := h
  refine ⟨h1, h2, h4, fun k m hk => ⟨fun hik => ?_, fun hik => ?_⟩⟩
  · have := (List.getElem?_eq_some_iff.1 hk).1
    omega
  · rcases Nat.eq_zero_or_pos k with rfl | hk0
    · have hh := (h3 0 m hk).2 (Nat.le_refl _)
      have e : wTab W (j + 1) 0 = wTab W j 0 := funext fun y => wTab_keep hx y
      rw [e]
      exact hh.mono (by rw [Nat.pow_succ]; omega) (by omega)
    · have hh := (h3 k m hk).1 hk0
      exact hh.mono (Nat.le_refl _) (by omega)
theorem Tabs.on {w w' : World} {g : Nat} {ms : List Nat} {W : List Int} {j i : Nat} (h : Tabs w g ms W j i) (hb : Below w.heap.size w w') : Tabs w' g ms W j i := by
  obtain ⟨h1, h2, h4, h3⟩ := h
  exact ⟨h1.on hb, h2, h4, fun k m hk => ⟨fun hik => ((h3 k m hk).1 hik).on hb, fun hik => ((h3 k m hk).2 hik).on hb⟩⟩
/-- scores of a list, in it -/
theorem scrs_at {l : List Int} {j : Nat} {x : Int} (h : l[j]? = some x) : (scrs l)[j]? = some (scr l x) := by unfold scrs; rw [List.getElem?_map, h]; rfl
theorem scrs_len (l : List Int) : (scrs l).length = l.length := by unfold scrs; simp
/-- sums of scores -/
def vSum (all a : List Int) (k : Nat) : Int := ((a.take k).map (scr all)).sum
theorem vSum_step {all a : List Int} {k : Nat} {x : Int} (h : a[k]? = some x) : vSum all a (k + 1) = vSum all a k + scr all x := by unfold vSum; rw [List.take_add_one, h]; simp
theorem vSum_bd (all a : List Int) (k : Nat) (h : all.length ≤ 40) : 0 ≤ vSum all a k ∧ vSum all a k ≤ 80 * (k : Int) := by
  induction k with
  | zero => simp [vSum]
  | succ k ih =>
    cases hx : a[k]? with
    | none =>
      have e : vSum all a (k + 1) = vSum all a k := by unfold vSum; rw [List.take_add_one, hx]; simp
      omega
    | some x =>
      rw [vSum_step hx]
      have := scr_bound all x
      omega
/-- the tables as they are made: so many are there -/
def Made (w : World) (g N : Nat) (ms : List Nat) : Prop := VBlk w g 55 (msV ms ++ List.replicate (N + 1 - ms.length) (.map none)) ∧ ms.Nodup ∧ ∀ m ∈ ms, g < m ∧ MapZ w m 0 0 (fun _ => 0)
theorem Made.nil {w : World} {g N : Nat} (h : VBlk w g 55 (List.replicate (N + 1) (.map none))) : Made w g N [] := ⟨by simpa [msV] using h, List.Pairwise.nil, fun m hm => by cases hm⟩
theorem Made.next {w : World} {g N : Nat} {ms : List Nat} (h : Made w g N ms) (hl : ms.length < N + 1) : Made ((w.alloc (.map #[] 0)).setCell ⟨g, ms.length, none⟩ (.map (some w.heap.size))) g N (ms ++ [w.heap.size]) := by
  obtain ⟨h1, h2, h3⟩ := h
  have hg := heap_lt h1
  have hb : Below w.heap.size w (w.alloc (.map #[] 0)) := (Below.refl _ w).alloc (Nat.le_refl _) _
  have hb2 : VBlk (w.alloc (.map #[] 0)) g 55 (msV ms ++ List.replicate (N + 1 - ms.length) (.map none)) := h1.on hb
  have hf : Fr (fun i => i = g) (w.alloc (.map #[] 0)) ((w.alloc (.map #[] 0)).setCell ⟨g, ms.length, none⟩ (.map (some w.heap.size))) := (Fr.refl (fun i => i = g) _).setCell (p := ⟨g, ms.length, none⟩) (fun _ => rfl) _
  refine ⟨?_, ?_, fun m hm => ?_⟩
  · have h4 := hb2.set ms.length (.map (some w.heap.size))
    have hlm : (msV ms).length = ms.length := by simp [msV]
    have e : (msV ms ++ List.replicate (N + 1 - ms.length) (Value.map none)).set ms.length (.map (some w.heap.size)) = msV (ms ++ [w.heap.size]) ++ List.replicate (N + 1 - (ms ++ [w.heap.size]).length) (.map none) := by
      obtain ⟨r, hr⟩ : ∃ r, N + 1 - ms.length = r + 1 := ⟨N - ms.length, by omega⟩
      rw [hr, List.set_append_right _ _ (by omega), hlm, Nat.sub_self, List.replicate_succ, List.set_cons_zero]
      have e2 : N + 1 - (ms ++ [w.heap.size]).length = r := by rw [List.length_append, List.length_singleton]; omega
      rw [e2]
      simp [msV]
    rw [e] at h4
    exact h4
  · refine List.nodup_append.2 ⟨h2, by simp, fun a ha b hb' => ?_⟩
    simp at hb'
    have := (h3 a ha).2.lt
    omega
  · rw [List.mem_append, List.mem_singleton] at hm
    rcases hm with hm | rfl
    · have hz := (h3 m hm).2
      have := hz.ne h1
      exact ⟨(h3 m hm).1, (hz.on hb).fr hf (by omega)⟩
    · exact ⟨hg, (mapZ_made w).fr hf (by omega)⟩
/-- .. and the one way to choose none -/
theorem Made.tabs {w w' : World} {g N m : Nat} {ms : List Nat} {W : List Int} (h : Made w g N ms) (hl : ms.length = N + 1) (hm : ms[0]? = some m) (hf : Fr (fun b => b = m) w w') (hz : MapZ w' m 1 0 (updZ (fun _ => 0) 0 1)) : Tabs w' g ms W 0 N := by
  obtain ⟨h1, h2, h3⟩ := h
  rw [hl, Nat.sub_self, List.replicate_zero, List.append_nil] at h1
  have hmm := (h3 m (List.mem_of_getElem? hm)).2
  have hgm := hmm.ne h1
  refine ⟨(hf.block g (heap_lt h1) (by omega)).trans h1, h2, fun m' hm' => (h3 m' hm').1, fun k m' hk => ⟨fun hik => ?_, fun hik => ?_⟩⟩
  · have := (List.getElem?_eq_some_iff.1 hk).1
    omega
  · rcases Nat.eq_zero_or_pos k with rfl | hk0
    · obtain rfl := Option.some.inj (hm.symm.trans hk)
      have e : wTab W 0 0 = updZ (fun _ => 0) 0 1 := funext fun y => wTab_zero W y
      rw [e]
      exact hz.mono (by omega) (by omega)
    · obtain ⟨k', rfl⟩ : ∃ k', k = k' + 1 := ⟨k - 1, by omega⟩
      have e : wTab W 0 (k' + 1) = fun _ => 0 := funext fun y => wTab_none W k' y
      rw [e]
      have hz' := (h3 m' (List.mem_of_getElem? hk)).2
      have hne : m' ≠ m := fun e' => by
        have := nodup_at h2 (e' ▸ hk) hm
        omega
      exact (hz'.fr hf hne).mono (by omega) (by omega)
theorem made_at {ms : List Nat} {n : Nat} (h : ms.length < n) : (msV ms ++ List.replicate (n - ms.length) (Value.map none))[ms.length]? = some (.map none) := by
  have hl : (msV ms).length = ms.length := by simp [msV]
  rw [List.getElem?_append_right (by omega), hl, Nat.sub_self, List.getElem?_replicate, if_pos (by omega)]
theorem made_old {ms : List Nat} {n i m : Nat} (h : ms[i]? = some m) : (msV ms ++ List.replicate n (Value.map none))[i]? = some (.map (some m)) := by
  have hl : (msV ms).length = ms.length := by simp [msV]
  have := (List.getElem?_eq_some_iff.1 h).1
  rw [List.getElem?_append_left (by omega)]
  exact msV_get h
end Go.Proofs.YtnapdhfkgfjjfaaGreatDoor

/- Tables of sums, in a row that was appended to. -/
namespace Go.Proofs.YtnapdhfkgfjjfaaGreatDoor
open Go Go.RowKit Go.Proofs

theorem putZ_run2 {w : World} {m n : Nat} {B : Int} {f : Int → Int} (h : MapZ w m n B f) (hn : n < 10000000000000) (x c : Int) (h0 : -B ≤ x) (h1 : x ≤ B) (hB : B ≤ 1000000000000000000) (hc0 : -9223372036854775808 ≤ c) (hc1 : c ≤ 9223372036854775807) :
    (Instr.mapUpdate 55 (.map (some m)) (.int .i64 x) (.int .i64 c)).run Tryz.prog w = .ok () (putZ m x c w) ∧ MapZ (putZ m x c w) m (n + 1) B (updZ f x c) ∧ w.grownBy (putZ m x c w) (some m) := by
  obtain ⟨D, hown, hD, hK⟩ := h
  obtain ⟨w', hrun, g1, g2⟩ := hown.update lawZ Tryz.underlying55 (by unfold maxLen; omega) (Maps.keyOf_int_mk Tryz.underlying3 (wfZ (x := x) (by omega) (by omega))) (plainElem_int Tryz.underlying3 (wfZ hc0 hc1))
  have e : putZ m x c w = w' := by unfold putZ; rw [hrun]
  rw [e]
  have hm := isMapZ hown
  refine ⟨hrun, ⟨_, g1, fun y hy => ?_, fun y hy => ?_⟩, g2⟩
  · unfold updZ
    by_cases e : y = x
    · subst e
      rw [if_pos rfl, Maps.atKey_put_same (k := .int .i64 y) hm trivial]
    · rw [if_neg e, Maps.atKey_put_other (by simpa using e), hD y hy]
  · by_cases e : y = x
    · subst e; exact ⟨h0, h1⟩
    · rw [Maps.has_put_other (by simpa using e)] at hy
      exact hK y hy
/-- the greatest sum of j elements -/
def MB (M : Int) (j : Nat) : Int := M * (j : Int)
theorem MB_zero (M : Int) : MB M 0 = 0 := by unfold MB; simp
theorem MB_succ (M : Int) (j : Nat) : MB M (j + 1) = MB M j + M := by unfold MB; rw [Int.natCast_add, Int.mul_add]; simp
theorem MB_le {M : Int} (h : 0 ≤ M) : ∀ j : Nat, j ≤ 40 → 0 ≤ MB M j ∧ MB M j ≤ 40 * M
  | 0, _ => by rw [MB_zero]; omega
  | j + 1, hj => by
    have e : MB M (j + 1) = M * ((j + 1 : Nat) : Int) := rfl
    rw [e]
    refine ⟨Int.mul_nonneg h (by omega), ?_⟩
    rw [Int.mul_comm 40 M]
    exact Int.mul_le_mul_of_nonneg_left (by omega) h
theorem chs_in {M : Int} : ∀ (l : List Int) (k : Nat), 0 ≤ M → (∀ x ∈ l, -M ≤ x ∧ x ≤ M) → ∀ s ∈ chs l k, -(MB M l.length) ≤ s ∧ s ≤ MB M l.length
  | l, 0, hM, h, s, hs => by
    rw [chs_zero] at hs
    simp at hs
    subst hs
    have : 0 ≤ MB M l.length := Int.mul_nonneg hM (by omega)
    omega
  | [], k + 1, _, _, s, hs => by cases hs
  | x :: l, k + 1, hM, h, s, hs => by
    have hx := h x (by simp)
    have e : MB M (x :: l).length = MB M l.length + M := by rw [List.length_cons, MB_succ]
    rw [chs_cons, List.mem_append] at hs
    rcases hs with hs | hs
    · obtain ⟨z, hz, rfl⟩ := List.mem_map.1 hs
      have := chs_in l k hM (fun y hy => h y (by simp [hy])) z hz
      omega
    · have := chs_in l (k + 1) hM (fun y hy => h y (by simp [hy])) s hs
      omega
theorem wTab_wfM {W : List Int} {M : Int} (hM : 0 ≤ M) (hM2 : M ≤ 1000000000000) (hW : ∀ x ∈ W, -M ≤ x ∧ x ≤ M) (hl : W.length ≤ 40) (j i : Nat) (x : Int) (h : wTab W j i x ≠ 0) : (Lit.int .i64 x).wf = true := by
  have hc : 0 < (chs (W.take j) i).count x := by
    refine Nat.pos_of_ne_zero fun hc => h ?_
    unfold wTab cN
    rw [hc]; rfl
  have hl2 : (W.take j).length ≤ 40 := by rw [List.length_take]; omega
  have hb := chs_in (W.take j) i hM (fun y hy => hW y (List.mem_of_mem_take hy)) x (List.count_pos_iff.1 hc)
  have := MB_le hM _ hl2
  exact wfZ (by omega) (by omega)
theorem MapZ.neRow {w : World} {m n base k : Nat} {B : Int} {f : Int → Int} {e : TypeId} {v : Value} {xs : List Value} (h : MapZ w m n B f) (hb : w.ownsRow base e 1 v k xs) : some m ≠ v.ownBlock := by
  obtain ⟨D, ⟨es, clock, h1, _⟩, _⟩ := h
  obtain ⟨_, ⟨rfl, _⟩ | ⟨g, cap, cs, rfl, _, h2, _⟩⟩ := hb
  · intro e; cases e
  · intro e
    simp only [Value.ownBlock, Option.some.injEq] at e
    subst e
    rw [h2] at h1
    cases h1
/-- the tables while element j is put in -/
def TabM (w : World) (base : Nat) (v : Value) (ms : List Nat) (W : List Int) (M : Int) (j i : Nat) : Prop :=
  w.ownsRow base 55 1 v ms.length (msV ms) ∧ ms.Nodup ∧ (∀ m ∈ ms, base ≤ m) ∧ ∀ (k m : Nat), ms[k]? = some m → (i < k → MapZ w m (2 ^ (j + 1)) (MB M (j + 1)) (wTab W (j + 1) k)) ∧ (k ≤ i → MapZ w m (2 ^ j) (MB M j) (wTab W j k))
section
variable {w w' : World} {base : Nat} {v v' : Value} {ms : List Nat} {W : List Int} {M : Int} {j i m : Nat}
theorem TabM.on (h : TabM w base v ms W M j i) (hb : Below w.heap.size w w') : TabM w' base v ms W M j i := by
  obtain ⟨h1, h2, h4, h3⟩ := h
  exact ⟨ownsRow_fr h1 (Fr.of_below hb) (fun i hi hm => by have := (ownsRow_block h1 hi).2; omega), h2, h4, fun k m hk => ⟨fun hik => ((h3 k m hk).1 hik).on hb, fun hik => ((h3 k m hk).2 hik).on hb⟩⟩
theorem TabM.one (h : w.ownsRow base 55 1 v 1 [.map (some m)]) (hm : base ≤ m) (hz : MapZ w m 1 0 (updZ (fun _ => 0) 0 1)) (K : Nat) : TabM w base v [m] W M 0 K := by
  refine ⟨h, by simp, fun x hx => by simp at hx; omega, fun k m' hk => ?_⟩
  obtain rfl : k = 0 := by have := (List.getElem?_eq_some_iff.1 hk).1; simp at this; omega
  obtain rfl : m = m' := by simpa using hk
  refine ⟨fun h => absurd h (Nat.not_lt_zero _), fun _ => ?_⟩
  have e : wTab W 0 0 = updZ (fun _ => 0) 0 1 := funext fun y => wTab_zero W y
  rw [e, MB_zero]
  exact hz
theorem TabM.app {K : Nat} (h : TabM w base v ms W M 0 K) (h' : w'.ownsRow base 55 1 v' (ms.length + 1) (msV ms ++ [.map (some m)])) (hg : w.grownBy w' v.ownBlock) (hz : MapZ w m 0 0 (fun _ => 0)) (hm : base ≤ m) (hn : m ∉ ms) (hl : 0 < ms.length) (hK : ms.length ≤ K) : TabM w' base v' (ms ++ [m]) W M 0 K := by
  obtain ⟨h1, h2, h4, h3⟩ := h
  have hf := Fr.of_grown hg
  refine ⟨?_, ?_, fun x hx => ?_, fun k m' hk => ⟨fun hik => ?_, fun _ => ?_⟩⟩
  · rw [List.length_append, List.length_singleton]
    unfold msV at h' ⊢
    rw [List.map_append]
    exact h'
  · refine List.nodup_append.2 ⟨h2, by simp, fun a ha b hb => ?_⟩
    simp at hb
    rintro rfl
    subst hb
    exact hn ha
  · rw [List.mem_append, List.mem_singleton] at hx
    rcases hx with hx | rfl
    · exact h4 x hx
    · exact hm
  · have := (List.getElem?_eq_some_iff.1 hk).1
    rw [List.length_append, List.length_singleton] at this
    omega
  · rcases Nat.lt_or_ge k ms.length with hk2 | hk2
    · rw [List.getElem?_append_left hk2] at hk
      have hh := (h3 k m' hk).2 (by omega)
      exact hh.fr hf (fun e => hh.neRow h1 (by simpa using e))
    · have e : k = ms.length := by
        have := (List.getElem?_eq_some_iff.1 hk).1
        rw [List.length_append, List.length_singleton] at this
        omega
      subst e
      obtain rfl : m = m' := by simpa using hk
      obtain ⟨k', hk'⟩ : ∃ k', ms.length = k' + 1 := ⟨ms.length - 1, by omega⟩
      rw [hk', MB_zero]
      have e : wTab W 0 (k' + 1) = fun _ => 0 := funext fun y => wTab_none W k' y
      rw [e]
      exact (hz.fr hf (fun e => hz.neRow h1 (by simpa using e))).mono (by omega) (Int.le_refl _)
theorem TabM.next {B : Nat} (h : TabM w base v ms W M j (i + 1)) (hm : ms[i + 1]? = some m) (hf : Fr (fun b => b = m ∨ B ≤ b) w w') (hB : w.heap.size ≤ B) (hz : MapZ w' m (2 ^ (j + 1)) (MB M (j + 1)) (wTab W (j + 1) (i + 1))) : TabM w' base v ms W M j i := by
  obtain ⟨h1, h2, h4, h3⟩ := h
  have hmm := ((h3 _ _ hm).2 (Nat.le_refl _))
  refine ⟨ownsRow_fr h1 hf (fun x hx hc => ?_), h2, h4, fun k m' hk => ⟨fun hik => ?_, fun hik => ?_⟩⟩
  · have := (ownsRow_block h1 hx).2
    rcases hc with rfl | hc
    · exact hmm.neRow h1 hx
    · omega
  · by_cases e : k = i + 1
    · subst e
      obtain rfl := Option.some.inj (hm.symm.trans hk)
      exact hz
    · have hh := (h3 k m' hk).1 (by omega)
      have := hh.lt
      have hne : m' ≠ m := fun e' => e (nodup_at h2 (e' ▸ hk) hm)
      exact hh.fr hf (by omega)
  · have hh := (h3 k m' hk).2 (by omega)
    have := hh.lt
    have hne : m' ≠ m := fun e' => by
      have := nodup_at h2 (e' ▸ hk) hm
      omega
    exact hh.fr hf (by omega)
theorem TabM.turn {N : Nat} {x : Int} (h : TabM w base v ms W M j 0) (hx : W[j]? = some x) (hM : 0 ≤ M) (hN : ms.length ≤ N + 1) : TabM w base v ms W M (j + 1) N := by
  obtain ⟨h1, h2, h4, h3⟩ := h
  refine ⟨h1, h2, h4, fun k m hk => ⟨fun hik => ?_, fun hik => ?_⟩⟩
  · have := (List.getElem?_eq_some_iff.1 hk).1
    omega
  · rcases Nat.eq_zero_or_pos k with rfl | hk0
    · have hh := (h3 0 m hk).2 (Nat.le_refl _)
      have e : wTab W (j + 1) 0 = wTab W j 0 := funext fun y => wTab_keep hx y
      rw [e]
      exact hh.mono (by rw [Nat.pow_succ]; omega) (by rw [MB_succ]; omega)
    · exact (h3 k m hk).1 hk0
end
/-- the inner loop's table, when all entries have come -/
theorem inner_doneM {w : World} {m n' N j i : Nat} {B S : Int} {W : List Int} {done : Int → Bool} (h : MapZ w m n' B (gZ (wTab W j (i + 1)) (wTab W j i) S done)) (hn : n' ≤ N) (hS : W[j]? = some S) (hd : ∀ x, wTab W j i x ≠ 0 → (Lit.int .i64 x).wf = true → done x = true) (hw : ∀ x, wTab W j i x ≠ 0 → (Lit.int .i64 x).wf = true) : MapZ w m N B (wTab W (j + 1) (i + 1)) := by
  have e : gZ (wTab W j (i + 1)) (wTab W j i) S done = wTab W (j + 1) (i + 1) := funext fun x => by
    rw [wTab_step hS]
    exact gZ_all _ _ _ _ _ (fun hh => hd _ hh (hw _ hh))
  rw [← e]
  exact h.mono hn (Int.le_refl _)
theorem gZ_bdM {f2 f1 : Int → Int} {w : Int} {done : Int → Bool} (h2 : ∀ x, 0 ≤ f2 x ∧ f2 x ≤ 1099511627776) (h1 : ∀ x, 0 ≤ f1 x ∧ f1 x ≤ 1099511627776) (x : Int) : 0 ≤ gZ f2 f1 w done x ∧ gZ f2 f1 w done x ≤ 2199023255552 := by
  have a := h2 x
  have b := h1 (x - w)
  unfold gZ
  split <;> omega
end Go.Proofs.YtnapdhfkgfjjfaaGreatDoor
