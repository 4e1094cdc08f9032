import Derived.Test.YtnapdhfkgfjjfaaGreatDoorShelf
import Derived.Test.YtnapdhfkgfjjfaaGreatDoorG2
import Derived.Maps.Own
import Derived.Maps.OwnOps
import Derived.Maps.OwnSet
import Derived.Maps.RangeWalk
import Derived.Maps.AppendAt
import Derived.Test.YtnapdhfkgfjjfaaGreatDoorG43
import Derived.Test.YtnapdhfkgfjjfaaGreatDoorG38
/- Maps of integers to integers of one's own (map[int]int): what they hold, and loops over them. -/
namespace Go.Proofs.YtnapdhfkgfjjfaaGreatDoor
open Go Go.RowKit Go.Proofs Go.Maps

theorem lawZ : Keyed Tryz.prog 3 := int_keyed Tryz.underlying3
theorem zeroZ (w : World) : (zeroValue 3).run Tryz.prog w = .ok (.int .i64 0) w := by kernel_rfl
/-- block m is a map[int]int of at most n entries that holds f, with keys from -B to B -/
def MapZ (w : World) (m n : Nat) (B : Int) (f : Int → Int) : Prop :=
  ∃ D : DataW Unit, w.ownsMap Tryz.prog 3 (plainElem Tryz.prog 3) m n D ∧ (∀ x, (Lit.int .i64 x).wf = true → D.atKey (.int .i64 x) (.lit (.int .i64 0)) = .lit (.int .i64 (f x))) ∧ ∀ x, has D (.int .i64 x) = true → -B ≤ x ∧ x ≤ B
theorem litZ_inj {H : Type} {a b : Int} (h : (DataW.lit (.int .i64 a) : DataW H) = .lit (.int .i64 b)) : a = b := by
  injection h with h; injection h
theorem wfZ {x : Int} (h0 : -9223372036854775808 ≤ x) (h1 : x ≤ 9223372036854775807) : (Lit.int .i64 x).wf = true := by
  simp [Lit.wf, IntKind.min, IntKind.max, IntKind.signed, IntKind.bits]; omega
theorem ofWfZ {x : Int} (h : (Lit.int .i64 x).wf = true) : -9223372036854775808 ≤ x ∧ x ≤ 9223372036854775807 := by
  simp [Lit.wf, IntKind.min, IntKind.max, IntKind.signed, IntKind.bits] at h; omega
/-- f with c at x -/
def updZ (f : Int → Int) (x c : Int) : Int → Int := fun y => if y = x then c else f y
theorem mapZ_made (w : World) : MapZ (w.alloc (.map #[] 0)) w.heap.size 0 0 (fun _ => 0) :=
  ⟨.map [], World.ownsMap_made _ _ _ _, fun _x _ => rfl, fun x h => by cases h⟩
theorem MapZ.mono {w : World} {m n n' : Nat} {B B' : Int} {f : Int → Int} (h : MapZ w m n B f) (hn : n ≤ n') (hB : B ≤ B') : MapZ w m n' B' f := by
  obtain ⟨D, h1, h2, h3⟩ := h
  exact ⟨D, h1.mono hn, h2, fun x hx => by have := h3 x hx; omega⟩
theorem MapZ.fr {may : Nat → Prop} {w w' : World} {m n : Nat} {B : Int} {f : Int → Int} (h : MapZ w m n B f) (hf : Fr may w w') (hm : ¬ may m) : MapZ w' m n B f := by
  obtain ⟨D, h1, h2⟩ := h
  have hbl := h1.lt
  obtain ⟨es, clock, h3, h4⟩ := h1
  exact ⟨D, ⟨es, clock, (hf.block m hbl hm).trans h3, h4⟩, h2⟩
theorem MapZ.lt {w : World} {m n : Nat} {B : Int} {f : Int → Int} (h : MapZ w m n B f) : m < w.heap.size := by
  obtain ⟨D, h1, _⟩ := h; exact h1.lt
theorem MapZ.on {w w' : World} {m n : Nat} {B : Int} {f : Int → Int} (h : MapZ w m n B f) (hb : Below w.heap.size w w') : MapZ w' m n B f :=
  h.fr (Fr.of_below hb) (by have := h.lt; omega)
theorem isMapZ {w : World} {m n : Nat} {D : DataW Unit} {R : Value → Option (DataW Unit × List MemPlace)} {P : Program} {k : TypeId} (h : w.ownsMap P k R m n D) : IsMap D := by
  obtain ⟨es, clock, _, _, _, hD⟩ := h; exact ⟨_, hD⟩
/-- the world behind 'm[x] = c' -/
noncomputable def putZ (m : Nat) (x c : Int) (w : World) : World :=
  match (Instr.mapUpdate 55 (.map (some m)) (.int .i64 x) (.int .i64 c)).run Tryz.prog w with | .ok _ w' => w' | _ => w
theorem putZ_run {w : World} {m n : Nat} {B : Int} {f : Int → Int} (h : MapZ w m n B f) (hn : n < 10000000000000) (x c : Int) (h0 : -B ≤ x) (h1 : x ≤ B) (hB : B ≤ 1000000000000) (hc0 : -9223372036854775808 ≤ c) (hc1 : c ≤ 9223372036854775807) :
    (Instr.mapUpdate 55 (.map (some m)) (.int .i64 x) (.int .i64 c)).run Tryz.prog w = .ok () (putZ m x c w) ∧ MapZ (putZ m x c w) m (n + 1) B (updZ f x c) ∧ w.grownBy (putZ m x c w) (some m) := by
  obtain ⟨D, hown, hD, hK⟩ := h
  obtain ⟨w', hrun, g1, g2⟩ := hown.update lawZ Tryz.underlying55 (by unfold maxLen; omega) (keyOf_int_mk Tryz.underlying3 (wfZ (x := x) (by omega) (by omega))) (plainElem_int Tryz.underlying3 (wfZ hc0 hc1))
  have e : putZ m x c w = w' := by unfold putZ; rw [hrun]
  rw [e]
  have hm := isMapZ hown
  refine ⟨hrun, ⟨_, g1, fun y hy => ?_, fun y hy => ?_⟩, g2⟩
  · unfold updZ
    by_cases e : y = x
    · subst e
      rw [if_pos rfl, atKey_put_same (k := .int .i64 y) hm trivial]
    · rw [if_neg e, atKey_put_other (by simpa using e), hD y hy]
  · by_cases e : y = x
    · subst e; exact ⟨h0, h1⟩
    · rw [has_put_other (by simpa using e)] at hy
      exact hK y hy
theorem lookZ_run {w : World} {m n : Nat} {B : Int} {f : Int → Int} (h : MapZ w m n B f) (x : Int) (h0 : -9223372036854775808 ≤ x) (h1 : x ≤ 9223372036854775807) :
    (Instr.lookup 55 (.map (some m)) (.int .i64 x) false).run Tryz.prog w = .ok (.int .i64 (f x)) w := by
  obtain ⟨D, hown, hD, _⟩ := h
  obtain ⟨c, hrun, hat, _⟩ := hown.lookup_int lawZ Tryz.underlying55 Tryz.underlying3 (zeroZ _) (keyOf_int_mk Tryz.underlying3 (wfZ h0 h1))
  have : c = f x := litZ_inj (hat.symm.trans (hD x (wfZ h0 h1)))
  rw [hrun, this]
/-- a loop over such a map: iterator r, which keys have come, how many entries are to come -/
def RgZ (w : World) (m r n : Nat) (B : Int) (f : Int → Int) (done : Int → Bool) (cnt : Nat) : Prop :=
  ∃ (D : DataW Unit) (left : Lit → Bool), w.ranges Tryz.prog 3 (plainElem Tryz.prog 3) m r n D left cnt ∧ (∀ x, (Lit.int .i64 x).wf = true → D.atKey (.int .i64 x) (.lit (.int .i64 0)) = .lit (.int .i64 (f x))) ∧ (∀ x, has D (.int .i64 x) = true → -B ≤ x ∧ x ≤ B) ∧ ∀ x, left (.int .i64 x) = (has D (.int .i64 x) && !done x)
theorem RgZ.fr {may : Nat → Prop} {w w' : World} {m r n : Nat} {B : Int} {f : Int → Int} {done : Int → Bool} {cnt : Nat} (h : RgZ w m r n B f done cnt) (hf : Fr may w w') (hm : ¬ may m) (hr : ¬ may r) : RgZ w' m r n B f done cnt := by
  obtain ⟨D, left, h1, h2⟩ := h
  refine ⟨D, left, ?_, h2⟩
  have hrl := h1.lt
  have hbl := h1.owns.lt
  obtain ⟨es, clock, since, seen, c0, g1, g2, g3, g4, g5, g6⟩ := h1
  exact ⟨es, clock, since, seen, c0, (hf.block m hbl hm).trans g1, g2, g3, g4, (hf.block r hrl hr).trans g5, g6⟩
theorem RgZ.owns {w : World} {m r n : Nat} {B : Int} {f : Int → Int} {done : Int → Bool} {cnt : Nat} (h : RgZ w m r n B f done cnt) : MapZ w m n B f := by
  obtain ⟨D, left, h1, h2, h3, _⟩ := h
  exact ⟨D, h1.owns, h2, h3⟩
theorem RgZ.lt {w : World} {m r n : Nat} {B : Int} {f : Int → Int} {done : Int → Bool} {cnt : Nat} (h : RgZ w m r n B f done cnt) : m < w.heap.size ∧ r < w.heap.size ∧ r ≠ m := by
  obtain ⟨D, left, h1, _⟩ := h
  exact ⟨h1.owns.lt, h1.lt, h1.ne⟩
theorem RgZ.left {w : World} {m r n : Nat} {B : Int} {f : Int → Int} {done : Int → Bool} {cnt : Nat} (h : RgZ w m r n B f done cnt) : w.rangeLeft m r = cnt := by
  obtain ⟨D, left, h1, _⟩ := h
  exact h1.left_eq
section
variable {w : World} {ops : Array Oper} {rest : List Oper} {o : Oper} {a : Act} {Q : Exit → Act → World → Prop}
theorem wpList_range_z (hg : o.guard = none) (x : Operand) (hop : o.op = Op.range 55 x) (m n : Nat) (B : Int) (f : Int → Int) (hm : a.eval x = .map (some m)) (h : MapZ w m n B f)
    (hK : ∀ w' cnt, RgZ w' m w.heap.size n B f (fun _ => false) cnt → cnt ≤ n → Below w.heap.size w w' → wpList Tryz.prog ops Q rest (a.put o.dst (.pointer (some ⟨w.heap.size, 0, none⟩))) w') :
    wpList Tryz.prog ops Q (o :: rest) a w := by
  obtain ⟨D, hown, hD, hB⟩ := h
  refine wpList_range_own w hg x 55 hop 3 3 lawZ Tryz.underlying55 _ m n D hm hown ?_
  intro w' hr hgr hs
  refine hK w' (Maps.size D) ⟨D, Maps.has D, hr, hD, hB, fun x => by simp⟩ ?_ ((Fr.of_grown hgr).below (Nat.le_refl _) (fun i _ h => by simp at h))
  obtain ⟨es, clock, _, _, hsz, hDm⟩ := hown
  rw [hDm]
  simp only [Maps.size, length_sorted, List.length_map]
  simpa using hsz
theorem wpList_next_z (hg : o.guard = none) (it : Operand) (hop : o.op = Op.next it false) (m r n : Nat) (B : Int) (f : Int → Int) (done : Int → Bool) (cnt : Nat)
    (hit : a.eval it = .pointer (some ⟨r, 0, none⟩)) (h : RgZ w m r n B f done cnt)
    (hDone : (∀ x, f x ≠ 0 → (Lit.int .i64 x).wf = true → done x = true) → wpList Tryz.prog ops Q rest (a.put o.dst (.tuple #[.bool false])) w)
    (hMore : ∀ (x : Int) (w' : World) (cnt' : Nat), done x = false → -B ≤ x → x ≤ B → -9223372036854775808 ≤ x → x ≤ 9223372036854775807 → RgZ w' m r n B f (fun z => done z || z == x) cnt' → cnt' < cnt → Fr (fun i => i = r) w w' → w'.heap.size = w.heap.size →
      (Instr.entry (.pointer (some ⟨r, 0, none⟩))).run Tryz.prog w' = .ok (.tuple #[.int .i64 x, .int .i64 (f x)]) w' → wpList Tryz.prog ops Q rest (a.put o.dst (.tuple #[.bool true, .int .i64 x, .int .i64 (f x)])) w') :
    wpList Tryz.prog ops Q (o :: rest) a w := by
  obtain ⟨D, left, hrg, hD, hB, hl⟩ := h
  refine wpList_next_ranges_ii w hg it hop 3 3 .i64 .i64 lawZ Tryz.underlying3 Tryz.underlying3 m r n D left cnt hit hrg ?_ ?_
  · intro _ hl0
    refine hDone fun x hx hw => ?_
    have h1 := hl x
    rw [hl0] at h1
    cases hh : has D (.int .i64 x) with
    | true => rw [hh] at h1; cases hd : done x with
      | true => rfl
      | false => rw [hd] at h1; simp at h1
    | false =>
      have h2 := atKey_of_not_has hh (.lit (.int .i64 0))
      exact absurd (litZ_inj ((hD x hw).symm.trans h2)) hx
  · intro x c w' cnt' hwx hwc hlx hat hrg' hlt hgr hs hen
    obtain rfl : c = f x := litZ_inj ((hat (.lit (.int .i64 0))).symm.trans (hD x hwx))
    have hh := has_true_of_atKey hat
    have hdx : done x = false := by
      have h1 := hl x
      rw [hlx, hh] at h1
      simpa using h1.symm
    obtain ⟨b0, b1⟩ := hB x hh
    obtain ⟨c0, c1⟩ := ofWfZ hwx
    refine hMore x w' cnt' hdx b0 b1 c0 c1 ⟨D, _, hrg', hD, hB, fun z => ?_⟩ hlt ((Fr.of_grown hgr).mono fun i _ h => by simpa using h) hs hen
    by_cases hz : z = x
    · subst hz
      have hk : Lit.sameKey (.int .i64 z) (.int .i64 z) = true := WideAt.sameKey_self trivial
      simp [hk]
    · have hk : Lit.sameKey (.int .i64 z) (.int .i64 x) = false := sameKey_ne (by simpa using hz)
      have hzx : (z == x) = false := by simpa using hz
      simp [hk, hl z, hzx]
end
end Go.Proofs.YtnapdhfkgfjjfaaGreatDoor

/- Package judge: Ranks. -/
namespace Go.Proofs.YtnapdhfkgfjjfaaGreatDoor
open Go Go.RowKit Go.Proofs

/-- a sum of scores is not great -/
theorem chs_bd {B : Int} : ∀ (l : List Int) (k : Nat), (∀ x ∈ l, 0 ≤ x ∧ x ≤ B) → ∀ s ∈ chs l k, 0 ≤ s ∧ s ≤ B * l.length
  | l, 0, h, s, hs => by
    rw [chs_zero] at hs
    simp at hs
    subst hs
    refine ⟨Int.le_refl _, ?_⟩
    cases l with
    | nil => simp
    | cons x l =>
      have := h x (by simp)
      exact Int.mul_nonneg (by omega) (by omega)
  | [], k + 1, _, s, hs => by cases hs
  | x :: l, k + 1, h, s, hs => by
    have hx := h x (by simp)
    have e : B * ((x :: l).length : Int) = B * (l.length : Int) + B := by rw [List.length_cons, Int.natCast_add, Int.mul_add]; simp
    rw [chs_cons, List.mem_append] at hs
    rcases hs with hs | hs
    · obtain ⟨z, hz, rfl⟩ := List.mem_map.1 hs
      have := chs_bd l k (fun y hy => h y (by simp [hy])) z hz
      omega
    · have := chs_bd l (k + 1) (fun y hy => h y (by simp [hy])) s hs
      omega
theorem made_m (n : Nat) : (madeCells #[Value.map none] n).toList = List.replicate n (Value.map none) := by
  apply List.ext_getElem
  · simp [madeCells]
  · intro i h1 h2
    simp [madeCells, Nat.mod_one]
theorem infoMp : (Tryz.prog.info? 55).map (fun i => (i.zero, i.size, i.bytes)) = some (some (.map none), 1, 8) := by kernel_rfl
/-- tables of one's own in a row -/
def msV (ms : List Nat) : List Value := ms.map fun m => .map (some m)
theorem msV_get {ms : List Nat} {i m : Nat} (h : ms[i]? = some m) : (msV ms)[i]? = some (.map (some m)) := by unfold msV; rw [List.getElem?_map, h]; rfl
theorem MapZ.ne {w : World} {m n g : Nat} {B : Int} {f : Int → Int} {e : TypeId} {vs : List Value} (h : MapZ w m n B f) (hb : VBlk w g e vs) : g ≠ m := by
  obtain ⟨D, ⟨es, clock, h1, _⟩, _⟩ := h
  rintro rfl
  unfold VBlk at hb
  rw [h1] at hb
  cases hb
/-- what the tables hold behind j elements -/
def wTab (W : List Int) (j i : Nat) (x : Int) : Int := cN (chs (W.take j) i) x
theorem wTab_zero (W : List Int) (x : Int) : wTab W 0 0 x = if x = 0 then 1 else 0 := cN_one x
theorem wTab_none (W : List Int) (i : Nat) (x : Int) : wTab W 0 (i + 1) x = 0 := rfl
theorem wTab_step {W : List Int} {j : Nat} {w : Int} (h : W[j]? = some w) (i : Nat) (x : Int) : wTab W (j + 1) (i + 1) x = wTab W j (i + 1) x + wTab W j i (x - w) := by
  unfold wTab; rw [List.take_add_one, h]; exact cN_snoc _ w i x
theorem wTab_keep {W : List Int} {j : Nat} {w : Int} (h : W[j]? = some w) (x : Int) : wTab W (j + 1) 0 x = wTab W j 0 x := by
  unfold wTab; rw [List.take_add_one, h]; exact cN_zero _ w x
theorem wTab_bd (W : List Int) (j i : Nat) (x : Int) (h : W.length ≤ 40) : 0 ≤ wTab W j i x ∧ wTab W j i x ≤ 1099511627776 := cN_bound _ _ _ (by rw [List.length_take]; omega)
theorem two_pow {j : Nat} (h : j ≤ 40) : 2 ^ j ≤ 1099511627776 := by
  have : 2 ^ j ≤ 2 ^ 40 := Nat.pow_le_pow_right (by omega) h
  have h4 : (2 : Nat) ^ 40 = 1099511627776 := by decide
  omega
/-- the tables while element j is put in, from table i on upwards it has been put in -/
def Tabs (w : World) (g : Nat) (ms : List Nat) (W : List Int) (j i : Nat) : Prop :=
  VBlk w g 55 (msV ms) ∧ ms.Nodup ∧ (∀ m ∈ ms, g < m) ∧ ∀ (k m : Nat), ms[k]? = some m → (i < k → MapZ w m (2 ^ (j + 1)) (80 * ((j : Int) + 1)) (wTab W (j + 1) k)) ∧ (k ≤ i → MapZ w m (2 ^ j) (80 * (j : Int)) (wTab W j k))
theorem nodup_at {ms : List Nat} (h : ms.Nodup) {i j m : Nat} (h1 : ms[i]? = some m) (h2 : ms[j]? = some m) : i = j := by
  obtain ⟨a1, a2⟩ := List.getElem?_eq_some_iff.1 h1
  obtain ⟨b1, b2⟩ := List.getElem?_eq_some_iff.1 h2
  have hp := List.pairwise_iff_getElem.1 h
  rcases Nat.lt_trichotomy i j with e | e | e
  · exact absurd (a2.trans b2.symm) (hp i j a1 b1 e)
  · exact e
  · exact absurd (b2.trans a2.symm) (hp j i b1 a1 e)
/-- table i is done -/
theorem Tabs.next {w w' : World} {g : Nat} {ms : List Nat} {W : List Int} {j i m B : Nat} (h : Tabs w g ms W j (i + 1)) (hm : ms[i + 1]? = some m) (hf : Fr (fun b => b = m ∨ B ≤ b) w w') (hB : w.heap.size ≤ B) (hz : MapZ w' m (2 ^ (j + 1)) (80 * ((j : Int) + 1)) (wTab W (j + 1) (i + 1))) : Tabs w' g ms W j i := by
  obtain ⟨h1, h2, h4, h3⟩ := h
  have hmm := ((h3 _ _ hm).2 (Nat.le_refl _))
  have hgm : g ≠ m := hmm.ne h1
  have hg := heap_lt h1
  refine ⟨(hf.block g hg (by omega)).trans h1, h2, h4, fun k m' hk => ⟨fun hik => ?_, fun hik => ?_⟩⟩
  · by_cases e : k = i + 1
    · subst e
      obtain rfl := Option.some.inj (hm.symm.trans hk)
      exact hz
    · have hh := (h3 k m' hk).1 (by omega)
      have := hh.lt
      have hne : m' ≠ m := fun e' => e (nodup_at h2 (e' ▸ hk) hm)
      exact hh.fr hf (by omega)
  · have hh := (h3 k m' hk).2 (by omega)
    have := hh.lt
    have hne : m' ≠ m := fun e' => by
      have := nodup_at h2 (e' ▸ hk) hm
      omega
    exact hh.fr hf (by omega)
/-- an element more -/
theorem Tabs.turn {w : World} {g : Nat} {ms : List Nat} {W : List Int} {j N : Nat} {x : Int} (h : Tabs w g ms W j 0) (hx : W[j]? = some x) (hN : ms.length ≤ N + 1) : Tabs w g ms W (j + 1) N := by
  obtain ⟨h1, h2, h4, h3⟩ := h
  refine ⟨h1, h2, h4, fun k m hk => ⟨fun hik => ?_, fun hik => ?_⟩⟩
  · have := (List.getElem?_eq_some_iff.1 hk).1
    omega
  · rcases Nat.eq_zero_or_pos k with rfl | hk0
    · have hh := (h3 0 m hk).2 (Nat.le_refl _)
      have e : wTab W (j + 1) 0 = wTab W j 0 := funext fun y => wTab_keep hx y
      rw [e]
      exact hh.mono (by rw [Nat.pow_succ]; omega) (by omega)
    · have hh := (h3 k m hk).1 hk0
      exact hh.mono (Nat.le_refl _) (by omega)
theorem Tabs.on {w w' : World} {g : Nat} {ms : List Nat} {W : List Int} {j i : Nat} (h : Tabs w g ms W j i) (hb : Below w.heap.size w w') : Tabs w' g ms W j i := by
  obtain ⟨h1, h2, h4, h3⟩ := h
  exact ⟨h1.on hb, h2, h4, fun k m hk => ⟨fun hik => ((h3 k m hk).1 hik).on hb, fun hik => ((h3 k m hk).2 hik).on hb⟩⟩
/-- scores of a list, in it -/
theorem scrs_at {l : List Int} {j : Nat} {x : Int} (h : l[j]? = some x) : (scrs l)[j]? = some (scr l x) := by unfold scrs; rw [List.getElem?_map, h]; rfl
theorem scrs_len (l : List Int) : (scrs l).length = l.length := by unfold scrs; simp
/-- sums of scores -/
def vSum (all a : List Int) (k : Nat) : Int := ((a.take k).map (scr all)).sum
theorem vSum_step {all a : List Int} {k : Nat} {x : Int} (h : a[k]? = some x) : vSum all a (k + 1) = vSum all a k + scr all x := by unfold vSum; rw [List.take_add_one, h]; simp
theorem vSum_bd (all a : List Int) (k : Nat) (h : all.length ≤ 40) : 0 ≤ vSum all a k ∧ vSum all a k ≤ 80 * (k : Int) := by
  induction k with
  | zero => simp [vSum]
  | succ k ih =>
    cases hx : a[k]? with
    | none =>
      have e : vSum all a (k + 1) = vSum all a k := by unfold vSum; rw [List.take_add_one, hx]; simp
      omega
    | some x =>
      rw [vSum_step hx]
      have := scr_bound all x
      omega
/-- the tables as they are made: so many are there -/
def Made (w : World) (g N : Nat) (ms : List Nat) : Prop := VBlk w g 55 (msV ms ++ List.replicate (N + 1 - ms.length) (.map none)) ∧ ms.Nodup ∧ ∀ m ∈ ms, g < m ∧ MapZ w m 0 0 (fun _ => 0)
theorem Made.nil {w : World} {g N : Nat} (h : VBlk w g 55 (List.replicate (N + 1) (.map none))) : Made w g N [] := ⟨by simpa [msV] using h, List.Pairwise.nil, fun m hm => by cases hm⟩
theorem Made.next {w : World} {g N : Nat} {ms : List Nat} (h : Made w g N ms) (hl : ms.length < N + 1) : Made ((w.alloc (.map #[] 0)).setCell ⟨g, ms.length, none⟩ (.map (some w.heap.size))) g N (ms ++ [w.heap.size]) := by
  obtain ⟨h1, h2, h3⟩ := h
  have hg := heap_lt h1
  have hb : Below w.heap.size w (w.alloc (.map #[] 0)) := (Below.refl _ w).alloc (Nat.le_refl _) _
  have hb2 : VBlk (w.alloc (.map #[] 0)) g 55 (msV ms ++ List.replicate (N + 1 - ms.length) (.map none)) := h1.on hb
  have hf : Fr (fun i => i = g) (w.alloc (.map #[] 0)) ((w.alloc (.map #[] 0)).setCell ⟨g, ms.length, none⟩ (.map (some w.heap.size))) := (Fr.refl (fun i => i = g) _).setCell (p := ⟨g, ms.length, none⟩) (fun _ => rfl) _
  refine ⟨?_, ?_, fun m hm => ?_⟩
  · have h4 := hb2.set ms.length (.map (some w.heap.size))
    have hlm : (msV ms).length = ms.length := by simp [msV]
    have e : (msV ms ++ List.replicate (N + 1 - ms.length) (Value.map none)).set ms.length (.map (some w.heap.size)) = msV (ms ++ [w.heap.size]) ++ List.replicate (N + 1 - (ms ++ [w.heap.size]).length) (.map none) := by
      obtain ⟨r, hr⟩ : ∃ r, N + 1 - ms.length = r + 1 := ⟨N - ms.length, by omega⟩
      rw [hr, List.set_append_right _ _ (by omega), hlm, Nat.sub_self, List.replicate_succ, List.set_cons_zero]
      have e2 : N + 1 - (ms ++ [w.heap.size]).length = r := by rw [List.length_append, List.length_singleton]; omega
      rw [e2]
      simp [msV]
    rw [e] at h4
    exact h4
  · refine List.nodup_append.2 ⟨h2, by simp, fun a ha b hb' => ?_⟩
    simp at hb'
    have := (h3 a ha).2.lt
    omega
  · rw [List.mem_append, List.mem_singleton] at hm
    rcases hm with hm | rfl
    · have hz := (h3 m hm).2
      have := hz.ne h1
      exact ⟨(h3 m hm).1, (hz.on hb).fr hf (by omega)⟩
    · exact ⟨hg, (mapZ_made w).fr hf (by omega)⟩
/-- .. and the one way to choose none -/
theorem Made.tabs {w w' : World} {g N m : Nat} {ms : List Nat} {W : List Int} (h : Made w g N ms) (hl : ms.length = N + 1) (hm : ms[0]? = some m) (hf : Fr (fun b => b = m) w w') (hz : MapZ w' m 1 0 (updZ (fun _ => 0) 0 1)) : Tabs w' g ms W 0 N := by
  obtain ⟨h1, h2, h3⟩ := h
  rw [hl, Nat.sub_self, List.replicate_zero, List.append_nil] at h1
  have hmm := (h3 m (List.mem_of_getElem? hm)).2
  have hgm := hmm.ne h1
  refine ⟨(hf.block g (heap_lt h1) (by omega)).trans h1, h2, fun m' hm' => (h3 m' hm').1, fun k m' hk => ⟨fun hik => ?_, fun hik => ?_⟩⟩
  · have := (List.getElem?_eq_some_iff.1 hk).1
    omega
  · rcases Nat.eq_zero_or_pos k with rfl | hk0
    · obtain rfl := Option.some.inj (hm.symm.trans hk)
      have e : wTab W 0 0 = updZ (fun _ => 0) 0 1 := funext fun y => wTab_zero W y
      rw [e]
      exact hz.mono (by omega) (by omega)
    · obtain ⟨k', rfl⟩ : ∃ k', k = k' + 1 := ⟨k - 1, by omega⟩
      have e : wTab W 0 (k' + 1) = fun _ => 0 := funext fun y => wTab_none W k' y
      rw [e]
      have hz' := (h3 m' (List.mem_of_getElem? hk)).2
      have hne : m' ≠ m := fun e' => by
        have := nodup_at h2 (e' ▸ hk) hm
        omega
      exact (hz'.fr hf hne).mono (by omega) (by omega)
theorem made_at {ms : List Nat} {n : Nat} (h : ms.length < n) : (msV ms ++ List.replicate (n - ms.length) (Value.map none))[ms.length]? = some (.map none) := by
  have hl : (msV ms).length = ms.length := by simp [msV]
  rw [List.getElem?_append_right (by omega), hl, Nat.sub_self, List.getElem?_replicate, if_pos (by omega)]
theorem made_old {ms : List Nat} {n i m : Nat} (h : ms[i]? = some m) : (msV ms ++ List.replicate n (Value.map none))[i]? = some (.map (some m)) := by
  have hl : (msV ms).length = ms.length := by simp [msV]
  have := (List.getElem?_eq_some_iff.1 h).1
  rw [List.getElem?_append_left (by omega)]
  exact msV_get h
end Go.Proofs.YtnapdhfkgfjjfaaGreatDoor
