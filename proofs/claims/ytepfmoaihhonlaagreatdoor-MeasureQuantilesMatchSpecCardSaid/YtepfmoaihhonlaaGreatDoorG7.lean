import Derived.Test.YtepfmoaihhonlaaGreatDoorChk
import Derived.RangeFuncNested
import Derived.RangeFuncBound
import Derived.RangeFuncCalls
import Derived.RangeFuncLeaves
import Derived.Shelf.Abstract
import Derived.Shelf.RegionOpen
import Derived.WalkKit
import Derived.OwnWalkIn
import Derived.TacticsInMore
import Derived.LoopNIn
import Derived.LoopIn
/- Sums of counts by place; what a histogram that passes Check has; the map's run equations. -/
namespace Go.Proofs.YtepfmoaihhonlaaGreatDoor
open Go Go.RowKit Go.Proofs Go.Maps

/-- how many are at x, if the count c goes to g of its bucket -/
def sumAt (g : Int → Int) (cs : List (Int × Int)) (x : Int) : Int := (cs.map fun c => if g c.1 = x then c.2 else 0).sum
theorem sumAt_nil (g : Int → Int) : sumAt g [] = fun _ => 0 := by funext x; simp [sumAt]
theorem sumAt_snoc (g : Int → Int) (cs : List (Int × Int)) (y m : Int) : upd (sumAt g cs) (g y) (sumAt g cs (g y) + m) = sumAt g (cs ++ [(y, m)]) := by
  funext x
  unfold upd sumAt
  rw [List.map_append, List.sum_append]
  by_cases h : x = g y
  · subst h; simp
  · rw [if_neg h]
    have h' : ¬ g y = x := fun e => h e.symm
    simp [h']
theorem sumAt_bd (g : Int → Int) (cs : List (Int × Int)) (x : Int) (h : ∀ c ∈ cs, 0 ≤ c.2) : 0 ≤ sumAt g cs x ∧ sumAt g cs x ≤ tot cs := by
  induction cs with
  | nil => simp [sumAt, tot]
  | cons c cs ih =>
    have h1 := ih (fun d hd => h d (by simp [hd]))
    have h2 := h c (by simp)
    simp only [sumAt, tot, List.map_cons, List.sum_cons] at *
    split <;> omega
theorem sumAt_ne (g : Int → Int) (cs : List (Int × Int)) (x : Int) (h : sumAt g cs x ≠ 0) : ∃ c ∈ cs, g c.1 = x := by
  induction cs with
  | nil => simp [sumAt] at h
  | cons c cs ih =>
    by_cases e : g c.1 = x
    · exact ⟨c, by simp, e⟩
    · simp only [sumAt, List.map_cons, List.sum_cons, if_neg e, Int.zero_add] at h
      obtain ⟨d, hd, e'⟩ := ih h
      exact ⟨d, by simp [hd], e'⟩
theorem tot_take_le (cs : List (Int × Int)) (h : ∀ c ∈ cs, 0 ≤ c.2) (k : Nat) : tot (cs.take k) ≤ tot cs := by
  have : tot cs = tot (cs.take k) + tot (cs.drop k) := by
    unfold tot
    rw [← List.sum_append, ← List.map_append, List.take_append_drop]
  have h2 : ∀ (l : List (Int × Int)), (∀ c ∈ l, 0 ≤ c.2) → 0 ≤ tot l := by
    intro l
    induction l with
    | nil => simp [tot]
    | cons c l ih =>
      intro hl
      have h1 := ih (fun d hd => hl d (by simp [hd]))
      have h3 := hl c (by simp)
      simp only [tot, List.map_cons, List.sum_cons] at *
      omega
  have := h2 (cs.drop k) (fun c hc => h c (List.mem_of_mem_drop hc))
  omega

/-- what a histogram has that passes Check -/
def Good (b : Int) (cs : List (Int × Int)) : Prop := 2 ≤ b ∧ b ≤ 8 ∧ cs.length ≤ 6001 ∧ (∀ c ∈ cs, (0 ≤ c.1 ∧ c.1 ≤ maxB b) ∧ 1 ≤ c.2 ∧ c.2 ≤ 1125899906842624) ∧ cs.Pairwise (fun a b => a.1 < b.1) ∧ tot cs ≤ 1125899906842624
theorem okTo_sorted {b : Int} {cs : List (Int × Int)} (h : okTo b cs cs.length) : cs.Pairwise (fun a b => a.1 < b.1) := by
  rw [List.pairwise_iff_getElem]
  have key : ∀ (d i : Nat), i + d + 1 < cs.length → (cs.getD i (0, 0)).1 < (cs.getD (i + d + 1) (0, 0)).1 := by
    intro d
    induction d with
    | zero => intro i hi; have := (okTo_step (h (i + 1) (by omega))).2.1 (by omega); simpa using this
    | succ d ih =>
      intro i hi
      have h1 := ih i (by omega)
      have h2 := (okTo_step (h (i + (d + 1) + 1) (by omega))).2.1 (by omega)
      simp only [Nat.add_sub_cancel] at h2
      have e : i + (d + 1) = i + d + 1 := by omega
      rw [e] at h2
      rw [show i + (d + 1) + 1 = i + d + 1 + 1 by omega]
      omega
  intro i j hi hj hij
  have := key (j - i - 1) i (by omega)
  rw [show i + (j - i - 1) + 1 = j by omega] at this
  simpa [List.getD_eq_getElem?_getD, List.getElem?_eq_getElem hi, List.getElem?_eq_getElem hj] using this
theorem codeH_zero {b : Int} {cs : List (Int × Int)} (h : codeH b cs = 0) : Good b cs := by
  unfold codeH at h
  split at h
  · rename_i hb
    have hb' := hb
    simp [fineB] at hb'
    split at h
    · rename_i j hj
      have := List.find?_some hj
      simp at this
      exact absurd h this
    · rename_i hn
      rw [List.find?_range_eq_none] at hn
      have ho : okTo b cs cs.length := fun j hj => by have := hn j hj; simpa using this
      refine ⟨hb'.1, hb'.2, okTo_small hb'.1 hb'.2 _ ho, fun c hc => ?_, okTo_sorted ho, by split at h <;> omega⟩
      obtain ⟨j, hj, e⟩ := List.getElem_of_mem hc
      have := okTo_step (ho j hj)
      rw [List.getD_eq_getElem?_getD, List.getElem?_eq_getElem hj, Option.getD_some, e] at this
      have h1 := this.1
      simp [fineK] at h1
      exact ⟨h1, this.2.2⟩
  · omega
/-- a good histogram is that of its counts -/
theorem Good.hist {b : Int} {cs : List (Int × Int)} (h : Good b cs) : IsHist (sumAt id cs) cs := by
  obtain ⟨-, -, -, h4, h5, -⟩ := h
  refine ⟨h5, ?_⟩
  revert h4 h5
  induction cs with
  | nil => intro _ _ x n; simp [sumAt]; omega
  | cons c cs ih =>
    intro h4 h5
    rw [List.pairwise_cons] at h5
    have ih := ih (fun d hd => h4 d (by simp [hd])) h5.2
    intro x n
    have hc := h4 c (by simp)
    have hs : sumAt id (c :: cs) x = (if c.1 = x then c.2 else 0) + sumAt id cs x := by simp [sumAt]
    have hz : c.1 = x → sumAt id cs x = 0 := by
      intro e
      by_cases hne : sumAt id cs x = 0
      · exact hne
      · obtain ⟨d, hd, e'⟩ := sumAt_ne id cs x hne
        have := h5.1 d hd
        simp only [id] at e'
        omega
    rw [List.mem_cons, ih x n, hs]
    obtain ⟨y, m⟩ := c
    simp only [Prod.mk.injEq] at *
    by_cases e : y = x
    · rw [if_pos e, hz e]; omega
    · rw [if_neg e]; omega

/-- the world behind 'm[x] = c' -/
noncomputable def putW (m : Nat) (x c : Int) (w : World) : World :=
  match (Instr.mapUpdate 200 (.map (some m)) (.int .i64 x) (.int .i64 c)).run Tryz.prog w with | .ok _ w' => w' | _ => w
theorem putW_run {w : World} {m n : Nat} {f : Int → Int} (h : MapII w m n f) (hn : n < 100000000) (x c : Int) (hx : (Lit.int .i64 x).wf = true) (hc : (Lit.int .i64 c).wf = true) :
    (Instr.mapUpdate 200 (.map (some m)) (.int .i64 x) (.int .i64 c)).run Tryz.prog w = .ok () (putW m x c w) ∧ MapII (putW m x c w) m (n + 1) (upd f x c) ∧ w.grownBy (putW m x c w) (some m) := by
  obtain ⟨D, hown, hD⟩ := h
  obtain ⟨w', hrun, h1, h2⟩ := hown.update law3 Tryz.underlying200 (by unfold maxLen; omega) (keyOf_int_mk Tryz.underlying3 hx) (plainElem_int Tryz.underlying3 hc)
  have e : putW m x c w = w' := by unfold putW; rw [hrun]
  rw [e]
  exact ⟨hrun, mapII_put (_w := w) hD (isMap_of_owns hown) h1, h2⟩
theorem lookW_run {w : World} {m n : Nat} {f : Int → Int} (h : MapII w m n f) (x : Int) (hx : (Lit.int .i64 x).wf = true) :
    (Instr.lookup 200 (.map (some m)) (.int .i64 x) false).run Tryz.prog w = .ok (.int .i64 (f x)) w := by
  obtain ⟨D, hown, hD⟩ := h
  obtain ⟨c, hrun, hat, _⟩ := hown.lookup_int law3 Tryz.underlying200 Tryz.underlying3 (zero3 _) (keyOf_int_mk Tryz.underlying3 hx)
  have : c = f x := lit_inj (hat.symm.trans (hD x hx))
  rw [hrun, this]
end Go.Proofs.YtepfmoaihhonlaaGreatDoor

/- The iterator 'buckets' of package measure: its contract. -/
namespace Go.Proofs.YtepfmoaihhonlaaGreatDoor
open Go Go.RowKit Go.Proofs Go.Shelf

attribute [local go_sem] Oper.semAt_some

/-- what a round keeps: what lay below n₀, and the cells from B on -/
structure KpB (n₀ B : Nat) (W W' : World) : Prop where
  below : Below n₀ W W'
  own : ∀ (i : Nat) c t fz, B ≤ i → W.heap[i]? = some (.cells c t fz) → W'.heap[i]? = some (.cells c t fz)
theorem KpB.refl (n₀ B : Nat) (W : World) : KpB n₀ B W W := ⟨Below.refl _ _, fun _ _ _ _ _ h => h⟩
theorem KpB.trans {n₀ B : Nat} {X Y Z : World} (h : KpB n₀ B X Y) (k : KpB n₀ B Y Z) : KpB n₀ B X Z := ⟨h.below.trans k.below, fun i c t fz hi hc => k.own i c t fz hi (h.own i c t fz hi hc)⟩
theorem KpB.alloc {n₀ B : Nat} {X Y : World} (h : KpB n₀ B X Y) (hn : n₀ ≤ Y.heap.size) (o : Obj) : KpB n₀ B X (Y.alloc o) :=
  ⟨h.below.alloc hn o, fun i c t fz hi hc => (Below.heap_alloc _ _ _ (heap_lt (h.own i c t fz hi hc))).trans (h.own i c t fz hi hc)⟩
theorem KpB.drewN {n₀ B : Nat} {X Y : World} (h : KpB n₀ B X Y) (m : Nat) : KpB n₀ B X (Y.drewN m) := ⟨below_drewN h.below m, fun i c t fz hi hc => h.own i c t fz hi hc⟩
theorem KpB.drew {n₀ B : Nat} {X Y : World} (h : KpB n₀ B X Y) : KpB n₀ B X Y.drew := ⟨h.below.drew, fun i c t fz hi hc => h.own i c t fz hi hc⟩
theorem KpB.setCell {n₀ B : Nat} {X Y : World} (h : KpB n₀ B X Y) {p : Addr} (hp : n₀ ≤ p.block) (hp' : p.block < B) (u : Value) : KpB n₀ B X (Y.setCell p u) :=
  ⟨h.below.setCell hp u, fun i c t fz hi hc => (Below.heap_setCell Y p u i (by rintro rfl; omega)).trans (h.own i c t fz hi hc)⟩
theorem kpB_t {n₀ B : Nat} {X Y Z : World} (h : KpB n₀ B X Y) (k : KpB n₀ B Y Z) : KpB n₀ B X Z := h.trans k
theorem kpB_b {n₀ B : Nat} {w : World} (hn : n₀ ≤ w.heap.size) (W : World) (l : Nat) (o o' : Obj) (hl : w.heap.size ≤ l) (h : W.heap[l]? = some o) (hc : o.isCells = false) (hw : o.isWalk = false) : KpB n₀ B W (W.putObj l o') :=
  ⟨belowK_b hn W l o o' hl h hc hw, fun i c t fz _ hi => ((grownBy_putObj' W l o').block i (heap_lt hi) (by rintro e; cases e; rw [h] at hi; cases hi; cases hc)).trans hi⟩

/-- what a round of 'buckets' is handed: how many are ahead, and the count -/
def encB (cs : List (Int × Int)) (x : Fin cs.length) : Array Value := #[.int .i64 (tot (cs.take x.val)), .agg #[.int .i64 (cs[x.val]).1, .int .i64 (cs[x.val]).2]]
theorem encB_eq {cs : List (Int × Int)} {k : Nat} {x m : Int} (hk : k < cs.length) (h : cs[k]? = some (x, m)) : encB cs ⟨k, hk⟩ = #[.int .i64 (tot (cs.take k)), .agg #[.int .i64 x, .int .i64 m]] := by
  unfold encB
  rw [List.getElem?_eq_getElem hk] at h
  have := Option.some.inj h
  simp only [this]
theorem finRange_take (n k : Nat) (hk : k < n) : (List.finRange n).take (k + 1) = (List.finRange n).take k ++ [⟨k, hk⟩] := by
  rw [List.take_succ_eq_append_getElem (by simpa using hk)]
  simp

set_option maxRecDepth 100000 in
set_option maxHeartbeats 2000000 in
theorem bkts1_in (F : Fence) (n : Nat) (hF : F.fn 157) (hro : F.round = none) (hn : 1 ≤ n) (l Bs n₀ B : Nat) (b : Int) (A : Option Addr) (c : Nat) (cs : List (Int × Int)) (hlen : cs.length ≤ 6001) (hcs : ∀ c ∈ cs, 1 ≤ c.2 ∧ c.2 ≤ 1125899906842624) (J Jx : List (Fin cs.length) → World → Prop)
    (hY : ∀ pre x W, J pre W → pre.length < cs.length → YieldAt F (n - 1) Tryz.prog l (encB cs x) W fun e W' =>
      (e = .returned (.bool true) ∧ J (pre ++ [x]) W' ∧ KpB n₀ B W W') ∨ (e = .returned (.bool false) ∧ Jx (pre ++ [x]) W'))
    (W : World) (hJa : AbidesFrom W.heap.size J) (hBs : W.heap[Bs]? = some (.cells #[.int .i64 b, .slice A cs.length c] 53 (0, 0))) (hr : Rd W 0 n₀ 2 A cs.length (cells2 cs)) (hn₀ : n₀ ≤ W.heap.size) (hB : B ≤ W.heap.size) (h0 : J [] W) :
    CallsIn F n Tryz.prog 157 #[.func (.yield l) #[] #[], .pointer (some ⟨Bs, 0, none⟩)] W fun e W' => (∃ v, e = .returned v) ∧
      ((∃ ys, ys = (List.finRange cs.length).take cs.length ∧ J ys W') ∨ (∃ pre, (∃ k, k ≤ cs.length ∧ pre = (List.finRange cs.length).take k) ∧ Jx pre W')) := by
  have e1 : W.cell? ⟨Bs, 1, none⟩ = some (.slice A cs.length c) := by rw [cellsAt hBs]; rfl
  obtain ⟨len, hl⟩ : ∃ len, len = cs.length := ⟨_, rfl⟩
  have HR := Lib.hid hr
  have HC := Lib.hid hcs
  have HY := Lib.hid hY
  clear hr hcs hY hBs
  refine callsIn_of_wp Tryz.func157 rfl hF ?_ hro
  simp only [Tryz.ntmps157, List.size_toArray, List.length_cons, List.length_nil, Nat.reduceAdd, Nat.reduceSub, Array.replicate_succ, Array.replicate_zero, List.push_toArray, List.append_toArray, List.nil_append, List.cons_append]
  gi_wp2
  gi_loopw [3, 5, 9] (fun a _ i wr => ∃ k : Nat, k ≤ cs.length ∧ i = .int .i64 k ∧ a = .int .i64 (tot (cs.take k)) ∧ J ((List.finRange cs.length).take k) wr ∧ KpB n₀ B W wr)
    (fun _ _ i _ => cs.length - (intOf i).toNat)
  case atStart => exact ⟨0, Nat.zero_le _, rfl, by simp [tot], by simpa using h0, KpB.refl _ _ _⟩
  case round =>
    obtain ⟨k, hk, rfl, rfl, hJs, hkp⟩ := hrel
    have hsz := hkp.below.size
    by_cases hlt : k < cs.length
    · obtain ⟨bk, o, x, m, rfl, _, hbk, hx, c0, c1⟩ := (HR.out.below hkp.below (Nat.le_refl _)).at2 hlt
      have hb1 := tot_bd (cs.take k) (fun c hc => HC.out c (List.mem_of_mem_take hc))
      have hm := HC.out (x, m) (List.mem_of_getElem? hx)
      simp only [List.length_take] at hb1 hm
      have hJ1 : J ((List.finRange cs.length).take k) (wr.alloc (.cells #[.int .i64 x, .int .i64 m] 121)) := hJa _ wr _ none hJs (World.grownBy_alloc wr _ none) (by simp)
      obtain ⟨fn, tmps, assign, body, hy, hR⟩ := HY.out _ ⟨k, hlt⟩ _ hJ1 (by simp; omega)
      rw [encB_eq hlt hx] at hy
      have HT := Lib.hid (tot_take cs k x m hx)
      have HKP := Lib.hid hkp
      clear hx hkp
      gi_wp2
      refine hR.mono ?_
      rintro e W3 (⟨rfl, hJ3, hk3⟩ | ⟨rfl, hJx3⟩)
      · have hbx : W3.heap[wr.heap.size]? = some (.cells #[.int .i64 x, .int .i64 m] 121 (0, 0)) := hk3.own _ _ _ _ (by omega) (alloc_at _ _ _ rfl)
        have d1 : W3.cell? ⟨wr.heap.size, 1, none⟩ = some (.int .i64 m) := by rw [cellsAt hbx]; rfl
        have HK3 := Lib.hid hk3
        have HJ3 := Lib.hid hJ3
        clear hbx hk3 hJ3
        gi_wp2
        go_roundw
        case rel => exact ⟨k + 1, by omega, by simp, by rw [HT.out], by rw [finRange_take _ _ hlt]; exact HJ3.out, (HKP.out.alloc (by omega) _).trans HK3.out⟩
        case measure => simp [intOf]; omega
      · gi_wp2
        refine bodyPost_ret (results_none rfl _ _ _) rfl ?_
        exact ⟨⟨_, rfl⟩, .inr ⟨_, ⟨k + 1, by omega, (finRange_take _ _ hlt).symm⟩, hJx3⟩⟩
    · obtain rfl : k = cs.length := by omega
      gi_wp2
      go_end0
      exact ⟨⟨_, rfl⟩, .inl ⟨_, rfl, hJs⟩⟩

set_option maxHeartbeats 1000000 in
theorem buckets_in (F : Fence) (n : Nat) (hF : F.fn 104) (hro : F.round = none) (b : Int) (A : Option Addr) (len c : Nat) (w : World) :
    CallsIn F n Tryz.prog 104 #[.agg #[.int .i64 b, .slice A len c]] w fun e w' => e = .returned (.func (.func 157) #[] #[.pointer (some ⟨w.heap.size, 0, none⟩)]) ∧ w' = w.alloc (.cells #[.int .i64 b, .slice A len c] 53) := by
  refine callsIn_of_wp Tryz.func104 rfl hF ?_ hro
  simp only [Tryz.ntmps104, List.size_toArray, List.length_cons, List.length_nil, Nat.reduceAdd, Nat.reduceSub, Array.replicate_succ, Array.replicate_zero, List.push_toArray, List.append_toArray, List.nil_append, List.cons_append]
  gi_wp2
  go_ret
  exact ⟨rfl, rfl⟩

theorem bkts_stops (F : Fence) (n : Nat) (hF : F.fn 157) (hro : F.round = none) (hn : 1 ≤ n) (Bs n₀ B : Nat) (b : Int) (A : Option Addr) (c : Nat) (cs : List (Int × Int)) (hlen : cs.length ≤ 6001) (hcs : ∀ c ∈ cs, 1 ≤ c.2 ∧ c.2 ≤ 1125899906842624) (w : World) (hn₀ : n₀ ≤ w.heap.size) (hB : B ≤ w.heap.size)
    (hBs : w.heap[Bs]? = some (.cells #[.int .i64 b, .slice A cs.length c] 53 (0, 0))) (hr : Rd w 0 n₀ 2 A cs.length (cells2 cs)) :
    SeqStopsK F n Tryz.prog 157 #[.pointer (some ⟨Bs, 0, none⟩)] (encB cs) (KpB n₀ B) (fun ys => ys = (List.finRange cs.length).take cs.length)
      (fun pre => ∃ k, k ≤ cs.length ∧ pre = (List.finRange cs.length).take k) cs.length w := fun l J Jx W hW hJ _ hY h0 =>
  bkts1_in F n hF hro hn l Bs n₀ B b A c cs hlen hcs J Jx hY W hJ ((hW.block Bs (heap_lt hBs)).trans hBs) (hr.below (hW.mono hn₀) (Nat.le_refl _)) (Nat.le_trans hn₀ hW.size) (Nat.le_trans hB hW.size) h0
end Go.Proofs.YtepfmoaihhonlaaGreatDoor
