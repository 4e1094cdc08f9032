import Derived.Test.YtepfmoaihhonlaaGreatDoorG9
import Derived.RangeFuncNested
import Derived.RangeFuncBound
import Derived.RangeFuncCalls
import Derived.RangeFuncLeaves
import Derived.Shelf.Abstract
import Derived.Shelf.RegionOpen
import Derived.WalkKit
import Derived.OwnWalkIn
import Derived.TacticsInMore
import Derived.LoopNIn
import Derived.LoopIn
import Derived.Test.YtepfmoaihhonlaaGreatDoorShelf
import Derived.Test.YtepfmoaihhonlaaGreatDoorDiv64
import Derived.Deep.QuietTactic
import Derived.BigQuiet
/- The iterator 'buckets' of package measure: its contract. -/
namespace Go.Proofs.YtepfmoaihhonlaaGreatDoor
open Go Go.RowKit Go.Proofs Go.Shelf

attribute [local go_sem] Oper.semAt_some

/-- what a round keeps: what lay below n₀, and the cells from B on -/
structure KpB (n₀ B : Nat) (W W' : World) : Prop where
  below : Below n₀ W W'
  own : ∀ (i : Nat) c t fz, B ≤ i → W.heap[i]? = some (.cells c t fz) → W'.heap[i]? = some (.cells c t fz)
theorem KpB.refl (n₀ B : Nat) (W : World) : KpB n₀ B W W := ⟨Below.refl _ _, fun _ _ _ _ _ h => h⟩
theorem KpB.trans {n₀ B : Nat} {X Y Z : World} (h : KpB n₀ B X Y) (k : KpB n₀ B Y Z) : KpB n₀ B X Z := ⟨h.below.trans k.below, fun i c t fz hi hc => k.own i c t fz hi (h.own i c t fz hi hc)⟩
theorem KpB.alloc {n₀ B : Nat} {X Y : World} (h : KpB n₀ B X Y) (hn : n₀ ≤ Y.heap.size) (o : Obj) : KpB n₀ B X (Y.alloc o) :=
  ⟨h.below.alloc hn o, fun i c t fz hi hc => (Below.heap_alloc _ _ _ (heap_lt (h.own i c t fz hi hc))).trans (h.own i c t fz hi hc)⟩
theorem KpB.drewN {n₀ B : Nat} {X Y : World} (h : KpB n₀ B X Y) (m : Nat) : KpB n₀ B X (Y.drewN m) := ⟨below_drewN h.below m, fun i c t fz hi hc => h.own i c t fz hi hc⟩
theorem KpB.drew {n₀ B : Nat} {X Y : World} (h : KpB n₀ B X Y) : KpB n₀ B X Y.drew := ⟨h.below.drew, fun i c t fz hi hc => h.own i c t fz hi hc⟩
theorem KpB.setCell {n₀ B : Nat} {X Y : World} (h : KpB n₀ B X Y) {p : Addr} (hp : n₀ ≤ p.block) (hp' : p.block < B) (u : Value) : KpB n₀ B X (Y.setCell p u) :=
  ⟨h.below.setCell hp u, fun i c t fz hi hc => (Below.heap_setCell Y p u i (by rintro rfl; omega)).trans (h.own i c t fz hi hc)⟩
theorem kpB_t {n₀ B : Nat} {X Y Z : World} (h : KpB n₀ B X Y) (k : KpB n₀ B Y Z) : KpB n₀ B X Z := h.trans k
theorem kpB_b {n₀ B : Nat} {w : World} (hn : n₀ ≤ w.heap.size) (W : World) (l : Nat) (o o' : Obj) (hl : w.heap.size ≤ l) (h : W.heap[l]? = some o) (hc : o.isCells = false) (hw : o.isWalk = false) : KpB n₀ B W (W.putObj l o') :=
  ⟨belowK_b hn W l o o' hl h hc hw, fun i c t fz _ hi => ((grownBy_putObj' W l o').block i (heap_lt hi) (by rintro e; cases e; rw [h] at hi; cases hi; cases hc)).trans hi⟩

/-- what a round of 'buckets' is handed: how many are ahead, and the count -/
def encB (cs : List (Int × Int)) (x : Fin cs.length) : Array Value := #[.int .i64 (tot (cs.take x.val)), .agg #[.int .i64 (cs[x.val]).1, .int .i64 (cs[x.val]).2]]
theorem encB_eq {cs : List (Int × Int)} {k : Nat} {x m : Int} (hk : k < cs.length) (h : cs[k]? = some (x, m)) : encB cs ⟨k, hk⟩ = #[.int .i64 (tot (cs.take k)), .agg #[.int .i64 x, .int .i64 m]] := by
  unfold encB
  rw [List.getElem?_eq_getElem hk] at h
  have := Option.some.inj h
  simp only [this]
theorem finRange_take (n k : Nat) (hk : k < n) : (List.finRange n).take (k + 1) = (List.finRange n).take k ++ [⟨k, hk⟩] := by
  rw [List.take_succ_eq_append_getElem (by simpa using hk)]
  simp

set_option maxRecDepth 100000 in
set_option maxHeartbeats 2000000 in
theorem bkts1_in (F : Fence) (n : Nat) (hF : F.fn 157) (hro : F.round = none) (hn : 1 ≤ n) (l Bs n₀ B : Nat) (b : Int) (A : Option Addr) (c : Nat) (cs : List (Int × Int)) (hlen : cs.length ≤ 6001) (hcs : ∀ c ∈ cs, 1 ≤ c.2 ∧ c.2 ≤ 1125899906842624) (J Jx : List (Fin cs.length) → World → Prop)
    (hY : ∀ pre x W, J pre W → pre.length < cs.length → YieldAt F (n - 1) Tryz.prog l (encB cs x) W fun e W' =>
      (e = .returned (.bool true) ∧ J (pre ++ [x]) W' ∧ KpB n₀ B W W') ∨ (e = .returned (.bool false) ∧ Jx (pre ++ [x]) W'))
    (W : World) (hJa : AbidesFrom W.heap.size J) (hBs : W.heap[Bs]? = some (.cells #[.int .i64 b, .slice A cs.length c] 53 (0, 0))) (hr : Rd W 0 n₀ 2 A cs.length (cells2 cs)) (hn₀ : n₀ ≤ W.heap.size) (hB : B ≤ W.heap.size) (h0 : J [] W) :
    CallsIn F n Tryz.prog 157 #[.func (.yield l) #[] #[], .pointer (some ⟨Bs, 0, none⟩)] W fun e W' => (∃ v, e = .returned v) ∧
      ((∃ ys, ys = (List.finRange cs.length).take cs.length ∧ J ys W') ∨ (∃ pre, (∃ k, k ≤ cs.length ∧ pre = (List.finRange cs.length).take k) ∧ Jx pre W')) := by
  have e1 : W.cell? ⟨Bs, 1, none⟩ = some (.slice A cs.length c) := by rw [cellsAt hBs]; rfl
  obtain ⟨len, hl⟩ : ∃ len, len = cs.length := ⟨_, rfl⟩
  have HR := Lib.hid hr
  have HC := Lib.hid hcs
  have HY := Lib.hid hY
  clear hr hcs hY hBs
  refine callsIn_of_wp Tryz.func157 rfl hF ?_ hro
  simp only [Tryz.ntmps157, List.size_toArray, List.length_cons, List.length_nil, Nat.reduceAdd, Nat.reduceSub, Array.replicate_succ, Array.replicate_zero, List.push_toArray, List.append_toArray, List.nil_append, List.cons_append]
  gi_wp2
  gi_loopw [3, 5, 9] (fun a _ i wr => ∃ k : Nat, k ≤ cs.length ∧ i = .int .i64 k ∧ a = .int .i64 (tot (cs.take k)) ∧ J ((List.finRange cs.length).take k) wr ∧ KpB n₀ B W wr)
    (fun _ _ i _ => cs.length - (intOf i).toNat)
  case atStart => exact ⟨0, Nat.zero_le _, rfl, by simp [tot], by simpa using h0, KpB.refl _ _ _⟩
  case round =>
    obtain ⟨k, hk, rfl, rfl, hJs, hkp⟩ := hrel
    have hsz := hkp.below.size
    by_cases hlt : k < cs.length
    · obtain ⟨bk, o, x, m, rfl, _, hbk, hx, c0, c1⟩ := (HR.out.below hkp.below (Nat.le_refl _)).at2 hlt
      have hb1 := tot_bd (cs.take k) (fun c hc => HC.out c (List.mem_of_mem_take hc))
      have hm := HC.out (x, m) (List.mem_of_getElem? hx)
      simp only [List.length_take] at hb1 hm
      have hJ1 : J ((List.finRange cs.length).take k) (wr.alloc (.cells #[.int .i64 x, .int .i64 m] 121)) := hJa _ wr _ none hJs (World.grownBy_alloc wr _ none) (by simp)
      obtain ⟨fn, tmps, assign, body, hy, hR⟩ := HY.out _ ⟨k, hlt⟩ _ hJ1 (by simp; omega)
      rw [encB_eq hlt hx] at hy
      have HT := Lib.hid (tot_take cs k x m hx)
      have HKP := Lib.hid hkp
      clear hx hkp
      gi_wp2
      refine hR.mono ?_
      rintro e W3 (⟨rfl, hJ3, hk3⟩ | ⟨rfl, hJx3⟩)
      · have hbx : W3.heap[wr.heap.size]? = some (.cells #[.int .i64 x, .int .i64 m] 121 (0, 0)) := hk3.own _ _ _ _ (by omega) (alloc_at _ _ _ rfl)
        have d1 : W3.cell? ⟨wr.heap.size, 1, none⟩ = some (.int .i64 m) := by rw [cellsAt hbx]; rfl
        have HK3 := Lib.hid hk3
        have HJ3 := Lib.hid hJ3
        clear hbx hk3 hJ3
        gi_wp2
        go_roundw
        case rel => exact ⟨k + 1, by omega, by simp, by rw [HT.out], by rw [finRange_take _ _ hlt]; exact HJ3.out, (HKP.out.alloc (by omega) _).trans HK3.out⟩
        case measure => simp [intOf]; omega
      · gi_wp2
        refine bodyPost_ret (results_none rfl _ _ _) rfl ?_
        exact ⟨⟨_, rfl⟩, .inr ⟨_, ⟨k + 1, by omega, (finRange_take _ _ hlt).symm⟩, hJx3⟩⟩
    · obtain rfl : k = cs.length := by omega
      gi_wp2
      go_end0
      exact ⟨⟨_, rfl⟩, .inl ⟨_, rfl, hJs⟩⟩

set_option maxHeartbeats 1000000 in
theorem buckets_in (F : Fence) (n : Nat) (hF : F.fn 104) (hro : F.round = none) (b : Int) (A : Option Addr) (len c : Nat) (w : World) :
    CallsIn F n Tryz.prog 104 #[.agg #[.int .i64 b, .slice A len c]] w fun e w' => e = .returned (.func (.func 157) #[] #[.pointer (some ⟨w.heap.size, 0, none⟩)]) ∧ w' = w.alloc (.cells #[.int .i64 b, .slice A len c] 53) := by
  refine callsIn_of_wp Tryz.func104 rfl hF ?_ hro
  simp only [Tryz.ntmps104, List.size_toArray, List.length_cons, List.length_nil, Nat.reduceAdd, Nat.reduceSub, Array.replicate_succ, Array.replicate_zero, List.push_toArray, List.append_toArray, List.nil_append, List.cons_append]
  gi_wp2
  go_ret
  exact ⟨rfl, rfl⟩

theorem bkts_stops (F : Fence) (n : Nat) (hF : F.fn 157) (hro : F.round = none) (hn : 1 ≤ n) (Bs n₀ B : Nat) (b : Int) (A : Option Addr) (c : Nat) (cs : List (Int × Int)) (hlen : cs.length ≤ 6001) (hcs : ∀ c ∈ cs, 1 ≤ c.2 ∧ c.2 ≤ 1125899906842624) (w : World) (hn₀ : n₀ ≤ w.heap.size) (hB : B ≤ w.heap.size)
    (hBs : w.heap[Bs]? = some (.cells #[.int .i64 b, .slice A cs.length c] 53 (0, 0))) (hr : Rd w 0 n₀ 2 A cs.length (cells2 cs)) :
    SeqStopsK F n Tryz.prog 157 #[.pointer (some ⟨Bs, 0, none⟩)] (encB cs) (KpB n₀ B) (fun ys => ys = (List.finRange cs.length).take cs.length)
      (fun pre => ∃ k, k ≤ cs.length ∧ pre = (List.finRange cs.length).take k) cs.length w := fun l J Jx W hW hJ _ hY h0 =>
  bkts1_in F n hF hro hn l Bs n₀ B b A c cs hlen hcs J Jx hY W hJ ((hW.block Bs (heap_lt hBs)).trans hBs) (hr.below (hW.mono hn₀) (Nat.le_refl _)) (Nat.le_trans hn₀ hW.size) (Nat.le_trans hB hW.size) h0
end Go.Proofs.YtepfmoaihhonlaaGreatDoor

/- The rank of a quantile. -/
namespace Go.Proofs.YtepfmoaihhonlaaGreatDoor
open Go Go.RowKit Go.Proofs

theorem mul64_any (x y : Nat) (w : World) (hx : x < 18446744073709551616) (hy : y < 18446744073709551616) :
    Calls Tryz.prog 150 #[.int .u64 x, .int .u64 y] w fun e w' => e = .returned (.tuple #[.int .u64 ((x * y / 18446744073709551616 : Nat) : Int), .int .u64 ((x * y % 18446744073709551616 : Nat) : Int)]) ∧ w = w' :=
  (Tryz.bits_Mul64 x y hx hy w).mono fun e w' ⟨he, hw⟩ => ⟨he, hw.symm⟩

set_option maxHeartbeats 1000000 in
set_option maxRecDepth 100000 in
theorem rank_any (n num den : Nat) (w : World) (hn : n ≤ 1125899906842624) (h1 : num ≤ den) (hd : 1 ≤ den) (hd' : den ≤ 1000000) :
    Calls Tryz.prog 103 #[.int .i64 n, .int .i64 num, .int .i64 den] w fun e w' => e = .returned (.int .i64 (rnk n num den)) ∧ ∃ k, w' = w.drewN k := by
  have hp : n * num ≤ 1125899906842624 * den := Nat.mul_le_mul hn h1
  have hp2 : 1125899906842624 * den ≤ 1125899906842624 * 1000000 := Nat.mul_le_mul (Nat.le_refl _) hd'
  have M := Lib.hid (fun w => mul64_any n num w (by omega) (by omega))
  obtain ⟨p, hpe⟩ : ∃ p, p = n * num := ⟨_, rfl⟩
  have HR := Lib.hid (show rnk n num den = max 1 ((p : Int) / den + if 0 < (p : Int) % den then 1 else 0) by rw [hpe]; unfold rnk; simp)
  have hq1 : (p : Int) / den ≤ 1125899906842624 := by
    have h : p / den ≤ 1125899906842624 := by
      refine (Nat.div_le_iff_le_mul_add_pred (by omega)).2 ?_
      rw [hpe, Nat.mul_comm den]; omega
    have e : ((p / den : Nat) : Int) = (p : Int) / den := by simp
    omega
  rw [← hpe] at M hp
  clear hpe
  have q0 : (0 : Int) ≤ (p : Int) / den := Int.ediv_nonneg (by omega) (by omega)
  have r0 : (0 : Int) ≤ (p : Int) % den := Int.emod_nonneg _ (by omega)
  have hdm := Nat.div_add_mod p 18446744073709551616
  have D := Lib.hid (fun w => div64_any (p / 18446744073709551616) (p % 18446744073709551616) den w (by omega) (by omega) (by omega))
  rw [show p / 18446744073709551616 * 18446744073709551616 + p % 18446744073709551616 = p by omega] at D
  rw [show ((p / den : Nat) : Int) = (p : Int) / den by simp, show ((p % den : Nat) : Int) = (p : Int) % den by simp] at D
  obtain ⟨q, hq⟩ : ∃ q : Int, q = (p : Int) / den := ⟨_, rfl⟩
  obtain ⟨r, hr⟩ : ∃ r : Int, r = (p : Int) % den := ⟨_, rfl⟩
  obtain ⟨hi, hhi⟩ : ∃ q : Nat, q = p / 18446744073709551616 := ⟨_, rfl⟩
  obtain ⟨lo, hlo⟩ : ∃ q : Nat, q = p % 18446744073709551616 := ⟨_, rfl⟩
  rw [← hhi, ← hlo] at M D
  rw [← hq, ← hr] at HR D
  rw [← hq] at q0 hq1
  rw [← hr] at r0
  clear hq hr hhi hlo hdm
  by_cases hr : 0 < r
  · go_enter Tryz.func103, Tryz.ntmps103
    go_wp2_with fail
    refine (M.out _).mono ?_; rintro e w' ⟨rfl, rfl⟩
    go_wp2_with fail
    refine (D.out _).mono ?_; rintro e w' ⟨rfl, k1, rfl⟩
    go_wp2
    go_ret
    exact ⟨by rw [HR.out, if_pos hr]; rfl, _, rfl⟩
  · have tr : decide (0 < r) = false := by simpa using hr
    go_enter Tryz.func103, Tryz.ntmps103
    go_wp2_with fail
    refine (M.out _).mono ?_; rintro e w' ⟨rfl, rfl⟩
    go_wp2_with fail
    refine (D.out _).mono ?_; rintro e w' ⟨rfl, k1, rfl⟩
    go_wp2
    go_ret
    exact ⟨by rw [HR.out, if_neg (by omega), Int.add_zero]; rfl, _, rfl⟩
end Go.Proofs.YtepfmoaihhonlaaGreatDoor
