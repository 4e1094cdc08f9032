/- slices.Chunk at histograms: the iterator's contract. -/
import Derived.Test.YtgmbgclhljobaaaDoorWin
import Derived.Test.YtgmbgclhljobaaaDoorRRoll
import Derived.RangeFuncNested
import Derived.RangeFuncBound
import Derived.RangeFuncCalls
import Derived.RangeFuncLeaves
import Derived.Shelf.Abstract
import Derived.Shelf.RegionOpen
import Derived.WalkKit
import Derived.OwnWalkIn
import Derived.TacticsInMore
import Derived.LoopNIn
import Derived.LoopIn
import Derived.RegionIn
namespace Go.Proofs.YtgmbgclhljobaaaDoor
open Go Go.RowKit Go.Proofs Go.Shelf

attribute [local go_sem] Oper.semAt_some

/-- what a round keeps: what lay below n₀, and the iterator's two boxes -/
structure KpC (n₀ Bs Bk : Nat) (W W' : World) : Prop where
  below : Below n₀ W W'
  s : ∀ c t fz, W.heap[Bs]? = some (.cells c t fz) → W'.heap[Bs]? = some (.cells c t fz)
  k : ∀ c t fz, W.heap[Bk]? = some (.cells c t fz) → W'.heap[Bk]? = some (.cells c t fz)
theorem KpC.refl (n₀ Bs Bk : Nat) (W : World) : KpC n₀ Bs Bk W W := ⟨Below.refl _ _, fun _ _ _ h => h, fun _ _ _ h => h⟩
theorem KpC.trans {n₀ Bs Bk : Nat} {X Y Z : World} (h : KpC n₀ Bs Bk X Y) (q : KpC n₀ Bs Bk Y Z) : KpC n₀ Bs Bk X Z := ⟨h.below.trans q.below, fun c t fz hc => q.s c t fz (h.s c t fz hc), fun c t fz hc => q.k c t fz (h.k c t fz hc)⟩
theorem KpC.drewN {n₀ Bs Bk : Nat} {X Y : World} (h : KpC n₀ Bs Bk X Y) (m : Nat) : KpC n₀ Bs Bk X (Y.drewN m) := ⟨below_drewN h.below m, h.s, h.k⟩
theorem KpC.drew {n₀ Bs Bk : Nat} {X Y : World} (h : KpC n₀ Bs Bk X Y) : KpC n₀ Bs Bk X Y.drew := ⟨h.below.drew, h.s, h.k⟩
theorem kpC_t {n₀ Bs Bk : Nat} {X Y Z : World} (h : KpC n₀ Bs Bk X Y) (q : KpC n₀ Bs Bk Y Z) : KpC n₀ Bs Bk X Z := h.trans q
theorem kpC_b {n₀ Bs Bk : Nat} {w : World} (hn : n₀ ≤ w.heap.size) (W : World) (l : Nat) (o o' : Obj) (hl : w.heap.size ≤ l) (h : W.heap[l]? = some o) (hc : o.isCells = false) (hw : o.isWalk = false) : KpC n₀ Bs Bk W (W.putObj l o') :=
  ⟨belowK_b hn W l o o' hl h hc hw, fun c t fz hi => ((grownBy_putObj' W l o').block Bs (heap_lt hi) (by rintro e; cases e; rw [h] at hi; cases hi; cases hc)).trans hi,
    fun c t fz hi => ((grownBy_putObj' W l o').block Bk (heap_lt hi) (by rintro e; cases e; rw [h] at hi; cases hi; cases hc)).trans hi⟩

/-- what a round is handed -/
def encC (A : Option Addr) (n k : Nat) (x : Fin (nch n k)) : Array Value := #[.slice (A.map (·.add (x.val * k * 2))) (min k (n - x.val * k)) (min k (n - x.val * k))]
theorem finRange_take' (n k : Nat) (hk : k < n) : (List.finRange n).take (k + 1) = (List.finRange n).take k ++ [⟨k, hk⟩] := by
  rw [List.take_succ_eq_append_getElem (by simpa using hk)]
  simp
set_option maxRecDepth 100000 in
set_option maxHeartbeats 2000000 in
theorem chunk1_in (n : Nat) (hn : 1 ≤ n) (l Bs Bk n₀ : Nat) (A : Option Addr) (len c k : Nat) (hlen : len ≤ 2000) (hlc : len ≤ c) (hk1 : 1 ≤ k) (hk2 : k ≤ 2000) (J Jx : List (Fin (nch len k)) → World → Prop)
    (hY : ∀ pre x W, J pre W → pre.length < nch len k → YieldAt Fence.wide (n - 1) Tryd.prog l (encC A len k x) W fun e W' =>
      (e = .returned (.bool true) ∧ J (pre ++ [x]) W' ∧ KpC n₀ Bs Bk W W') ∨ (e = .returned (.bool false) ∧ Jx (pre ++ [x]) W'))
    (W : World) (hJa : AbidesFrom W.heap.size J) (hBs : W.heap[Bs]? = some (.cells #[.slice A len c] 47 (0, 0))) (hBk : W.heap[Bk]? = some (.cells #[.int .i64 (k : Int)] 3 (0, 0))) (_hn₀ : n₀ ≤ W.heap.size) (h0 : J [] W) :
    CallsIn Fence.wide n Tryd.prog 84 #[.func (.yield l) #[] #[], .pointer (some ⟨Bs, 0, none⟩), .pointer (some ⟨Bk, 0, none⟩)] W fun e W' => (∃ v, e = .returned v) ∧
      ((∃ ys, ys = (List.finRange (nch len k)).take (nch len k) ∧ J ys W') ∨ (∃ pre, (∃ q, q ≤ nch len k ∧ pre = (List.finRange (nch len k)).take q) ∧ Jx pre W')) := by
  have HY := Lib.hid hY
  have HBS := Lib.hid hBs
  have HBK := Lib.hid hBk
  have s0 : W.cell? ⟨Bs, 0, none⟩ = some (.slice A len c) := by rw [cellsAt hBs]; rfl
  have b0 : W.cell? ⟨Bk, 0, none⟩ = some (.int .i64 (k : Int)) := by rw [cellsAt hBk]; rfl
  clear hY hBs hBk
  refine callsIn_of_wp Tryd.func84 rfl trivial ?_ rfl
  simp only [Tryd.ntmps84, List.size_toArray, List.length_cons, List.length_nil, Nat.reduceAdd, Nat.reduceSub, Array.replicate_succ, Array.replicate_zero, List.push_toArray, List.append_toArray, List.nil_append, List.cons_append]
  gi_wp2
  gi_loopw [4, 5] (fun i _ wr => ∃ q : Nat, q ≤ nch len k ∧ i = .int .i64 ((q * k : Nat) : Int) ∧ J ((List.finRange (nch len k)).take q) wr ∧ KpC n₀ Bs Bk W wr)
    (fun i _ _ => 10000 - (intOf i).toNat)
  case atStart => exact ⟨0, Nat.zero_le _, by simp, by simpa using h0, KpC.refl _ _ _ _⟩
  case round =>
    obtain ⟨q, hq, rfl, hJs, hkp⟩ := hrel
    have hsz := hkp.below.size
    have hbs' := hkp.s _ _ _ HBS.out
    have hbk' := hkp.k _ _ _ HBK.out
    clear s0 b0
    have s0 : wr.cell? ⟨Bs, 0, none⟩ = some (.slice A len c) := by rw [cellsAt hbs']; rfl
    have b0 : wr.cell? ⟨Bk, 0, none⟩ = some (.int .i64 (k : Int)) := by rw [cellsAt hbk']; rfl
    have hqk : q * k ≤ len + 2000 := by
      rcases Nat.eq_zero_or_pos q with h0 | h0
      · subst h0; simp
      · have := (nch_lt (n := len) (k := k) (m := q - 1) (by omega)).1 (by omega)
        have e : q * k = (q - 1) * k + k := by conv => lhs; rw [show q = (q - 1) + 1 by omega, Nat.add_mul, Nat.one_mul]
        omega
    clear hbs' hbk'
    by_cases hlt : q * k < len
    · have hqn := (nch_lt (n := len) (k := k) (m := q) (by omega)).2 hlt
      obtain ⟨i, hi⟩ : ∃ i, i = q * k := ⟨_, rfl⟩
      obtain ⟨en, hen⟩ : ∃ en, en = min k (len - q * k) := ⟨_, rfl⟩
      have hJ1 : J ((List.finRange (nch len k)).take q) wr := hJs
      have HJ1 := Lib.hid hJ1
      have henc : encC A len k ⟨q, hqn⟩ = #[.slice (A.map (·.add (i * 2))) en en] := by unfold encC; rw [hi, hen]
      have HENC := Lib.hid henc
      have HI := Lib.hid hi
      rw [← hi] at hlt hqk ⊢
      have hm1 : min (k : Int) ((len - i : Nat) : Int) = (en : Int) := by rw [hi]; omega
      have hm2 : min (k : Int) ((len : Int) - (i : Int)) = (en : Int) := by rw [hi]; omega
      have hen1 : 1 ≤ en ∧ i + en ≤ len := by rw [hen, ← hi]; omega
      have hi1 : (i : Int) ≤ (len : Int) := by omega
      have hi2 : (0 : Int) ≤ (i : Int) := by omega
      have td : decide ((i : Int) < (len : Int)) = true := by simp; omega
      have HKP := Lib.hid hkp
      clear hi hen hJ1 hJs hkp henc
      obtain ⟨A1, hA1⟩ : ∃ A1, (if c = i then A else Option.map (fun x => x.add (i * 2)) A) = A1 := ⟨_, rfl⟩
      have hT : ((i : Int) + (en : Int)).toNat = i + en := by omega
      have hne : ¬ i + en = i := by omega
      have hne2 : ¬ en = 0 := by omega
      have hj1 : (i : Int) ≤ (i : Int) + (en : Int) := by omega
      have hj2 : (i : Int) + (en : Int) ≤ (c : Int) := by omega
      gi_wp2
      gi_quiet (fail)
      have hJ2 : J ((List.finRange (nch len k)).take q) (wr.drewN nq) := hJa _ wr _ none HJ1.out ⟨rfl, rfl, rfl, Nat.le_refl _, fun _ _ _ => rfl⟩ (by simp)
      obtain ⟨fn, tmps, assign, body, hy, hR⟩ := HY.out _ ⟨q, hqn⟩ _ hJ2 (by simp; omega)
      rw [HENC.out] at hy
      clear hJ2
      have s1 : (wr.drewN nq).cell? ⟨Bs, 0, none⟩ = some (.slice A len c) := s0
      gi_wp2
      refine hR.mono ?_
      rintro e W3 (⟨rfl, hJ3, hk3⟩ | ⟨rfl, hJx3⟩)
      · have hkk : KpC n₀ Bs Bk W W3 := (HKP.out.drewN nq).trans hk3
        have b3 : W3.cell? ⟨Bk, 0, none⟩ = some (.int .i64 (k : Int)) := by rw [cellsAt (hkk.k _ _ _ HBK.out)]; rfl
        have HK3 := Lib.hid hkk
        have HJ3 := Lib.hid hJ3
        clear hkk hk3 hJ3
        gi_wp2
        go_roundw
        case rel => exact ⟨q + 1, by omega, by rw [Nat.add_mul, Nat.one_mul, ← HI.out]; congr 1, by rw [finRange_take' _ _ hqn]; exact HJ3.out, HK3.out⟩
        case measure => simp [intOf]; omega
      · gi_wp2
        refine bodyPost_ret (results_none rfl _ _ _) rfl ?_
        exact ⟨⟨_, rfl⟩, .inr ⟨_, ⟨q + 1, by omega, (finRange_take' _ _ hqn).symm⟩, hJx3⟩⟩
    · obtain rfl : q = nch len k := by
        have : ¬ q < nch len k := fun h => hlt ((nch_lt (n := len) (k := k) (m := q) (by omega)).1 h)
        omega
      obtain ⟨i, hi⟩ : ∃ i, i = nch len k * k := ⟨_, rfl⟩
      rw [← hi] at hlt hqk ⊢
      have td : decide ((i : Int) < (len : Int)) = false := by simp; omega
      clear hi
      gi_wp2
      go_end0
      exact ⟨⟨_, rfl⟩, .inl ⟨_, rfl, hJs⟩⟩

set_option maxHeartbeats 1000000 in
set_option maxRecDepth 100000 in
theorem chunk_in (n : Nat) (A : Option Addr) (len c k : Nat) (hk : 1 ≤ k) (w : World) :
    CallsIn Fence.wide n Tryd.prog 77 #[.slice A len c, .int .i64 (k : Int)] w fun e w' => e = .returned (.func (.func 84) #[] #[.pointer (some ⟨w.heap.size, 0, none⟩), .pointer (some ⟨w.heap.size + 1, 0, none⟩)]) ∧ w' = (w.alloc (.cells #[.slice A len c] 47)).alloc (.cells #[.int .i64 (k : Int)] 3) := by
  have td : decide ((k : Int) < 1) = false := by simp; omega
  refine callsIn_of_wp Tryd.func77 rfl trivial ?_ rfl
  simp only [Tryd.ntmps77, List.size_toArray, List.length_cons, List.length_nil, Nat.reduceAdd, Nat.reduceSub, Array.replicate_succ, Array.replicate_zero, List.push_toArray, List.append_toArray, List.nil_append, List.cons_append]
  gi_wp2
  go_ret
  exact ⟨rfl, rfl⟩

theorem chunk_stops (n : Nat) (hn : 1 ≤ n) (Bs Bk n₀ : Nat) (A : Option Addr) (len c k : Nat) (hlen : len ≤ 2000) (hlc : len ≤ c) (hk1 : 1 ≤ k) (hk2 : k ≤ 2000) (w : World) (hn₀ : n₀ ≤ w.heap.size)
    (hBs : w.heap[Bs]? = some (.cells #[.slice A len c] 47 (0, 0))) (hBk : w.heap[Bk]? = some (.cells #[.int .i64 (k : Int)] 3 (0, 0))) :
    SeqStopsK Fence.wide n Tryd.prog 84 #[.pointer (some ⟨Bs, 0, none⟩), .pointer (some ⟨Bk, 0, none⟩)] (encC A len k) (KpC n₀ Bs Bk) (fun ys => ys = (List.finRange (nch len k)).take (nch len k))
      (fun pre => ∃ q, q ≤ nch len k ∧ pre = (List.finRange (nch len k)).take q) (nch len k) w := fun l J Jx W hW hJ _ hY h0 =>
  chunk1_in n hn l Bs Bk n₀ A len c k hlen hlc hk1 hk2 J Jx hY W hJ ((hW.block Bs (heap_lt hBs)).trans hBs) ((hW.block Bk (heap_lt hBk)).trans hBk) (Nat.le_trans hn₀ hW.size) h0
end Go.Proofs.YtgmbgclhljobaaaDoor
