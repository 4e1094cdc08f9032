/- Quantile of package measure. -/
import Derived.Test.YtepfmoaihhonlaaGreatDoorG33
import Derived.Test.YtepfmoaihhonlaaGreatDoorG8
import Derived.Outline
namespace Go.Proofs.YtepfmoaihhonlaaGreatDoor
open Go Go.RowKit Go.Proofs Go.Shelf

attribute [local go_sem] Oper.semAt_some

def badQ (num den : Int) : Bool := decide (num < 0) || decide (den < num) || decide (den < 1) || decide (1000000 < den)
/-- what Quantile returns as its error -/
def codeQ (b : Int) (cs : List (Int × Int)) (num den : Int) : Int := if codeH b cs = 0 then (if badQ num den then 9 else if cs.length = 0 then 13 else 0) else codeH b cs
/-- the bucket of the rank -/
def AtRank (b : Int) (cs : List (Int × Int)) (k lo hi : Int) : Prop := ∃ i x n, cs[i]? = some (x, n) ∧ tot (cs.take i) < k ∧ k ≤ tot (cs.take (i + 1)) ∧ lo = loB b x ∧ hi = hiB b x
def QPost (b : Int) (cs : List (Int × Int)) (num den : Int) (w : World) (e : Ending) (w' : World) : Prop :=
  ∃ lo hi, e = .returned (.tuple #[.int .i64 lo, .int .i64 hi, .int .i64 (codeQ b cs num den)]) ∧ (codeQ b cs num den = 0 → AtRank b cs (rnk (tot cs) num den) lo hi) ∧ (codeQ b cs num den ≠ 0 → lo = 0 ∧ hi = 0) ∧ Below w.heap.size w w'

/-- what the call's own boxes hold stays where blocks turn that are no cells -/
theorem st_own {β : Type} (w : World) (B : Nat) (hB : w.heap.size ≤ B) (bs : β → List (Nat × Obj)) (hc : ∀ s, ∀ x ∈ bs s, x.2.isCells = true) : OwnFrom B (fun (s : β) W => St w W (bs s)) := fun s W W' row hs hg hr => by
  refine ⟨hs.below.grown hg hs.below.size (fun k e => by have := (hr k e).1; omega), fun i b o hi => ?_⟩
  have h := hs.box i b o hi
  refine ⟨h.1, (hg.block b (heap_lt h.2) (fun e => ?_)).trans h.2⟩
  obtain ⟨_, o', ho, hno⟩ := hr b e.symm
  rw [h.2] at ho
  cases ho
  rw [hc s _ (List.mem_of_getElem? hi)] at hno
  cases hno

/-- what a round is handed, by names -/
def Elem (cs : List (Int × Int)) (x : Fin cs.length) (T X M : Int) : Prop := T = tot (cs.take x.val) ∧ cs[x.val]? = some (X, M)
theorem elem_of (cs : List (Int × Int)) (x : Fin cs.length) : ∃ T X M, Elem cs x T X M ∧ encB cs x = #[.int .i64 T, .agg #[.int .i64 X, .int .i64 M]] :=
  ⟨_, _, _, ⟨rfl, List.getElem?_eq_getElem x.isLt⟩, rfl⟩
def qBoxes (w : World) (K : Nat) (b : Int) (A : Option Addr) (n c : Nat) (k lo hi : Int) : List (Nat × Obj) :=
  [(w.heap.size, .cells #[.int .i64 b, .slice A n c] 53 (0, 0)), (w.heap.size + 1, .cells #[.int .i64 lo] 3 (0, 0)), (w.heap.size + 1 + 1, .cells #[.int .i64 hi] 3 (0, 0)), (K, .cells #[.int .i64 k] 3 (0, 0))]

theorem qBoxes_set1 {w W : World} {K : Nat} {b : Int} {A : Option Addr} {n c : Nat} {k lo hi : Int} (h : St w W (qBoxes w K b A n c k lo hi)) (hK : w.heap.size + 1 + 1 < K) (u : Int) : St w (W.setCell ⟨w.heap.size + 1, 0, none⟩ (.int .i64 u)) (qBoxes w K b A n c k u hi) := by
  have := h.set 1 0 (.int .i64 u) (b := w.heap.size + 1) (cs := #[.int .i64 lo]) (t := 3) (fz := (0, 0)) rfl (fun j b' o' hj hne => by
    rcases j with _ | _ | _ | _ | j
    · simp [qBoxes] at hj; omega
    · exact absurd rfl hne
    · simp [qBoxes] at hj; omega
    · simp [qBoxes] at hj; omega
    · simp [qBoxes] at hj)
  simpa [qBoxes] using this
theorem qBoxes_set2 {w W : World} {K : Nat} {b : Int} {A : Option Addr} {n c : Nat} {k lo hi : Int} (h : St w W (qBoxes w K b A n c k lo hi)) (hK : w.heap.size + 1 + 1 < K) (u : Int) : St w (W.setCell ⟨w.heap.size + 1 + 1, 0, none⟩ (.int .i64 u)) (qBoxes w K b A n c k lo u) := by
  have := h.set 2 0 (.int .i64 u) (b := w.heap.size + 1 + 1) (cs := #[.int .i64 hi]) (t := 3) (fz := (0, 0)) rfl (fun j b' o' hj hne => by
    rcases j with _ | _ | _ | _ | j
    · simp [qBoxes] at hj; omega
    · simp [qBoxes] at hj; omega
    · exact absurd rfl hne
    · simp [qBoxes] at hj; omega
    · simp [qBoxes] at hj)
  simpa [qBoxes] using this
theorem fin_last {n k : Nat} {ini : List (Fin n)} {last : Fin n} (h : (List.finRange n).take k = ini ++ [last]) (hk : k ≤ n) (j : Fin n) (hj : j.val < last.val) : j ∈ ini := by
  rcases k with _ | m
  · simp at h
  · rw [finRange_take n m (by omega)] at h
    obtain ⟨e1, e2⟩ := List.append_inj' h rfl
    have e3 : last.val = m := by simp at e2; rw [← e2]
    rw [← e1, List.mem_take_iff_getElem]
    refine ⟨j.val, by simp; omega, by simp⟩
/-- the loop was left at the bucket of the rank -/
def QStop (w : World) (K : Nat) (b : Int) (A : Option Addr) (c : Nat) (cs : List (Int × Int)) (kk : Int) (cd : Code) (pre : List (Fin cs.length)) (W : World) : Prop :=
  cd = .exit 1 ∧ ∃ ini last X M, pre = ini ++ [last] ∧ (∀ j ∈ ini, tot (cs.take (j.val + 1)) < kk) ∧ cs[last.val]? = some (X, M) ∧ kk ≤ tot (cs.take (last.val + 1)) ∧ St w W (qBoxes w K b A cs.length c kk (loB b X) (hiB b X))

set_option maxHeartbeats 2000000 in
set_option maxRecDepth 100000 in
theorem Quantile_main (b : Int) (A : Option Addr) (c : Nat) (cs : List (Int × Int)) (num den : Nat) (w : World) (hr : Rd w 0 w.heap.size 2 A cs.length (cells2 cs)) (hg : Good b cs) (hq : badQ num den = false) (hl : 0 < cs.length) (hT : tot cs ≤ 1125899906842624) :
    Calls Tryz.prog 38 #[.agg #[.int .i64 b, .slice A cs.length c], .int .i64 num, .int .i64 den] w (QPost b cs num den w) := by
  obtain ⟨hq1, hq2, hq3⟩ : num ≤ den ∧ 1 ≤ den ∧ den ≤ 1000000 := by simp [badQ] at hq; omega
  have HQ := Lib.hid hq
  have HG := Lib.hid hg
  have HR := Lib.hid hr
  have HCD := Lib.hid hg.code
  have HCS := Lib.hid (fun c hc => (hg.2.2.2.1 c hc).2)
  have hlen := hg.2.2.1
  have htb := tot_bd cs HCS.out
  obtain ⟨tn, htn⟩ : ∃ tn : Nat, (tn : Int) = tot cs := ⟨(tot cs).toNat, by omega⟩
  have htn1 : tn ≤ 1125899906842624 := by omega
  have HTN := Lib.hid htn
  clear hg hr hq htn htb hT
  obtain ⟨W0, hW0⟩ : ∃ W0, W0 = ((w.alloc (.cells #[.int .i64 b, .slice A cs.length c] 53)).alloc (.cells #[.int .i64 0] 3)).alloc (.cells #[.int .i64 0] 3) := ⟨_, rfl⟩
  have HST0 := Lib.hid (show St w W0 [(w.heap.size, .cells #[.int .i64 b, .slice A cs.length c] 53 (0, 0)), (w.heap.size + 1, .cells #[.int .i64 0] 3 (0, 0)), (w.heap.size + 1 + 1, .cells #[.int .i64 0] 3 (0, 0))] by
    rw [hW0]; exact (((St.start w).alloc _ _ rfl).alloc _ _ (by simp)).alloc _ _ (by simp))
  refine (callsIn_wide (n := 6)).1 ?_
  refine callsIn_of_wp_marks Tryz.func38 rfl trivial ?_ rfl
  simp only [Tryz.ntmps38, List.size_toArray, List.length_cons, List.length_nil, Nat.reduceAdd, Nat.reduceSub, Array.replicate_succ, Array.replicate_zero, List.push_toArray, List.append_toArray, List.nil_append, List.cons_append]
  gi_wp2_with fail
  rw [← hW0]
  clear hW0
  refine ⟨trivial, ?_⟩
  gi_at_call 99
  refine (callsIn_wide.2 (check_any b A cs.length c cs W0 (HR.out.old HST0.out.below) (by omega))).mono ?_
  rintro e w1 ⟨rfl, hb1⟩
  rw [HCD.out]
  have HST1 := Lib.hid (HST0.out.call hb1)
  clear hb1
  have k00 : w1.cell? ⟨w.heap.size, 0, none⟩ = some (.int .i64 b) := HST1.out.cell 0 0 rfl rfl
  have k01 : w1.cell? ⟨w.heap.size, 1, none⟩ = some (.slice A cs.length c) := HST1.out.cell 0 1 rfl rfl
  have t0 : decide ((num : Int) < 0) = false := by simp
  have t1 : decide ((den : Int) < num) = false := by simpa using hq1
  have t1' : decide (den < num) = false := by simpa using hq1
  have t2 : decide ((den : Int) < 1) = false := by simp; omega
  have t3 : decide ((1000000 : Int) < den) = false := by simp; omega
  have t4 : ((cs.length : Int) == 0) = false := by simp only [beq_eq_false_iff_ne, ne_eq]; omega
  gi_wp2_with fail
  refine ⟨trivial, ?_⟩
  gi_at_call 88
  refine (callsIn_wide.2 (total_any b A cs.length c cs w1 (HR.out.old HST1.out.below) (by omega) HCS.out hlen)).mono ?_
  rintro e w2 ⟨rfl, hb2⟩
  rw [← HTN.out]
  have HST2 := Lib.hid (HST1.out.call hb2)
  clear hb2 k00 k01
  gi_wp2_with fail
  refine ⟨trivial, ?_⟩
  gi_at_call 103
  refine (callsIn_wide.2 (rank_any tn num den w2 htn1 hq1 hq2 hq3)).mono ?_
  rintro e w3 ⟨rfl, d3, hw3⟩
  obtain ⟨kk, hkk⟩ : ∃ kk, kk = rnk tn num den := ⟨_, rfl⟩
  rw [← hkk]
  have HKK := Lib.hid hkk
  have HST3 := Lib.hid (show St w w3 _ by rw [hw3]; exact HST2.out.drewN d3)
  clear hkk hw3
  obtain ⟨W3, hW3⟩ : ∃ W3, W3 = w3.alloc (.cells #[.int .i64 kk] 3) := ⟨_, rfl⟩
  have HST4 := Lib.hid (show St w W3 (qBoxes w w3.heap.size b A cs.length c kk 0 0) by
    rw [hW3]; exact HST3.out.alloc _ _ rfl)
  have k00 : w3.cell? ⟨w.heap.size, 0, none⟩ = some (.int .i64 b) := HST3.out.cell 0 0 rfl rfl
  have k01 : w3.cell? ⟨w.heap.size, 1, none⟩ = some (.slice A cs.length c) := HST3.out.cell 0 1 rfl rfl
  have hlt3 : w.heap.size < w3.heap.size := HST3.out.lt 0 rfl
  gi_wp2_with fail
  rw [← hW3]
  clear hW3 k00 k01 hlt3
  refine ⟨trivial, ?_⟩
  gi_at_call 104
  refine (buckets_in Fence.wide _ trivial rfl b A cs.length c W3).mono ?_
  rintro e w4 ⟨rfl, hw4⟩
  have HST5 := Lib.hid (show St w w4 (qBoxes w w3.heap.size b A cs.length c kk 0 0) by rw [hw4]; exact HST4.out.more _)
  have HBX := Lib.hid (show w4.heap[W3.heap.size]? = some (.cells #[.int .i64 b, .slice A cs.length c] 53 (0, 0)) by rw [hw4]; exact alloc_at _ _ _ rfl)
  have hs4 : W3.heap.size < w4.heap.size := heap_lt HBX.out
  have hs3 : w3.heap.size < W3.heap.size := HST4.out.lt 3 rfl
  have hs2 : w.heap.size + 1 + 1 < w3.heap.size := HST3.out.lt 2 rfl
  clear hw4
  gi_wp2_with fail
  refine wpIn_rangeFunc_ownH (w := w4) rfl (by omega) (gf := 157) (lb := #[.pointer (some ⟨W3.heap.size, 0, none⟩)]) rfl trivial (enters_of Tryz.func157 (by kernel_rfl) rfl)
    (bkts_stops Fence.wide _ trivial rfl (by omega) W3.heap.size w.heap.size w4.heap.size b A c cs hlen HCS.out w4 (by omega) (Nat.le_refl _) HBX.out (HR.out.below HST5.out.below (Nat.le_refl _))) kpB_t (kpB_b (by omega)) (Below.refl _ _) (fun _ => rfl)
    (fun pre W => St w W (qBoxes w w3.heap.size b A cs.length c kk 0 0) ∧ w4.heap.size ≤ W.heap.size ∧ ∀ j ∈ pre, tot (cs.take (j.val + 1)) < kk)
    (fun cd pre W => QStop w w3.heap.size b A c cs kk cd pre W)
    (OwnFrom.and (st_own w w4.heap.size (by omega) (fun _ => qBoxes w w3.heap.size b A cs.length c kk 0 0) (by simp [qBoxes, Obj.isCells])) (fun s W W' row hs hg _ => ⟨Nat.le_trans hs.1 hg.size, hs.2⟩))
    (fun cd s W W' row hs hg hr => by
      obtain ⟨h1, ini, last, X, M, h2, h3, h4, h5, h6⟩ := hs
      exact ⟨h1, ini, last, X, M, h2, h3, h4, h5, st_own w w4.heap.size (by omega) (fun (_ : Unit) => qBoxes w w3.heap.size b A cs.length c kk (loB b X) (hiB b X)) (by simp [qBoxes, Obj.isCells]) () W W' row h6 hg hr⟩)
    ⟨HST5.out, Nat.le_refl _, by simp⟩
    (fun x a' W => ∃ Bx T X M, w4.heap.size ≤ Bx ∧ Elem cs x T X M ∧ W.heap[Bx]? = some (.cells #[.int .i64 X, .int .i64 M] 121 (0, 0)) ∧ a' = { tmps := #[.agg #[.int .i64 b, .slice A cs.length c], .int .i64 num, .int .i64 den, .pointer (some ⟨w.heap.size, 0, none⟩), undef, undef, .pointer (some ⟨w.heap.size + 1, 0, none⟩), .pointer (some ⟨w.heap.size + 1 + 1, 0, none⟩), .int .i64 0, .int .i64 0, .pointer (some ⟨w3.heap.size, 0, none⟩), .int .i64 T, .pointer (some ⟨Bx, 0, none⟩), .agg #[.int .i64 b, .slice A cs.length c], .int .i64 0, .int .i64 0, .bool false, undef, .bool false, .int .i64 num, .bool false, .bool false, .int .i64 num, .int .i64 den, .bool false, .bool false, .bool false, .int .i64 den, .bool false, .bool false, .bool false, .int .i64 den, .bool false, .bool false, .bool false, .pointer (some ⟨w.heap.size, 1, none⟩), .slice A cs.length c, .int .i64 cs.length, .bool false, .agg #[.int .i64 b, .slice A cs.length c], .int .i64 tn, .int .i64 num, .int .i64 den, .int .i64 kk, .agg #[.int .i64 b, .slice A cs.length c], .func (.func 157) #[] #[.pointer (some ⟨W3.heap.size, 0, none⟩)], .int .i64 T, .agg #[.int .i64 X, .int .i64 M], undef, undef, undef, undef, undef, undef, undef, undef, undef, undef, undef, undef, undef, undef, undef, undef], defers := [] })
    (fun x a' _ X Y row hs hg hr => by
      obtain ⟨Bx, T, X1, M, h1, h2, h3, h4⟩ := hs
      exact ⟨Bx, T, X1, M, h1, h2, (hg.block Bx (heap_lt h3) (fun e => by
        obtain ⟨_, o', ho, hno⟩ := hr Bx e.symm
        rw [h3] at ho; cases ho; cases hno)).trans h3, h4⟩)
    ?assign ?body ?done ?stop
  case assign =>
    rintro l pre x W K ⟨hst, hsz, hpre⟩ hK
    obtain ⟨T, X, M, hel, he⟩ := elem_of cs x
    rw [he]
    gi_wp2
    exact hK _ _ ((KeepsOthers.alloc _ _).from _) ((KpB.refl _ _ W).alloc hst.below.size _) ⟨hst.more _, by simp; omega, hpre⟩ ⟨W.heap.size, T, X, M, hsz, hel, alloc_at _ _ _ rfl, rfl⟩
  case body =>
    rintro l pre x a' W hl ⟨r, hr⟩ ⟨hst, hsz, hpre⟩ ⟨Bx, T, X, M, hBx, hel, hbx, rfl⟩ hlt
    have k00 : W.cell? ⟨w.heap.size, 0, none⟩ = some (.int .i64 b) := hst.cell 0 0 rfl rfl
    have k30 : W.cell? ⟨w3.heap.size, 0, none⟩ = some (.int .i64 kk) := hst.cell 3 0 rfl rfl
    have x0 : W.cell? ⟨Bx, 0, none⟩ = some (.int .i64 X) := by rw [cellsAt hbx]; rfl
    have x1 : W.cell? ⟨Bx, 1, none⟩ = some (.int .i64 M) := by rw [cellsAt hbx]; rfl
    have htb := tot_bd (cs.take x.val) (fun c hc => HCS.out c (List.mem_of_mem_take hc))
    rw [← hel.1] at htb
    have hxl := x.isLt
    simp only [List.length_take] at htb
    have hm := HCS.out (X, M) (List.mem_of_getElem? hel.2)
    have hX := (HG.out.2.2.2.1 (X, M) (List.mem_of_getElem? hel.2)).1
    simp only at hm hX
    have hb2 := HG.out.1
    have hb8 := HG.out.2.1
    have HTT := Lib.hid (show tot (cs.take (x.val + 1)) = T + M by rw [tot_take cs x.val X M hel.2, hel.1])
    have HEL := Lib.hid hel
    have HST := Lib.hid hst
    have HPRE := Lib.hid hpre
    clear hel hst hbx hpre hr
    by_cases ht : kk ≤ T + M
    · gi_wp2_with fail
      refine ⟨trivial, ?_⟩
      gi_at_call 105
      refine (CallsIn.inRound l (callsIn_wide.2 (limits_any b X _ hb2 hb8 hX.1 hX.2))).mono ?_
      rintro e w5 ⟨rfl, d5, hw5⟩
      have HST6 := Lib.hid (show St w w5 _ by rw [hw5]; exact HST.out.drewN d5)
      have HKO := Lib.hid (show KeepsOthers W w5 by rw [hw5]; exact ⟨Nat.le_refl _, fun _ _ h _ => h⟩)
      clear hw5 k00 k30 x0 x1
      have k10 : w5.cell? ⟨w.heap.size + 1, 0, none⟩ = some (.int .i64 0) := HST6.out.cell 1 0 rfl rfl
      have z10 : w5.frozen? ⟨w.heap.size + 1, 0, none⟩ = false := HST6.out.frozen 1 0 rfl
      have k20 : w5.cell? ⟨w.heap.size + 1 + 1, 0, none⟩ = some (.int .i64 0) := HST6.out.cell 2 0 rfl rfl
      have z20 : w5.frozen? ⟨w.heap.size + 1 + 1, 0, none⟩ = false := HST6.out.frozen 2 0 rfl
      gi_wp2
      refine ⟨((HKO.out.trans (KeepsOthers.setCell _ _ _)).trans (KeepsOthers.setCell _ _ _)).from _, rfl, pre, x, X, M, rfl, HPRE.out, HEL.out.2, by rw [HTT.out]; exact ht, ?_⟩
      exact qBoxes_set2 (qBoxes_set1 HST6.out (by omega) _) (by omega) _
    · have ht' : T + M < kk := by omega
      gi_wp2
      refine ⟨KeepsFrom.refl _ _, KpB.refl _ _ _, HST.out, hsz, fun j hj => ?_⟩
      rcases List.mem_append.1 hj with h | h
      · exact HPRE.out j h
      · simp only [List.mem_singleton] at h
        subst h
        rw [HTT.out]; exact ht'
  case done =>
    rintro D ys W hD rfl ⟨hst, hsz, hall⟩ hK
    exfalso
    have h1 := hall ⟨cs.length - 1, by omega⟩ (by rw [List.take_of_length_le (by simp)]; exact List.mem_finRange _)
    simp only at h1
    rw [show cs.length - 1 + 1 = cs.length by omega, List.take_length, ← HTN.out, HKK.out] at h1
    have h2 := rnk_bd (n := tn) (num := num) (den := den) (by have := HTN.out; have := tot_bd cs HCS.out; omega) (by omega) (by omega) (by omega)
    omega
  case stop =>
    rintro D cd pre W hD ⟨k, hk, rfl⟩ ⟨rfl, ini, last, X, M, e1, e2, e3, e4, hst⟩ hK
    have HE1 := Lib.hid e1
    have HE2 := Lib.hid e2
    have HE3 := Lib.hid e3
    have HST := Lib.hid hst
    clear e1 e2 e3 hst
    have k10 : W.cell? ⟨w.heap.size + 1, 0, none⟩ = some (.int .i64 (loB b X)) := HST.out.cell 1 0 rfl rfl
    have z10 : W.frozen? ⟨w.heap.size + 1, 0, none⟩ = false := HST.out.frozen 1 0 rfl
    have k20 : W.cell? ⟨w.heap.size + 1 + 1, 0, none⟩ = some (.int .i64 (hiB b X)) := HST.out.cell 2 0 rfl rfl
    have z20 : W.frozen? ⟨w.heap.size + 1 + 1, 0, none⟩ = false := HST.out.frozen 2 0 rfl
    gi_wp2
    gi_region
    gi_wp2
    have HST7 := Lib.hid (qBoxes_set2 (qBoxes_set1 HST.out (by omega) (loB b X)) (by omega) (hiB b X)).drew
    have hK' := (KeepsOthers.drew _).same D _ ((KeepsOthers.setCell (W.setCell ⟨w.heap.size + 1, 0, none⟩ (.int .i64 (loB b X))) ⟨w.heap.size + 1 + 1, 0, none⟩ (.int .i64 (hiB b X))).same D _ ((KeepsOthers.setCell W ⟨w.heap.size + 1, 0, none⟩ (.int .i64 (loB b X))).same D _ hK rfl) rfl) rfl
    refine ⟨by simp, .inl ⟨_, _, rfl, run_takeDeferred hK', ?_⟩⟩
    have hc5 := cell_kept (HST7.out.cell 1 0 rfl rfl) (grownBy_putObj' _ D (.deferred none)) (fun r e => by cases e; exact ⟨_, hK', rfl⟩)
    have hc6 := cell_kept (HST7.out.cell 2 0 rfl rfl) (grownBy_putObj' _ D (.deferred none)) (fun r e => by cases e; exact ⟨_, hK', rfl⟩)
    have hcq : codeQ b cs num den = 0 := by unfold codeQ; rw [if_pos HCD.out, HQ.out, if_neg (by simp), if_neg (by omega)]
    refine ⟨.tuple #[.int .i64 (loB b X), .int .i64 (hiB b X), .int .i64 0], ?_, loB b X, hiB b X, by rw [hcq], fun _ => ⟨last.val, X, M, HE3.out, ?_, ?_, rfl, rfl⟩, fun h => absurd hcq h, HST7.out.below.trans (belowK_b (w := w) (Nat.le_refl _) _ D _ _ (by omega) hK' rfl rfl)⟩
    · simp [results, Tryz.f38, go_sem, hc5, hc6]
    · rw [← HTN.out, ← HKK.out]
      rcases Nat.eq_zero_or_pos last.val with h0 | h0
      · rw [h0, List.take_zero]
        have h2 := rnk_bd (n := tn) (num := num) (den := den) (by have := HTN.out; have := tot_bd cs HCS.out; omega) (by omega) (by omega) (by omega)
        rw [← HKK.out] at h2
        simp [tot]; omega
      · have h1 := HE2.out ⟨last.val - 1, by have := last.isLt; omega⟩ (fin_last HE1.out hk _ (by simp only; omega))
        simp only at h1
        rwa [show last.val - 1 + 1 = last.val by omega] at h1
    · rw [← HTN.out, ← HKK.out]; exact e4
end Go.Proofs.YtepfmoaihhonlaaGreatDoor
