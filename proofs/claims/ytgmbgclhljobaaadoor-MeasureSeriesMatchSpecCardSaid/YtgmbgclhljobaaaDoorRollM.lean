/- Roll of the program. -/
import Derived.Test.YtgmbgclhljobaaaDoorChunk
import Derived.Outline
import Derived.Maps.OwnIn
namespace Go.Proofs.YtgmbgclhljobaaaDoor
open Go Go.RowKit Go.Proofs Go.Shelf

attribute [local go_sem] Oper.semAt_some

/-- merged chunk by chunk, in any order of chunks -/
noncomputable def rlS (l : List Hg) (k : Nat) (st : Int × List (Int × List (Int × Int))) (m : Nat) : Int × List (Int × List (Int × Int)) :=
  if st.1 = 0 then (if (mgAll (csL (cut2 l (m * k) (m * k + k)))).1 = 0 then (0, st.2 ++ [(bitsL l, (mgAll (csL (cut2 l (m * k) (m * k + k)))).2)]) else ((mgAll (csL (cut2 l (m * k) (m * k + k)))).1, [])) else st
noncomputable def rlL (l : List Hg) (k : Nat) (ms : List Nat) : Int × List (Int × List (Int × Int)) := ms.foldl (rlS l k) (0, [])
theorem rlL_snoc (l : List Hg) (k : Nat) (ms : List Nat) (m : Nat) : rlL l k (ms ++ [m]) = rlS l k (rlL l k ms) m := by simp [rlL, List.foldl_append]
theorem rlL_range (l : List Hg) (k : Nat) : ∀ m, rlL l k (List.range m) = rl l k m
  | 0 => rfl
  | m + 1 => by rw [List.range_succ, rlL_snoc, rlL_range l k m]; rfl
theorem finRange_vals (n q : Nat) (h : q ≤ n) : ((List.finRange n).take q).map (·.val) = List.range q := by
  rw [List.map_take]
  have : (List.finRange n).map (·.val) = List.range n := by
    apply List.ext_getElem
    · simp
    · intro i h1 h2; simp
  rw [this, List.take_range, Nat.min_eq_left h]
theorem hgOwn_kept {W W' : World} {B0 base : Nat} {v : Value} {out : List Hg} {row : Option Nat} (h : HgOwn W B0 base v out) (hg : W.grownBy W' row) (hr : ∀ r, row = some r → ∃ o : Obj, W.heap[r]? = some o ∧ o.isCells = false) : HgOwn W' B0 base v out := by
  have hs := hg.size
  refine ⟨?_, fun x hx => ⟨(h.2 x hx).1, fun hn => ?_⟩⟩
  · refine ⟨h.1.1, ?_⟩
    rcases h.1.2 with h0 | ⟨g, cap, cur, hv, hb, hh, hr'⟩
    · exact .inl h0
    · refine .inr ⟨g, cap, cur, hv, hb, (hg.block g (heap_lt hh) (fun e => ?_)).trans hh, hr'⟩
      obtain ⟨o, ho, hno⟩ := hr g e.symm
      rw [hh] at ho; cases ho; cases hno
  · obtain ⟨b, o, e, hP, hc⟩ := (h.2 x hx).2 hn
    exact ⟨b, o, e, ⟨hP.1, by omega, hP.2.2⟩, fun j u hu => cell_kept (hc j u hu) hg hr⟩
theorem st_kept {w W W' : World} {bs : List (Nat × Obj)} {row : Option Nat} (h : St w W bs) (hc : ∀ x ∈ bs, x.2.isCells = true) (hg : W.grownBy W' row) (hr : ∀ r, row = some r → w.heap.size ≤ r ∧ ∃ o : Obj, W.heap[r]? = some o ∧ o.isCells = false) : St w W' bs := by
  refine ⟨h.below.grown hg h.below.size (fun k e => (hr k e).1), fun i b o hi => ?_⟩
  have hx := h.box i b o hi
  refine ⟨hx.1, (hg.block b (heap_lt hx.2) (fun e => ?_)).trans hx.2⟩
  obtain ⟨_, o', ho, hno⟩ := hr b e.symm
  rw [hx.2] at ho
  cases ho
  rw [hc _ (List.mem_of_getElem? hi)] at hno
  cases hno
/-- what a round keeps -/
def RoI (w w1 w4 : World) (W : Int) (A : Option Addr) (c k : Nat) (l : List Hg) (pre : List (Fin (nch l.length k))) (X : World) : Prop :=
  ∃ v out, St w X [(w.heap.size, Obj.cells #[Value.int .i64 W, Value.slice A l.length c] 49 (0, 0)), (w.heap.size + 1, Obj.cells #[Value.int .i64 0, Value.slice none 0 0] 49 (0, 0)), (w.heap.size + 1 + 1, Obj.cells #[Value.int .i64 0] 25 (0, 0)), (w1.heap.size, Obj.cells #[Value.int .i64 ((k : Int) * W), v] 49 (0, 0))] ∧ HgOwn X w.heap.size w4.heap.size v out ∧ w4.heap.size ≤ X.heap.size ∧ (rlL l k (pre.map (·.val))).1 = 0 ∧ absL out = (rlL l k (pre.map (·.val))).2 ∧ out.length = pre.length
/-- the loop was left by an error -/
def RoX (w w1 : World) (W : Int) (A : Option Addr) (c k : Nat) (l : List Hg) (cd : Code) (pre : List (Fin (nch l.length k))) (X : World) : Prop :=
  cd = .ret ∧ ∃ code v, code ≠ 0 ∧ (rlL l k (pre.map (·.val))).1 = code ∧ St w X [(w.heap.size, Obj.cells #[Value.int .i64 W, Value.slice A l.length c] 49 (0, 0)), (w.heap.size + 1, Obj.cells #[Value.int .i64 0, Value.slice none 0 0] 49 (0, 0)), (w.heap.size + 1 + 1, Obj.cells #[Value.int .i64 (code)] 25 (0, 0)), (w1.heap.size, Obj.cells #[Value.int .i64 ((k : Int) * W), v] 49 (0, 0))]
theorem st4_set {w X : World} {b0 b1 b2 b3 : Nat} {o0 o3 : Obj} {x y z u v q : Value} {t1 t2 : TypeId} (h : St w X [(b0, o0), (b1, .cells #[x, y] t1 (0, 0)), (b2, .cells #[z] t2 (0, 0)), (b3, o3)]) (h01 : b0 ≠ b1) (h02 : b0 ≠ b2) (h12 : b1 ≠ b2) (h31 : b3 ≠ b1) (h32 : b3 ≠ b2) :
    St w (((X.setCell ⟨b1, 0, none⟩ u).setCell ⟨b1, 1, none⟩ v).setCell ⟨b2, 0, none⟩ q) [(b0, o0), (b1, .cells #[u, v] t1 (0, 0)), (b2, .cells #[q] t2 (0, 0)), (b3, o3)] := by
  have g0 := h.box 0 _ _ rfl
  have g1 := h.box 1 _ _ rfl
  have g2 := h.box 2 _ _ rfl
  have g3 := h.box 3 _ _ rfl
  refine ⟨((h.below.setCell (p := ⟨b1, 0, none⟩) g1.1 _).setCell (p := ⟨b1, 1, none⟩) g1.1 _).setCell (p := ⟨b2, 0, none⟩) g2.1 _, fun i b o hi => ?_⟩
  rcases i with _ | _ | _ | _ | i
  · simp at hi; obtain ⟨rfl, rfl⟩ := hi
    exact ⟨g0.1, by simp [World.setCell, Array.getElem?_modify, g0.2, h01.symm, h02.symm]⟩
  · simp at hi; obtain ⟨rfl, rfl⟩ := hi
    exact ⟨g1.1, by simp [World.setCell, Array.getElem?_modify, g1.2, h12.symm]⟩
  · simp at hi; obtain ⟨rfl, rfl⟩ := hi
    exact ⟨g2.1, by simp [World.setCell, Array.getElem?_modify, g2.2, h12]⟩
  · simp at hi; obtain ⟨rfl, rfl⟩ := hi
    exact ⟨g3.1, by simp [World.setCell, Array.getElem?_modify, g3.2, h31.symm, h32.symm]⟩
  · simp at hi
theorem own_cells {W : World} {base : Nat} {e : TypeId} {k n : Nat} {v : Value} {xs : List Value} (h : W.ownsRow base e k v n xs) {i : Nat} (hi : some i = v.ownBlock) {o : Obj} (ho : W.heap[i]? = some o) : o.isCells = true := by
  rcases h.2 with ⟨rfl, _⟩ | ⟨g, cap, cur, rfl, _, hh, _⟩
  · cases hi
  · cases hi
    rw [hh] at ho; cases ho; rfl
theorem box_one {W : World} {b : Nat} {x : Value} {t : TypeId} (h : W.heap[b]? = some (.cells #[x] t (0, 0))) : W.cell? ⟨b, 0, none⟩ = some x ∧ W.frozen? ⟨b, 0, none⟩ = false := ⟨by rw [cellsAt h]; rfl, frozenAt h 0⟩

set_option maxHeartbeats 4000000 in
set_option maxRecDepth 100000 in
theorem Roll_main (W : Int) (A : Option Addr) (c : Nat) (l : List Hg) (k : Nat) (w : World) (hr : HgR w w.heap.size A l.length l) (hcs : ∀ h ∈ l, h.cs.length < 9223372036854775807 ∧ ∀ q ∈ h.cs, q.1 ≤ 9223372036854775807) (hlc : l.length ≤ c) (hc : codeSer W l = 0) (hb : ¬ badRoll W k) :
    Calls Tryd.prog 38 #[.agg #[.int .i64 W, .slice A l.length c], .int .i64 (k : Int)] w (SPost ((k : Int) * W) (rollOf l k).2 (codeRoll W l k) w) := by
  obtain ⟨hd, hd', hg⟩ := bitsL_good hc
  obtain ⟨hWW, hn2, _⟩ := codeSer_zero hc
  have hW1 : 1 ≤ W ∧ W ≤ 1000000000000 := by unfold badW at hWW; omega
  have hkk : 1 ≤ k ∧ k ≤ 2000 ∧ (k : Int) * W ≤ 1000000000000 := by unfold badRoll at hb; omega
  have hkw0 : 0 ≤ (k : Int) * W := Int.mul_nonneg (by omega) (by omega)
  have HC := Lib.hid (show codeRoll W l k = (rl l k (nch l.length k)).1 by unfold codeRoll rollOf; rw [if_neg (not_not_intro hc), if_neg hb]; simp)
  have HRO := Lib.hid (show rollOf l (k : Int) = rl l k (nch l.length k) by unfold rollOf; simp)
  have HG := Lib.hid hg
  obtain ⟨W0, hW0⟩ : ∃ W0, W0 = ((w.alloc (.cells #[Value.int .i64 W, Value.slice A l.length c] 49)).alloc (.cells #[Value.int .i64 0, Value.slice none 0 0] 49)).alloc (.cells #[Value.int .i64 0] 25) := ⟨_, rfl⟩
  have HST0 := Lib.hid (show St w W0 [(w.heap.size, Obj.cells #[Value.int .i64 W, Value.slice A l.length c] 49 (0, 0)), (w.heap.size + 1, Obj.cells #[Value.int .i64 0, Value.slice none 0 0] 49 (0, 0)), (w.heap.size + 1 + 1, Obj.cells #[Value.int .i64 0] 25 (0, 0))] by rw [hW0]; exact (((St.start w).alloc _ _ rfl).alloc _ _ (by simp)).alloc _ _ (by simp))
  have HCK := Lib.hid (CheckSeries_any W A c l W0 (hr.old HST0.out.below) (by omega) hcs)
  rw [hc] at HCK
  have HR := Lib.hid hr
  obtain ⟨ih0, hih, hhz0, hhz1, hhz2⟩ := info_parts Tryd.infoHg
  clear hr hcs hg hWW hc hb
  refine (callsIn_wide (n := 6)).1 ?_
  refine callsIn_of_wp_marks Tryd.func38 rfl trivial ?_ rfl
  simp only [Tryd.ntmps38, List.size_toArray, List.length_cons, List.length_nil, Nat.reduceAdd, Nat.reduceSub, Array.replicate_succ, Array.replicate_zero, List.push_toArray, List.append_toArray, List.nil_append, List.cons_append]
  gi_wp2_with fail
  rw [← hW0]
  clear hW0
  refine ⟨trivial, ?_⟩
  gi_at_call 31
  refine (callsIn_wide.2 HCK.out).mono ?_
  rintro e w1 ⟨rfl, hb1⟩
  clear HCK
  have HST1 := Lib.hid (HST0.out.call hb1)
  have hs1 := hb1.size
  obtain ⟨k00, k01, z00, z01, l0⟩ := HST1.out.two 0 rfl
  have hl2 : w.heap.size + 1 + 1 < w1.heap.size := HST1.out.lt 2 rfl
  clear hb1
  have d1 : decide ((k : Int) < 1) = false := by simp; omega
  have d2 : decide ((2000 : Int) < (k : Int)) = false := by simp; omega
  have d3 : decide (1000000000000 < (k : Int) * W) = false := by simp; omega
  obtain ⟨W3, hW3⟩ : ∃ W3, W3 = w1.alloc (.cells #[Value.int .i64 ((k : Int) * W), Value.slice none 0 0] 49) := ⟨_, rfl⟩
  have HST3 := Lib.hid (show St w W3 [(w.heap.size, Obj.cells #[Value.int .i64 W, Value.slice A l.length c] 49 (0, 0)), (w.heap.size + 1, Obj.cells #[Value.int .i64 0, Value.slice none 0 0] 49 (0, 0)), (w.heap.size + 1 + 1, Obj.cells #[Value.int .i64 0] 25 (0, 0)), (w1.heap.size, Obj.cells #[Value.int .i64 ((k : Int) * W), Value.slice none 0 0] 49 (0, 0))] by rw [hW3]; exact HST1.out.alloc _ _ rfl)
  gi_wp2_with fail
  rw [← hW3]
  clear hW3 k00 k01 z00 z01 l0
  refine ⟨trivial, ?_⟩
  gi_at_call 77
  refine (chunk_in _ A l.length c k hkk.1 W3).mono ?_
  rintro e w4 ⟨rfl, hw4⟩
  have HST4 := Lib.hid (show St w w4 [(w.heap.size, Obj.cells #[Value.int .i64 W, Value.slice A l.length c] 49 (0, 0)), (w.heap.size + 1, Obj.cells #[Value.int .i64 0, Value.slice none 0 0] 49 (0, 0)), (w.heap.size + 1 + 1, Obj.cells #[Value.int .i64 0] 25 (0, 0)), (w1.heap.size, Obj.cells #[Value.int .i64 ((k : Int) * W), Value.slice none 0 0] 49 (0, 0))] by rw [hw4]; exact (HST3.out.more _).more _)
  have HBS := Lib.hid (show w4.heap[W3.heap.size]? = some (.cells #[.slice A l.length c] 47 (0, 0)) by rw [hw4]; exact (Below.heap_alloc _ _ _ (by simp)).trans (alloc_at _ _ _ rfl))
  have HBK := Lib.hid (show w4.heap[W3.heap.size + 1]? = some (.cells #[.int .i64 (k : Int)] 3 (0, 0)) by rw [hw4]; exact alloc_at _ _ _ (by simp))
  have hs4 : W3.heap.size + 1 < w4.heap.size := by rw [hw4]; simp
  have hs3 : w1.heap.size < W3.heap.size := HST3.out.lt 3 rfl
  clear hw4
  gi_wp2_with fail
  refine wpIn_rangeFunc_ownH (w := w4) rfl (by omega) (gf := 84) (lb := #[.pointer (some ⟨W3.heap.size, 0, none⟩), .pointer (some ⟨W3.heap.size + 1, 0, none⟩)]) rfl trivial (enters_of Tryd.func84 (by kernel_rfl) rfl)
    (chunk_stops _ (by omega) W3.heap.size (W3.heap.size + 1) w.heap.size A l.length c k hn2 hlc hkk.1 hkk.2.1 w4 (by omega) HBS.out HBK.out) kpC_t (kpC_b (by omega)) (Below.refl _ _) (fun _ => rfl)
    (RoI w w1 w4 W A c k l) (RoX w w1 W A c k l)
    (fun pre X Y row hs hg hr => by
      obtain ⟨v, out, h1, h2, h3, h4, h5, h6⟩ := hs
      exact ⟨v, out, st_kept h1 (by simp [Obj.isCells]) hg (fun r e => ⟨by have := (hr r e).1; omega, (hr r e).2⟩), hgOwn_kept h2 hg (fun r e => (hr r e).2), Nat.le_trans h3 hg.size, h4, h5, h6⟩)
    (fun cd pre X Y row hs hg hr => by
      obtain ⟨h1, code, v, h2, h3, h4⟩ := hs
      exact ⟨h1, code, v, h2, h3, st_kept h4 (by simp [Obj.isCells]) hg (fun r e => ⟨by have := (hr r e).1; omega, (hr r e).2⟩)⟩)
    ⟨.slice none 0 0, [], HST4.out, HgOwn.nil, Nat.le_refl _, rfl, rfl, rfl⟩
    ?Ax ?hAx
    ?assign ?body ?done ?stop
  case Ax => exact fun x a' X => ∃ AC EN, AC = A.map (·.add (x.val * k * 2)) ∧ EN = min k (l.length - x.val * k) ∧ a' = { tmps := #[.agg #[.int .i64 W, .slice A l.length c], .int .i64 (k : Int), .pointer (some ⟨w.heap.size, 0, none⟩), undef, .pointer (some ⟨w.heap.size + 1, 0, none⟩), .pointer (some ⟨w.heap.size + 1 + 1, 0, none⟩), .int .i64 0, .pointer (some ⟨w1.heap.size, 0, none⟩), .slice AC EN EN, undef, undef, .agg #[.int .i64 W, .slice A l.length c], .int .i64 0, .int .i64 0, .bool false, undef, undef, .int .i64 (k : Int), .bool false, .bool false, .int .i64 (k : Int), .bool false, .bool false, .bool false, .int .i64 (k : Int), .pointer (some ⟨w.heap.size, 0, none⟩), .int .i64 W, .int .i64 ((k : Int) * W), .bool false, .bool false, undef, .int .i64 (k : Int), .pointer (some ⟨w.heap.size, 0, none⟩), .int .i64 W, .int .i64 ((k : Int) * W), .agg #[.int .i64 ((k : Int) * W), .slice none 0 0], .pointer (some ⟨w.heap.size, 1, none⟩), .slice A l.length c, .int .i64 (k : Int), .func (.func 84) #[] #[.pointer (some ⟨W3.heap.size, 0, none⟩), .pointer (some ⟨W3.heap.size + 1, 0, none⟩)], .slice AC EN EN, undef, undef, undef, undef, undef, undef, undef, undef, undef, undef, undef, undef, undef, undef, undef, undef, undef, undef], defers := [] }
  case hAx => exact fun x a' s X Y row hs hg hr => hs
  case assign =>
    intro lb pre x X K hI hK
    unfold encC
    gi_wp2
    exact hK _ _ (KeepsFrom.refl _ _) (KpC.refl _ _ _ _) hI ⟨_, _, rfl, rfl, rfl⟩
  case body =>
    rintro lb pre x a' X hl ⟨r, hr⟩ ⟨v, out, hst, how, hsz, hrl, hab, hol⟩ ⟨AC, EN, hAC, hEN, rfl⟩ hlt
    have hxk := (nch_lt (n := l.length) (k := k) (m := x.val) (by omega)).1 x.isLt
    have hchunk : ∀ Y, Below w.heap.size w Y → HgR Y Y.heap.size AC EN (cut2 l (x.val * k) (x.val * k + k)) := by
      intro Y hY
      have h1 := HR.out.old hY
      obtain ⟨b, o, hAe, _⟩ := h1.1.2 (show 0 < l.length by omega)
      rw [hAe] at h1
      have h2 := h1.part (i := x.val * k) (j := min (x.val * k + k) l.length) (by omega) (by omega)
      rw [hAC, hAe, Option.map_some, add_at _ rfl, hEN]
      have e1 : min (x.val * k + k) l.length - x.val * k = min k (l.length - x.val * k) := by omega
      have e2 : (l.take (min (x.val * k + k) l.length)).drop (x.val * k) = cut2 l (x.val * k) (x.val * k + k) := by unfold cut2; rw [← List.take_eq_take_min]
      rw [e1, e2] at h2
      exact h2
    have hEN2 : EN ≤ 2000 := by rw [hEN]; omega
    obtain ⟨mg, hmg⟩ : ∃ mg, mg = mgAll (csL (cut2 l (x.val * k) (x.val * k + k))) := ⟨_, rfl⟩
    have HBI := Lib.hid (bitsOf_any W A c l X (HR.out.old hst.below))
    have HMD := Lib.hid (fun Y (hY : Below w.heap.size w Y) => merged_any (bitsL l) AC EN EN (cut2 l (x.val * k) (x.val * k + k)) Y (hchunk Y hY) hEN2 hd hd' (fun h hh => by
      have := HG.out h (mem_cut2 hh)
      rw [this.2] at this; exact this.1))
    unfold MgPost at HMD
    rw [← hmg] at HMD
    have HST := Lib.hid hst
    have HOW := Lib.hid how
    have HRL := Lib.hid hrl
    have HAB := Lib.hid hab
    have HOL := Lib.hid hol
    have HMG := Lib.hid hmg
    obtain ⟨k00, k01, _, _, l0⟩ := hst.two 0 rfl
    have hl3 : w1.heap.size < X.heap.size := hst.lt 3 rfl
    clear hst how hrl hab hol hmg hchunk hAC hEN hr
    gi_wp2_with fail
    refine ⟨trivial, ?_⟩
    gi_at_call 73
    refine (CallsIn.inRound lb (callsIn_wide.2 HBI.out)).mono ?_
    rintro e w5 ⟨rfl, hb5⟩
    have HST5 := Lib.hid (HST.out.call hb5)
    have HB5 := Lib.hid hb5
    have hs5 := hb5.size
    clear HBI hb5 k00 k01 l0
    gi_wp2_with fail
    refine ⟨trivial, ?_⟩
    gi_at_call 75
    refine (CallsIn.inRound lb (callsIn_wide.2 ((HMD.out w5 HST5.out.below).mono (fun e w' h => h.form)))).mono ?_
    rintro e w6 ⟨b6, A6, n6, c6, rfl, hs6', hz6, hb6⟩
    have HST6 := Lib.hid (HST5.out.call hb6)
    have HS6 := Lib.hid hs6'
    have HB6 := Lib.hid (below_next HB5.out hb6)
    have hs6 := hb6.size
    obtain ⟨k10, k11, z10, z11, l1⟩ := HST6.out.two 1 rfl
    obtain ⟨k30, k31, z30, z31, l3⟩ := HST6.out.two 3 rfl
    obtain ⟨k20, z20⟩ := box_one (HST6.out.at 2 rfl)
    have l2 := HST6.out.lt 2 rfl
    clear hs6' hz6 hb6 HMD
    have HKO := Lib.hid (show KeepsOthers X w6 from ⟨HB6.out.size, fun i o h _ => (HB6.out.block i (heap_lt h)).trans h⟩)
    by_cases h0 : mg.1 = 0
    · obtain ⟨cs', hh, hd6, hn6, hrd6⟩ := HS6.out h0
      subst hn6
      replace hd6 := hd6.symm
      subst hd6
      have HRD := Lib.hid hrd6
      have HOW6 := Lib.hid (HOW.out.call HB6.out)
      have hl6 := HOW6.out.1
      have hvb : ∀ i, some i = v.ownBlock → w4.heap.size ≤ i ∧ i < X.heap.size := fun i hi => ownsRow_block HOW.out.1 hi
      have HVB := Lib.hid hvb
      have hcell : ∀ j u, [Value.int .i64 (bitsL l), .slice A6 cs'.length c6][j]? = some u → ((w6.alloc (.cells #[.int .i64 (bitsL l), .slice A6 cs'.length c6] 24)).alloc (.cells #[.int .i64 (bitsL l), .slice A6 cs'.length c6] 24)).cell? ((⟨w6.heap.size + 1, 0, none⟩ : Addr).add j) = some u := by
        have := cell_two_new (w6.alloc (.cells #[.int .i64 (bitsL l), .slice A6 cs'.length c6] 24)) (.int .i64 (bitsL l)) (.slice A6 cs'.length c6) 24
        simpa only [World.size_alloc] using this
      have HCELL := Lib.hid hcell
      have HRL2 := Lib.hid (show (rlL l k ((pre ++ [x]).map (·.val))).1 = 0 ∧ absL (out ++ [⟨bitsL l, A6, c6, cs'⟩]) = (rlL l k ((pre ++ [x]).map (·.val))).2 by
        have hmg := HMG.out
        have e2 : mg.2 = cs' := by
          have hg2 := mg_good (l := csL (cut2 l (x.val * k) (x.val * k + k))) hd hd' (fun y hy => by
            unfold csL at hy
            obtain ⟨h, hh, rfl⟩ := List.mem_map.1 hy
            have := HG.out h (mem_cut2 hh)
            rw [this.2] at this; exact this.1) (by rw [← hmg]; exact h0)
          rw [← hmg] at hg2
          exact IsHist.uniq hg2.hist hh
        rw [List.map_append, List.map_cons, List.map_nil, rlL_snoc]
        unfold rlS
        rw [if_pos HRL.out, ← hmg, if_pos h0, absL_snoc, HAB.out, e2]
        exact ⟨rfl, rfl⟩)
      have hpl : pre.length ≤ 2000 := by
        have : nch l.length k ≤ 2000 := by
          rcases Nat.lt_or_ge 2000 (nch l.length k) with h | h
          · have h1 := (nch_lt (n := l.length) (k := k) (m := 2000) (by omega)).1 h
            have := Nat.le_mul_of_pos_right 2000 (show 0 < k by omega)
            omega
          · exact h
        omega
      rw [h0]
      clear hcell hh hrd6 hvb HS6 h0
      gi_wp2_with (gi_at_builtin; refine wpListIn_append_own_at _ rfl (.tmp 53) (.tmp 55) 47 rfl w4.heap.size 24 ih0 _ 2 32 Tryd.underlying47 hih hhz0 hhz1 hhz2 rfl (by decide) v _ _ rfl ((hl6.alloc _).alloc _) ⟨w6.heap.size + 1, 0, none⟩ 1 1 [.int .i64 (bitsL l), .slice A6 cs'.length c6] rfl rfl HCELL.out (by simp [Value.oneCell']) ?c3 ?c4 ?c5 ?_)
      case c3 => have := HOL.out; unfold maxLen; omega
      case c4 => have := HOL.out; omega
      case c5 => simp; omega
      intro v' w7 hown' hgrow _ hat
      obtain ⟨g, cap, rfl, hgb, hgl, _, _⟩ := ownsRow_some hown' (by omega)
      have hat' : v.ownBlock = some g ∨ g = w6.heap.size + 1 + 1 := by
        rcases hat with h | h
        · exact .inl h.symm
        · right; have := Option.some.inj h; simpa using this
      have how7 := ((HOW6.out.fr (may := fun _ => False) (((Fr.refl _ w6).alloc (.cells #[.int .i64 (bitsL l), .slice A6 cs'.length c6] 24)).alloc (.cells #[.int .i64 (bitsL l), .slice A6 cs'.length c6] 24)) (fun _ _ h => absurd h (by simp))).app (x := ⟨bitsL l, A6, c6, cs'⟩) (RdP.of ((HRD.out.alloc (Nat.le_refl _) (.cells #[.int .i64 (bitsL l), .slice A6 cs'.length c6] 24)).alloc (by simp) _) (fun b h1 h2 => ⟨.inr (by omega), by simp; omega, fun hx => by have := HVB.out b hx; omega⟩)) hown' hgrow (by simpa using hat'))
      have st7 := (((HST6.out.more (.cells #[.int .i64 (bitsL l), .slice A6 cs'.length c6] 24)).more (.cells #[.int .i64 (bitsL l), .slice A6 cs'.length c6] 24)).fr (Fr.of_grown hgrow) (fun i b ob hi hm => by
        have := List.mem_of_getElem? hi
        simp only [List.mem_cons, Prod.mk.injEq, List.not_mem_nil, or_false] at this
        have := HVB.out b hm
        omega) (fun i hi => by have := HVB.out i hi; omega))
      have hfr7 : Fr (fun i => some i = v.ownBlock ∨ X.heap.size ≤ i) X w7 := Fr.trans (((Fr.of_below HB6.out).mono (fun i h1 h2 => .inr h2)).alloc _ |>.alloc _) (Fr.of_grown hgrow) (fun i _ h => .inl h)
      have HOW7 := Lib.hid how7
      have HST7 := Lib.hid st7
      have HFR7 := Lib.hid hfr7
      clear k10 k11 z10 z11 l1 k30 k31 z30 z31 l3 k20 z20 l2
      obtain ⟨k30, k31, z30, z31, l3⟩ := st7.two 3 rfl
      clear how7 st7 hfr7 hown' hgrow hat hat' hl6
      gi_wp2
      have hfin : Fr (fun i => i = w1.heap.size ∨ some i = v.ownBlock ∨ X.heap.size ≤ i) X (w7.setCell ⟨w1.heap.size, 1, none⟩ (.slice (some ⟨g, 0, none⟩) (out.length + 1) cap)) := (HFR7.out.mono (fun i _ h => .inr h)).setCell (p := ⟨w1.heap.size, 1, none⟩) (fun _ => .inl rfl) _
      refine ⟨⟨hfin.size, fun i o h1 h2 h3 => (hfin.block i (heap_lt h2) (fun hm => ?_)).trans h2⟩, ⟨hfin.below (by omega) (fun i hi hm => ?_), fun cc tt fz h2 => (hfin.block _ (heap_lt h2) (fun hm => ?_)).trans h2, fun cc tt fz h2 => (hfin.block _ (heap_lt h2) (fun hm => ?_)).trans h2⟩, ?_⟩
      · rcases hm with hm | hm | hm
        · omega
        · have := own_cells HOW.out.1 hm h2; rw [h3] at this; cases this
        · have := heap_lt h2; omega
      · rcases hm with hm | hm | hm
        · omega
        · have := HVB.out i hm; omega
        · omega
      · have := heap_lt h2
        rcases hm with hm | hm | hm
        · omega
        · have := HVB.out _ hm; omega
        · omega
      · have := heap_lt h2
        rcases hm with hm | hm | hm
        · omega
        · have := HVB.out _ hm; omega
        · omega
      · refine ⟨.slice (some ⟨g, 0, none⟩) (out.length + 1) cap, out ++ [⟨bitsL l, A6, c6, cs'⟩], ?_, ?_, by have := hfin.size; omega, HRL2.out.1, HRL2.out.2, by have := HOL.out; simp; omega⟩
        · exact St.setLast [(w.heap.size, Obj.cells #[Value.int .i64 W, Value.slice A l.length c] 49 (0, 0)), (w.heap.size + 1, Obj.cells #[Value.int .i64 0, Value.slice none 0 0] 49 (0, 0)), (w.heap.size + 1 + 1, Obj.cells #[Value.int .i64 0] 25 (0, 0))] 1 _ HST7.out (by simp; omega)
        · exact HOW7.out.fr (may := fun i => i = w1.heap.size) ((Fr.refl (fun i => i = w1.heap.size) w7).setCell (p := ⟨w1.heap.size, 1, none⟩) (fun _ => rfl) _) (fun i _ hi => by omega)
    · have tc : (mg.1 == 0) = false := by simpa using h0
      have tc' : (mg.1 != 0) = true := by simpa using h0
      have HMG1 := Lib.hid (show (rlL l k ((pre ++ [x]).map (·.val))).1 = mg.1 by
        rw [List.map_append, List.map_cons, List.map_nil, rlL_snoc]
        unfold rlS
        rw [if_pos HRL.out, ← HMG.out, if_neg h0])
      clear HS6
      generalize mg.1 = cd at *
      gi_wp2
      refine ⟨((((HKO.out.trans (KeepsOthers.setCell _ _ _)).trans (KeepsOthers.setCell _ _ _)).trans (KeepsOthers.setCell _ _ _)).trans (KeepsOthers.alloc _ _)).from _, rfl, cd, v, h0, HMG1.out, ?_⟩
      exact (st4_set HST6.out (by omega) (by omega) (by omega) (by omega) (by omega)).more _
  case done =>
    rintro D ys X hD rfl ⟨v, out, hst, how, hsz, hrl, hab, hol⟩ hK
    rw [finRange_vals _ _ (Nat.le_refl _), rlL_range] at hrl hab
    have HST := Lib.hid hst
    have HOW := Lib.hid how
    have HC2 := Lib.hid (HC.out.trans hrl)
    have HAB := Lib.hid (show absL out = (rollOf l (k : Int)).2 by rw [HRO.out]; exact hab)
    obtain ⟨Av, cv, hve, _⟩ := how.rd
    subst hve
    obtain ⟨k10, k11, z10, z11, l1⟩ := hst.two 1 rfl
    obtain ⟨k30, k31, z30, z31, l3⟩ := hst.two 3 rfl
    obtain ⟨k20, z20⟩ := box_one (hst.at 2 rfl)
    have l2 := hst.lt 2 rfl
    clear hst how hrl hab hol
    gi_wp2
    have HSF := Lib.hid (st4_set (u := .int .i64 ((k : Int) * W)) (v := .slice Av out.length cv) (q := .int .i64 0) HST.out (by omega) (by omega) (by omega) (by omega) (by omega))
    have hK' := (KeepsOthers.setCell ((X.setCell ⟨w.heap.size + 1, 0, none⟩ (.int .i64 ((k : Int) * W))).setCell ⟨w.heap.size + 1, 1, none⟩ (.slice Av out.length cv)) ⟨w.heap.size + 1 + 1, 0, none⟩ (.int .i64 0)).same D _ ((KeepsOthers.setCell (X.setCell ⟨w.heap.size + 1, 0, none⟩ (.int .i64 ((k : Int) * W))) ⟨w.heap.size + 1, 1, none⟩ (.slice Av out.length cv)).same D _ ((KeepsOthers.setCell X ⟨w.heap.size + 1, 0, none⟩ (.int .i64 ((k : Int) * W))).same D _ hK rfl) rfl) rfl
    refine ⟨by simp, .inl ⟨_, _, rfl, run_takeDeferred hK', ?_⟩⟩
    have hgp := grownBy_putObj' (((X.setCell ⟨w.heap.size + 1, 0, none⟩ (.int .i64 ((k : Int) * W))).setCell ⟨w.heap.size + 1, 1, none⟩ (.slice Av out.length cv)).setCell ⟨w.heap.size + 1 + 1, 0, none⟩ (.int .i64 0)) D (.deferred none)
    have hrow : ∀ r, some D = some r → ∃ o : Obj, (((X.setCell ⟨w.heap.size + 1, 0, none⟩ (.int .i64 ((k : Int) * W))).setCell ⟨w.heap.size + 1, 1, none⟩ (.slice Av out.length cv)).setCell ⟨w.heap.size + 1 + 1, 0, none⟩ (.int .i64 0)).heap[r]? = some o ∧ o.isCells = false := fun r e => by cases e; exact ⟨_, hK', rfl⟩
    have hc5 := cell_kept (HSF.out.cell 1 0 rfl rfl) hgp hrow
    have hc6 := cell_kept (HSF.out.cell 1 1 rfl rfl) hgp hrow
    have hc7 := cell_kept (HSF.out.cell 2 0 rfl rfl) hgp hrow
    have how8 := hgOwn_kept (HOW.out.fr (may := fun i => i = w.heap.size + 1 ∨ i = w.heap.size + 1 + 1) ((((Fr.refl (fun i => i = w.heap.size + 1 ∨ i = w.heap.size + 1 + 1) X).setCell (p := ⟨w.heap.size + 1, 0, none⟩) (fun _ => .inl rfl) (.int .i64 ((k : Int) * W))).setCell (p := ⟨w.heap.size + 1, 1, none⟩) (fun _ => .inl rfl) (.slice Av out.length cv)).setCell (p := ⟨w.heap.size + 1 + 1, 0, none⟩) (fun _ => .inr rfl) (.int .i64 0)) (fun i _ hi => by omega)) hgp hrow
    refine ⟨.tuple #[.agg #[.int .i64 ((k : Int) * W), .slice Av out.length cv], .int .i64 0], ?_, ⟨_, by rw [HC2.out], fun _ => ⟨Av, cv, out, rfl, ?_, HAB.out⟩, fun h => absurd HC2.out h, HSF.out.below.trans (belowK_b (w := w) (Nat.le_refl _) _ D _ _ (by omega) hK' rfl rfl)⟩⟩
    · simp [results, Tryd.f38, go_sem, hc5, hc6, hc7]
    · obtain ⟨A', c', e, h'⟩ := how8.rd
      cases e
      exact h'
  case stop =>
    rintro D cd pre X hD ⟨q, hq, rfl⟩ ⟨rfl, code, v, h0, hrl, hst⟩ hK
    rw [finRange_vals _ _ hq, rlL_range] at hrl
    have HC2 := Lib.hid (show codeRoll W l (k : Int) = code by rw [HC.out, rl_bad (m := q) (by rw [hrl]; exact h0) _ hq, hrl])
    have HST := Lib.hid hst
    clear hst hrl
    gi_wp2
    refine ⟨by simp, .inl ⟨_, _, rfl, run_takeDeferred hK, ?_⟩⟩
    have hgp := grownBy_putObj' X D (.deferred none)
    have hrow : ∀ r, some D = some r → ∃ o : Obj, X.heap[r]? = some o ∧ o.isCells = false := fun r e => by cases e; exact ⟨_, hK, rfl⟩
    have hc5 := cell_kept (HST.out.cell 1 0 rfl rfl) hgp hrow
    have hc6 := cell_kept (HST.out.cell 1 1 rfl rfl) hgp hrow
    have hc7 := cell_kept (HST.out.cell 2 0 rfl rfl) hgp hrow
    refine ⟨.tuple #[.agg #[.int .i64 0, .slice none 0 0], .int .i64 code], ?_, SPost.none h0 HC2.out (HST.out.below.trans (belowK_b (w := w) (Nat.le_refl _) _ D _ _ (by omega) hK rfl rfl))⟩
    simp [results, Tryd.f38, go_sem, hc5, hc6, hc7]
end Go.Proofs.YtgmbgclhljobaaaDoor
