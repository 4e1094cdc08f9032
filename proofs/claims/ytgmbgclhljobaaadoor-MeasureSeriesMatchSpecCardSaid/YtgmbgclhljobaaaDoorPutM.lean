/- Put of the program. -/
import Derived.Test.YtgmbgclhljobaaaDoorCopy
import Derived.Deep.RegionHeld3
import Derived.Deep.AppendLies
import Derived.StillTailTactics
import Derived.Deep.CutRange
namespace Go.Proofs.YtgmbgclhljobaaaDoor
open Go Go.RowKit Go.Proofs Go.Maps

/-- the cells ahead of the record -/
def padAt (l : List Hg) (i : Nat) : Int × List (Int × Int) := (bitsL l, cellC l i)
/-- how many cells the box of the new series has -/
def lenAt (b : Nat) (w : World) : Nat := match w.cell? ⟨b, 1, none⟩ with | some (.slice _ n _) => n | _ => 0
theorem lenAt_of {b n c : Nat} {A : Option Addr} {w : World} (h : w.cell? ⟨b, 1, none⟩ = some (.slice A n c)) : lenAt b w = n := by unfold lenAt; rw [h]
theorem hgCells_set (l : List Hg) (n : Nat) (x : Hg) (h : n < l.length) : hgCells (l.set n x) = ((hgCells l).set (n * 2) (.int .i64 x.b)).set (n * 2 + 1) (.slice x.A x.cs.length x.c) := by
  induction l generalizing n with
  | nil => simp at h
  | cons y l ih =>
    cases n with
    | zero => simp [hgCells]
    | succ n =>
      have := ih n (by simpa using h)
      rw [show (n + 1) * 2 = n * 2 + 1 + 1 by omega]
      simp only [hgCells, List.set_cons_succ, List.flatMap_cons] at *
      rw [this]
      simp
theorem range_map_set {β : Type} (f : Nat → β) (m n : Nat) (y : β) : ((List.range m).map f).set n y = (List.range m).map (fun i => if i = n then y else f i) := by
  apply List.ext_getElem?
  intro i
  rw [List.getElem?_set]
  by_cases e : n = i
  · subst e
    simp only [List.length_map, List.length_range, if_true, List.getElem?_map]
    by_cases h : n < m
    · simp [h]
    · simp [h]
  · have e' : ¬ i = n := fun h => e h.symm
    rw [if_neg e, List.getElem?_map, List.getElem?_map]
    by_cases h : i < m
    · simp [h, e']
    · simp [h]
theorem absL_set (l : List Hg) (n : Nat) (x : Hg) : absL (l.set n x) = (absL l).set n (x.b, x.cs) := by unfold absL; rw [List.map_set]
theorem HgOwn.put {w : World} {B0 base : Nat} {v : Value} {l : List Hg} {n : Nat} (h : HgOwn w B0 base v l) (hn : n < l.length) : ∃ g cap, v = .slice (some ⟨g, 0, none⟩) l.length cap ∧ g < w.heap.size ∧ base ≤ g ∧ (∀ j, w.frozen? ⟨g, j, none⟩ = false) ∧
    ∀ x : Hg, RdP w (fun b => (b < B0 ∨ base ≤ b) ∧ b < w.heap.size ∧ some b ≠ v.ownBlock) 2 x.A x.cs.length (cells2 x.cs) → HgOwn ((w.setCell ⟨g, n * 2, none⟩ (.int .i64 x.b)).setCell ⟨g, n * 2 + 1, none⟩ (.slice x.A x.cs.length x.c)) B0 base v (l.set n x) := by
  obtain ⟨h1, h2⟩ := h
  rcases h1.2 with ⟨_, h0⟩ | ⟨g, cap, cur, hv, hb, hh, hc1, hc2, hsz, htk⟩
  · omega
  · subst hv
    have hg := heap_lt hh
    refine ⟨g, cap, rfl, hg, hb, fun j => frozenAt hh j, fun x hx => ?_⟩
    have hcur : n * 2 + 1 < cur.size := by rw [hsz]; omega
    refine ⟨⟨by rw [hgCells_length], .inr ⟨g, cap, (cur.setIfInBounds (n * 2) (.int .i64 x.b)).setIfInBounds (n * 2 + 1) (.slice x.A x.cs.length x.c), by rw [List.length_set], hb, ?_, by rw [List.length_set]; exact hc1, hc2, by simpa using hsz, ?_⟩⟩, fun y hy => ?_⟩
    · simp [World.setCell, Array.getElem?_modify, hh]
    · rw [List.length_set, hgCells_set l n x hn, ← htk]
      simp only [Array.toList_setIfInBounds]
      rw [List.take_set, List.take_set]
    · have hk : ∀ z : Hg, RdP w (fun b => (b < B0 ∨ base ≤ b) ∧ b < w.heap.size ∧ some b ≠ (Value.slice (some ⟨g, 0, none⟩) l.length cap).ownBlock) 2 z.A z.cs.length (cells2 z.cs) → RdP ((w.setCell ⟨g, n * 2, none⟩ (.int .i64 x.b)).setCell ⟨g, n * 2 + 1, none⟩ (.slice x.A x.cs.length x.c)) (fun b => (b < B0 ∨ base ≤ b) ∧ b < ((w.setCell ⟨g, n * 2, none⟩ (.int .i64 x.b)).setCell ⟨g, n * 2 + 1, none⟩ (.slice x.A x.cs.length x.c)).heap.size ∧ some b ≠ (Value.slice (some ⟨g, 0, none⟩) l.length cap).ownBlock) 2 z.A z.cs.length (cells2 z.cs) := by
        intro z hz
        have hf : Fr (fun i => i = g) w ((w.setCell ⟨g, n * 2, none⟩ (.int .i64 x.b)).setCell ⟨g, n * 2 + 1, none⟩ (.slice x.A x.cs.length x.c)) := ((Fr.refl (fun i => i = g) w).setCell (p := ⟨g, n * 2, none⟩) (fun _ => rfl) _).setCell (p := ⟨g, n * 2 + 1, none⟩) (fun _ => rfl) _
        exact hz.keep (fun p hp => hf.cell hp.2.1 (fun e => hp.2.2 (by rw [e]; rfl))) (fun b hb => ⟨hb.1, by have := hf.size; omega, hb.2.2⟩)
      rcases List.mem_or_eq_of_mem_set hy with hy | rfl
      · exact hk y (h2 y hy)
      · exact hk _ hx

set_option maxHeartbeats 4000000 in
set_option maxRecDepth 100000 in
theorem Put_any (W : Int) (A : Option Addr) (c : Nat) (l : List Hg) (t x : Int) (w : World) (hr : HgR w w.heap.size A l.length l) (hn : l.length < 9223372036854775807) (hcs : ∀ h ∈ l, h.cs.length < 9223372036854775807 ∧ ∀ q ∈ h.cs, q.1 ≤ 9223372036854775807) :
    Calls Tryd.prog 34 #[.agg #[.int .i64 W, .slice A l.length c], .int .i64 t, .int .i64 x] w (SPost W (putAb l (t / W).toNat x) (codePut W l t x) w) := by
  obtain ⟨W0, hW0⟩ : ∃ W0, W0 = (w.alloc (.cells #[Value.int .i64 W, Value.slice A l.length c] 49)).alloc (.cells #[Value.int .i64 0, Value.slice none 0 0] 49) := ⟨_, rfl⟩
  have HST0 := Lib.hid (show St w W0 [(w.heap.size, Obj.cells #[Value.int .i64 W, Value.slice A l.length c] 49 (0, 0)), (w.heap.size + 1, Obj.cells #[Value.int .i64 0, Value.slice none 0 0] 49 (0, 0))] by rw [hW0]; exact ((St.start w).alloc _ _ rfl).alloc _ _ (by simp))
  have HCK := Lib.hid (CheckSeries_any W A c l W0 (hr.old HST0.out.below) hn hcs)
  have HR := Lib.hid hr
  obtain ⟨ih0, hih, hhz0, hhz1, hhz2⟩ := info_parts Tryd.infoHg
  clear hr hcs
  go_enter Tryd.func34, Tryd.ntmps34
  go_wp2_with fail
  rw [← hW0]
  clear hW0
  refine HCK.out.mono ?_
  rintro e w1 ⟨rfl, hb1⟩
  clear HCK
  have HST1 := Lib.hid (HST0.out.call hb1)
  have hs1 := hb1.size
  obtain ⟨k00, k01, z00, z01, l0⟩ := HST1.out.two 0 rfl
  obtain ⟨k10, k11, z10, z11, l1⟩ := HST1.out.two 1 rfl
  clear hb1
  by_cases hc : codeSer W l = 0
  · rw [hc]
    obtain ⟨hd, hd', hg⟩ := bitsL_good hc
    obtain ⟨hWW, hn2, _⟩ := codeSer_zero hc
    have hW1 : 1 ≤ W ∧ W ≤ 1000000000000 := by unfold badW at hWW; omega
    have hgc := cellC_good hd hd' hg
    have HGC := Lib.hid hgc
    have HG := Lib.hid hg
    clear hg hWW hgc
    by_cases hb : badAt t
    · have HC := Lib.hid (show codePut W l t x = 9 by unfold codePut; rw [if_neg (not_not_intro hc), if_pos hb])
      clear hc
      by_cases d1 : t < 0
      · have d1' : decide (t < 0) = true := by simpa using d1
        go_wp2
        refine bodyPost_ret (v := .tuple #[.agg #[.int .i64 0, .slice none 0 0], .int .i64 9]) (by simp [results, Tryd.results34, go_sem, k10, k11]) rfl (SPost.none (by omega) HC.out ?_)
        repeat (first | exact HST1.out.below | (refine Below.setCell ?_ (by dsimp only; omega) _))
      · have d1' : decide (t < 0) = false := by simpa using d1
        have d2' : decide (1000000000000 < t) = true := by unfold badAt at hb; simp; omega
        go_wp2
        refine bodyPost_ret (v := .tuple #[.agg #[.int .i64 0, .slice none 0 0], .int .i64 9]) (by simp [results, Tryd.results34, go_sem, k10, k11]) rfl (SPost.none (by omega) HC.out ?_)
        repeat (first | exact HST1.out.below | (refine Below.setCell ?_ (by dsimp only; omega) _))
    · have d1' : decide (t < 0) = false := by unfold badAt at hb; simp; omega
      have d2' : decide (1000000000000 < t) = false := by unfold badAt at hb; simp; omega
      have ht : 0 ≤ t ∧ t ≤ 1000000000000 := by unfold badAt at hb; omega
      have hq0 : 0 ≤ t / W := Int.ediv_nonneg (by omega) (by omega)
      have hq1 : t / W ≤ t := Int.ediv_le_self _ (by omega)
      have hdiv : t.tdiv W = t / W := Int.tdiv_eq_ediv_of_nonneg (by omega)
      have hW0' : ¬ W = 0 := by omega
      by_cases hbig : 2000 ≤ t / W
      · have HC := Lib.hid (show codePut W l t x = 3 by unfold codePut; rw [if_neg (not_not_intro hc), if_neg hb, if_pos hbig])
        have d3' : decide (2000 ≤ t / W) = true := by simpa using hbig
        clear hc hb
        go_wp2
        refine bodyPost_ret (v := .tuple #[.agg #[.int .i64 0, .slice none 0 0], .int .i64 3]) (by simp [results, Tryd.results34, go_sem, k10, k11]) rfl (SPost.none (by omega) HC.out ?_)
        repeat (first | exact HST1.out.below | (refine Below.setCell ?_ (by dsimp only; omega) _))
      · have HC := Lib.hid (show codePut W l t x = codeR (bitsL l) (cellC l (t / W).toNat) x 1 by unfold codePut; rw [if_neg (not_not_intro hc), if_neg hb, if_neg hbig])
        have d3' : decide (2000 ≤ t / W) = false := by simpa using hbig
        obtain ⟨n, hnq⟩ : ∃ n : Nat, t / W = (n : Int) := ⟨(t / W).toNat, by omega⟩
        rw [hnq] at hbig d3' hdiv HC ⊢
        have hnq' : t / W = (n : Int) := hnq
        simp only [Int.toNat_natCast] at HC ⊢
        have hn3 : n < 2000 := by omega
        have hl1w : w.heap.size + 1 < w1.heap.size := l1
        clear hc hb hnq hbig hq0 hq1
        go_wp2
        go_loopw [11, 41] (fun _ iv wr => ∃ (i : Nat) (v : Value) (out : List Hg), i ≤ l.length ∧ iv = .int .i64 (i : Int) ∧ absL out = (List.range i).map (padAt l) ∧ St w wr [(w.heap.size, Obj.cells #[Value.int .i64 W, Value.slice A l.length c] 49 (0, 0)), (w.heap.size + 1, Obj.cells #[Value.int .i64 0, Value.slice none 0 0] 49 (0, 0)), (w1.heap.size, Obj.cells #[Value.int .i64 W, v] 49 (0, 0))] ∧ HgOwn wr w.heap.size (w1.heap.size + 1) v out ∧ out.length = i) (fun _ iv _ => l.length - (intOf iv).toNat)
        case atStart => exact ⟨0, .slice none 0 0, [], Nat.zero_le _, rfl, rfl, HST1.out.alloc _ _ rfl, HgOwn.nil, rfl⟩
        case round =>
          obtain ⟨i, v, out, hi, rfl, hab, hst, how, hol⟩ := hrel
          have HST := Lib.hid hst
          have HOW := Lib.hid how
          have HAB := Lib.hid hab
          have HOL := Lib.hid hol
          clear k00 k01 z00 z01 l0 k10 k11 z10 z11 l1
          obtain ⟨k00, k01, _, _, l0⟩ := hst.two 0 rfl
          obtain ⟨k10, k11, z10, z11, l1⟩ := hst.two 1 rfl
          obtain ⟨k20, k21, z20, z21, l2⟩ := hst.two 2 rfl
          have hw1r : w1.heap.size < wr.heap.size := l2
          clear hst how hab hol
          by_cases hil : i < l.length
          · obtain ⟨bk, o, ⟨sb, sA, sc, scs⟩, hAe, hbk, hs, q0, q1, hrs⟩ := (HR.out.old HST.out.below).at hil
            simp only at q0 q1 hrs
            obtain ⟨hgs, hsb⟩ := HG.out _ (List.mem_of_getElem? hs)
            simp only at hsb hgs
            subst hAe
            replace hsb := hsb.symm
            subst hsb
            have hst : (bitsL l, scs) = padAt l i := by unfold padAt; rw [cellC_get hs]
            have HSTEP := Lib.hid hst
            have hbkn : bk ≠ wr.heap.size := by omega
            obtain ⟨W2, hW2⟩ : ∃ W2, W2 = wr.alloc (.cells #[.int .i64 (bitsL l), .slice sA scs.length sc] 24) := ⟨_, rfl⟩
            have hb2 : Below wr.heap.size wr W2 := by rw [hW2]; exact (Below.refl _ wr).alloc (Nat.le_refl _) _
            have hs2 : W2.heap.size = wr.heap.size + 1 := by rw [hW2]; simp
            have HST2 := Lib.hid (show St w W2 [(w.heap.size, Obj.cells #[Value.int .i64 W, Value.slice (some ⟨bk, o, none⟩) l.length c] 49 (0, 0)), (w.heap.size + 1, Obj.cells #[Value.int .i64 0, Value.slice none 0 0] 49 (0, 0)), (w1.heap.size, Obj.cells #[Value.int .i64 W, v] 49 (0, 0)), (wr.heap.size, Obj.cells #[Value.int .i64 (bitsL l), Value.slice sA scs.length sc] 24 (0, 0))] by rw [hW2]; exact HST.out.alloc _ _ rfl)
            have HOW2 := Lib.hid (HOW.out.call hb2)
            have HCO := Lib.hid (fun X (hb : Below W2.heap.size W2 X) => copyOf_any (bitsL l) sA sc scs X (hrs.old (below_next hb2 hb)) (by have := hgs.2.2.1; omega))
            clear hst hs hrs hgs
            go_wp2_with fail
            rw [← hW2]
            clear hW2 q0 q1 k00 k01 l0 k10 k11 z10 z11 l1 k20 k21 z20 z21 l2
            obtain ⟨k00, k01, _, _, l0⟩ := HST2.out.two 0 rfl
            obtain ⟨k10, k11, z10, z11, l1⟩ := HST2.out.two 1 rfl
            obtain ⟨k20, k21, z20, z21, l2⟩ := HST2.out.two 2 rfl
            obtain ⟨k30, k31, z30, z31, l3⟩ := HST2.out.two 3 rfl
            have hw1n : w1.heap.size ≠ wr.heap.size := by omega
            have hvb : ∀ i, some i = v.ownBlock → w1.heap.size + 1 ≤ i ∧ i < wr.heap.size := fun i hi => ownsRow_block HOW.out.1 hi
            have HVB := Lib.hid hvb
            clear hvb
            go_region_law
              (first
                | (go_simp; go_at_call 72; refine (HCO.out _ ?_).mono ?_; (first | exact Below.refl _ W2 | exact (Below.refl _ W2).drew); rintro e w3 ⟨A3, rfl, hrd3, hbC⟩; have hb3 : Below W2.heap.size W2 w3 := below_next (by first | exact Below.refl _ W2 | exact (Below.refl _ W2).drew) hbC; have hrd3' : Rd w3 (W2.heap.size + 1 + 1) w3.heap.size 2 A3 scs.length (cells2 scs) := hrd3; have hs3 : W2.heap.size ≤ w3.heap.size := hb3.size; have hw13 : w1.heap.size < w3.heap.size := Nat.lt_of_lt_of_le l2 hs3; have hw13' : w1.heap.size ≠ w3.heap.size := Nat.ne_of_lt hw13; have hwr3 : wr.heap.size < w3.heap.size := Nat.lt_of_lt_of_le l3 hs3; have hwr3' : wr.heap.size ≠ w3.heap.size := Nat.ne_of_lt hwr3; have s30 := (HST2.out.call hb3).cell 3 0 rfl rfl; have s31 := (HST2.out.call hb3).cell 3 1 rfl rfl; have s21 := (HST2.out.call hb3).cell 2 1 rfl rfl; have y21 := (HST2.out.call hb3).frozen 2 1 rfl; try go_simp)
                | (refine step_append_lies _ (by rfl) _ _ _ (by rfl) (w1.heap.size + 1) 24 ih0 _ 2 32 Tryd.underlying47 hih hhz0 hhz1 hhz2 rfl (by omega) v _ _ (by rfl) (by first | exact (HOW2.out.call hb3).1.alloc _ | exact ((HOW2.out.call hb3).1.alloc _).drew) ⟨w3.heap.size, 0, none⟩ 1 1 [.int .i64 (bitsL l), .slice A3 scs.length scs.length] (by rfl) (by rfl) (World.news_of_block (cs := #[.int .i64 (bitsL l), .slice A3 scs.length scs.length]) (t := 24) (fr := (0, 0)) (heap_alloc_new w3 _)) (by simp [Value.oneCell']) (by omega) (by have := HOL.out; unfold maxLen; omega) (by have := HOL.out; omega) (by simp; omega) (w3.heap.size + 1) (by simp) ?_; intro g cap w4 hown' hgrow hat hlt4; have s40 : w4.cell? ⟨wr.heap.size, 0, none⟩ = some (.int .i64 (bitsL l)) := (hgrow.cell_far _ (by simp; omega) (fun h => by have := HVB.out _ h; dsimp only at this; omega)).trans (by first | exact ((HST2.out.call hb3).more _).cell 3 0 rfl rfl | exact ((HST2.out.call hb3).more _).drew.cell 3 0 rfl rfl); have s41 : w4.cell? ⟨wr.heap.size, 1, none⟩ = some (.slice sA scs.length sc) := (hgrow.cell_far _ (by simp; omega) (fun h => by have := HVB.out _ h; dsimp only at this; omega)).trans (by first | exact ((HST2.out.call hb3).more _).cell 3 1 rfl rfl | exact ((HST2.out.call hb3).more _).drew.cell 3 1 rfl rfl); have s42 : w4.cell? ⟨w1.heap.size, 1, none⟩ = some v := (hgrow.cell_far _ (by simp; omega) (fun h => by have := HVB.out _ h; dsimp only at this; omega)).trans (by first | exact ((HST2.out.call hb3).more _).cell 2 1 rfl rfl | exact ((HST2.out.call hb3).more _).drew.cell 2 1 rfl rfl); have y42 : w4.frozen? ⟨w1.heap.size, 1, none⟩ = false := (hgrow.frozen_far _ (by simp; omega) (fun h => by have := HVB.out _ h; dsimp only at this; omega)).trans (by first | exact ((HST2.out.call hb3).more _).frozen 2 1 rfl | exact ((HST2.out.call hb3).more _).drew.frozen 2 1 rfl)))
            all_goals
              have hgrow' : (w3.alloc (.cells #[.int .i64 (bitsL l), .slice A3 scs.length scs.length] 24)).grownBy w4 v.ownBlock := ⟨hgrow.os, hgrow.tape, hgrow.output, hgrow.size, hgrow.block⟩
              have how6 := ((HOW2.out.call hb3).fr (may := fun _ => False) ((Fr.refl _ w3).alloc (.cells #[.int .i64 (bitsL l), .slice A3 scs.length scs.length] 24)) (fun _ _ h => absurd h (by simp))).app (x := ⟨bitsL l, A3, scs.length, scs⟩) (RdP.of (hrd3'.alloc (Nat.le_refl _) _) (fun b h1 h2 => ⟨.inr (by omega), by simp; omega, fun hx => by have := HVB.out b hx; omega⟩)) hown' hgrow' (by simpa using hat)
              have st4 := (((HST2.out.call hb3).more (.cells #[.int .i64 (bitsL l), .slice A3 scs.length scs.length] 24)).take 3).fr (Fr.of_grown hgrow') (fun i b ob hi hm => by
                have := List.mem_of_getElem? hi
                simp only [List.take_succ_cons, List.take_zero, List.mem_cons, Prod.mk.injEq, List.not_mem_nil, or_false] at this
                have := HVB.out b hm
                omega) (fun i hi => by have := HVB.out i hi; omega)
              have HOW6 := Lib.hid how6
              have HST4 := Lib.hid st4
              clear how6 st4 hown' hgrow hgrow' hat hrd3 hrd3'
              go_wp2
              go_roundw
              case rel =>
                refine ⟨i + 1, .slice (some ⟨g, 0, none⟩) (out.length + 1) cap, out ++ [⟨bitsL l, A3, scs.length, scs⟩], by omega, by go_num, by rw [absL_snoc, HAB.out, range_map_snoc, HSTEP.out], ?_, ?_, by have := HOL.out; simp; omega⟩
                · exact St.setLast [(w.heap.size, Obj.cells #[Value.int .i64 W, Value.slice (some ⟨bk, o, none⟩) l.length c] 49 (0, 0)), (w.heap.size + 1, Obj.cells #[Value.int .i64 0, Value.slice none 0 0] 49 (0, 0))] 1 _ HST4.out (by simp; omega)
                · exact HOW6.out.fr (may := fun i => i = w1.heap.size) ((Fr.refl (fun i => i = w1.heap.size) w4).setCell (p := ⟨w1.heap.size, 1, none⟩) (fun _ => rfl) _) (fun i _ hi => by omega)
              case measure => simp [intOf]; omega
          · obtain ⟨wo, hwo⟩ : ∃ wo : World, wo = wr := ⟨_, rfl⟩
            subst hwo
            obtain rfl : i = l.length := by omega
            go_wp2
            go_loopw [] (fun wr => ∃ (v : Value) (out : List Hg), l.length ≤ out.length ∧ out.length ≤ putN l n ∧ absL out = (List.range out.length).map (padAt l) ∧ St w wr [(w.heap.size, Obj.cells #[Value.int .i64 W, Value.slice A l.length c] 49 (0, 0)), (w.heap.size + 1, Obj.cells #[Value.int .i64 0, Value.slice none 0 0] 49 (0, 0)), (w1.heap.size, Obj.cells #[Value.int .i64 W, v] 49 (0, 0))] ∧ HgOwn wr w.heap.size (w1.heap.size + 1) v out) (fun wr => 5000 - lenAt w1.heap.size wr)
            case atStart => exact ⟨v, out, by have := HOL.out; omega, by have := HOL.out; unfold putN; omega, by rw [HAB.out, HOL.out], HST.out, HOW.out⟩
            case round =>
              clear k00 k01 l0 k10 k11 z10 z11 l1 k20 k21 z20 z21 l2 HST HOW HAB HOL
              obtain ⟨v, out, ho1, ho2, hab, hst, how⟩ := hrel
              obtain ⟨Av, cv, hve, _⟩ := how.rd
              subst hve
              have HST := Lib.hid hst
              have HOW := Lib.hid how
              have HAB := Lib.hid hab
              obtain ⟨k00, k01, z00, z01, l0⟩ := hst.two 0 rfl
              obtain ⟨k10, k11, z10, z11, l1⟩ := hst.two 1 rfl
              obtain ⟨k20, k21, z20, z21, l2⟩ := hst.two 2 rfl
              have hw1r2 : w1.heap.size < wr.heap.size := l2
              have hpn : putN l n ≤ 2000 := by unfold putN; omega
              have HLN := Lib.hid (lenAt_of k21)
              clear hst how hab
              by_cases hle : out.length ≤ n
              · have td : decide ((out.length : Int) ≤ (n : Int)) = true := by simp; omega
                have hcc := cellC_none (l := l) (i := out.length) (by omega)
                have HSTEP := Lib.hid (show (bitsL l, ([] : List (Int × Int))) = padAt l out.length by unfold padAt; rw [hcc])
                have HBI := Lib.hid (fun X (hb : Below wr.heap.size wr X) => bitsOf_any W A c l X (HR.out.old (HST.out.old hb)))
                have hvb : ∀ i, some i = (Value.slice Av out.length cv).ownBlock → w1.heap.size + 1 ≤ i ∧ i < wr.heap.size := fun i hi => ownsRow_block HOW.out.1 hi
                have HVB := Lib.hid hvb
                clear hvb hcc
                go_wp2
                go_quiet (fail)
                go_wp2
                obtain ⟨X, hX⟩ : ∃ X, X = wr.drewN nq := ⟨_, rfl⟩
                have hbX : Below wr.heap.size wr X := by rw [hX]; exact below_drewN (Below.refl _ _) _
                have hsX : X.heap.size = wr.heap.size := by rw [hX]; rfl
                have HSTX := Lib.hid (HST.out.call hbX)
                have HOWX := Lib.hid (HOW.out.call hbX)
                rw [← hX]
                clear hX k00 k01 z00 z01 l0 k10 k11 z10 z11 l1 k20 k21 z20 z21 l2
                obtain ⟨k00, k01, z00, z01, l0⟩ := HSTX.out.two 0 rfl
                obtain ⟨k10, k11, z10, z11, l1⟩ := HSTX.out.two 1 rfl
                obtain ⟨k20, k21, z20, z21, l2⟩ := HSTX.out.two 2 rfl
                go_region_law
                  (first
                    | (go_simp; go_at_call 73; refine (HBI.out _ ?_).mono ?_; (first | exact hbX.drew | exact hbX); rintro e w3 ⟨rfl, hbC⟩; have hb3 : Below X.heap.size X w3 := below_next (by first | exact Below.refl _ X | exact (Below.refl _ X).drew) hbC; have hs3 : X.heap.size ≤ w3.heap.size := hb3.size; have hw13 : w1.heap.size < w3.heap.size := Nat.lt_of_lt_of_le l2 hs3; have hw13' : w1.heap.size ≠ w3.heap.size := Nat.ne_of_lt hw13; have s21 := (HSTX.out.call hb3).cell 2 1 rfl rfl; have y21 := (HSTX.out.call hb3).frozen 2 1 rfl; try go_simp)
                    | (refine step_append_lies _ (by rfl) _ _ _ (by rfl) (w1.heap.size + 1) 24 ih0 _ 2 32 Tryd.underlying47 hih hhz0 hhz1 hhz2 rfl (by omega) (.slice Av out.length cv) _ _ (by rfl) (by first | exact (HOWX.out.call hb3).1.alloc _ | exact ((HOWX.out.call hb3).1.alloc _).drew) ⟨w3.heap.size, 0, none⟩ 1 1 [.int .i64 (bitsL l), .slice none 0 0] (by rfl) (by rfl) (World.news_of_block (cs := #[.int .i64 (bitsL l), .slice none 0 0]) (t := 24) (fr := (0, 0)) (heap_alloc_new w3 _)) (by simp [Value.oneCell']) (by omega) (by unfold maxLen; omega) (by omega) (by simp; omega) (w3.heap.size + 1) (by simp) ?_; intro g cap w4 hown' hgrow hat hlt4; have s42 : w4.cell? ⟨w1.heap.size, 1, none⟩ = some (.slice Av out.length cv) := (hgrow.cell_far _ (by simp; omega) (fun h => by have := HVB.out _ h; dsimp only at this; omega)).trans (by first | exact ((HSTX.out.call hb3).more _).cell 2 1 rfl rfl | exact ((HSTX.out.call hb3).more _).drew.cell 2 1 rfl rfl); have y42 : w4.frozen? ⟨w1.heap.size, 1, none⟩ = false := (hgrow.frozen_far _ (by simp; omega) (fun h => by have := HVB.out _ h; dsimp only at this; omega)).trans (by first | exact ((HSTX.out.call hb3).more _).frozen 2 1 rfl | exact ((HSTX.out.call hb3).more _).drew.frozen 2 1 rfl)))
                all_goals
                  have hgrow' : (w3.alloc (.cells #[.int .i64 (bitsL l), .slice none 0 0] 24)).grownBy w4 (Value.slice Av out.length cv).ownBlock := ⟨hgrow.os, hgrow.tape, hgrow.output, hgrow.size, hgrow.block⟩
                  have how6 := ((HOWX.out.call hb3).fr (may := fun _ => False) ((Fr.refl _ w3).alloc (.cells #[.int .i64 (bitsL l), .slice none 0 0] 24)) (fun _ _ h => absurd h (by simp))).app (x := ⟨bitsL l, none, 0, []⟩) ⟨rfl, fun h => absurd h (by simp)⟩ hown' hgrow' (by simpa using hat)
                  have st4 := ((HSTX.out.call hb3).more (.cells #[.int .i64 (bitsL l), .slice none 0 0] 24)).fr (Fr.of_grown hgrow') (fun i b ob hi hm => by
                    have := List.mem_of_getElem? hi
                    simp only [List.mem_cons, Prod.mk.injEq, List.not_mem_nil, or_false] at this
                    have := HVB.out b hm
                    omega) (fun i hi => by have := HVB.out i hi; omega)
                  have HOW6 := Lib.hid how6
                  have HST4 := Lib.hid st4
                  have hl4 := st4.lt 2 rfl
                  clear how6 st4 hown' hgrow hgrow' hat
                  go_wp2
                  go_roundw
                  case rel =>
                    refine ⟨.slice (some ⟨g, 0, none⟩) (out.length + 1) cap, out ++ [⟨bitsL l, none, 0, []⟩], by simp; omega, by simp; unfold putN; omega, by rw [absL_snoc, HAB.out, List.length_append, List.length_singleton, range_map_snoc, HSTEP.out], ?_, ?_⟩
                    · exact St.setLast [(w.heap.size, Obj.cells #[Value.int .i64 W, Value.slice A l.length c] 49 (0, 0)), (w.heap.size + 1, Obj.cells #[Value.int .i64 0, Value.slice none 0 0] 49 (0, 0))] 1 _ HST4.out (by simp; omega)
                    · exact HOW6.out.fr (may := fun i => i = w1.heap.size) ((Fr.refl (fun i => i = w1.heap.size) w4).setCell (p := ⟨w1.heap.size, 1, none⟩) (fun _ => rfl) _) (fun i _ hi => by omega)
                  case measure =>
                    rw [HLN.out, lenAt_of (A := some ⟨g, 0, none⟩) (n := out.length + 1) (c := cap) ((St.setLast [(w.heap.size, Obj.cells #[Value.int .i64 W, Value.slice A l.length c] 49 (0, 0)), (w.heap.size + 1, Obj.cells #[Value.int .i64 0, Value.slice none 0 0] 49 (0, 0))] 1 (.slice (some ⟨g, 0, none⟩) (out.length + 1) cap) HST4.out (by simp; omega)).cell 2 1 rfl rfl)]
                    omega
              · have td : decide ((out.length : Int) ≤ (n : Int)) = false := by simp; omega
                have hnl : n < out.length := by omega
                have hlen : out.length = putN l n := by unfold putN at *; omega
                have HLEN := Lib.hid hlen
                obtain ⟨g, cap, hve, hgw, hgb, hgf, hput⟩ := HOW.out.put hnl
                have hA2 : Av = some ⟨g, 0, none⟩ ∧ cv = cap := by injection hve with e1 _ e2; exact ⟨e1, e2⟩
                obtain ⟨rfl, rfl⟩ := hA2
                obtain ⟨A', c', e', hrv⟩ := HOW.out.rd
                cases e'
                obtain ⟨b', o', ⟨sb, sA, sc, scs⟩, e', hbb, hs, q0, q1, hrs⟩ := hrv.at hnl
                cases e'
                simp only [Nat.zero_add] at q0 q1 hrs
                have hpad : sb = bitsL l ∧ scs = cellC l n := by
                  have h1 : (absL out)[n]? = some (sb, scs) := by unfold absL; rw [List.getElem?_map, hs]; rfl
                  rw [HAB.out, List.getElem?_map, List.getElem?_range hnl] at h1
                  simp only [Option.map_some, Option.some.injEq, padAt, Prod.mk.injEq] at h1
                  exact ⟨h1.1.symm, h1.2.symm⟩
                obtain ⟨hsb, hscs⟩ := hpad
                have HSCS := Lib.hid hscs
                subst hsb
                have hgn := HGC.out n
                rw [← hscs] at hgn
                have HPUT := Lib.hid hput
                have HGF := Lib.hid hgf
                have HCD := Lib.hid (show codePut W l t x = codeR (bitsL l) scs x 1 by rw [HC.out, hscs])
                have hnI : (n : Int) < (out.length : Int) := by omega
                have hnI0 : (0 : Int) ≤ (n : Int) := by omega
                have hwn : IntKind.i64.wrap (n : Int) = (n : Int) := IntWalk.i64_in _ (by omega)
                have hwq : IntKind.i64.wrap (t.tdiv W) = (n : Int) := by rw [hdiv]; exact hwn
                clear hs hscs hput hgf hve hrv hlen
                go_wp2
                go_quiet (fail)
                go_upto_region 16 with fail
                obtain ⟨X, hX⟩ : ∃ X, X = wr.drewN nq := ⟨_, rfl⟩
                have hbX : Below wr.heap.size wr X := by rw [hX]; exact below_drewN (Below.refl _ _) _
                have hsX : X.heap.size = wr.heap.size := by rw [hX]; rfl
                have HSTX := Lib.hid (HST.out.call hbX)
                have HOWX := Lib.hid (HOW.out.call hbX)
                have HRC := Lib.hid (fun W' (hb : Below X.heap.size X W') => (Record_any (bitsL l) sA sc scs x 1 W' ((hrs.old hbX).old hb) (by have := hgn.2.2.1; omega) (fun q hq => by have := (hgn.2.2.2.1 q hq).1; have := maxB_bd _ hd hd'; omega) (by unfold I64; omega)).mono (fun e w' h => h.form))
                have p0 : X.cell? ⟨g, n * 2, none⟩ = some (.int .i64 (bitsL l)) := (hbX.cell (p := ⟨g, n * 2, none⟩) hgw).trans q0
                have p1 : X.cell? ⟨g, n * 2 + 1, none⟩ = some (.slice sA scs.length sc) := (hbX.cell (p := ⟨g, n * 2 + 1, none⟩) hgw).trans q1
                have hgX : g < X.heap.size := by omega
                have HPX := Lib.hid (And.intro p0 p1)
                clear hsX
                rw [← hX]
                clear hX k00 k01 z00 z01 l0 k10 k11 z10 z11 l1 k20 k21 z20 z21 l2 q0 q1 hrs
                obtain ⟨k00, k01, z00, z01, l0⟩ := HSTX.out.two 0 rfl
                obtain ⟨k10, k11, z10, z11, l1⟩ := HSTX.out.two 1 rfl
                obtain ⟨k20, k21, z20, z21, l2⟩ := HSTX.out.two 2 rfl
                have HKS := Lib.hid (show ∀ w', Below X.heap.size X w' → w'.cell? ⟨w.heap.size, 0, none⟩ = some (.int .i64 W) ∧ w'.cell? ⟨w1.heap.size, 1, none⟩ = some (.slice (some ⟨g, 0, none⟩) out.length cv) ∧ w'.cell? ⟨g, n * 2, none⟩ = some (.int .i64 (bitsL l)) ∧ w'.cell? ⟨g, n * 2 + 1, none⟩ = some (.slice sA scs.length sc) ∧ Below X.heap.size X w' from
                  fun w' hb => ⟨(HSTX.out.call hb).cell 0 0 rfl rfl, (HSTX.out.call hb).cell 2 1 rfl rfl, (hb.cell (p := ⟨g, n * 2, none⟩) hgX).trans HPX.out.1, (hb.cell (p := ⟨g, n * 2 + 1, none⟩) hgX).trans HPX.out.2, hb⟩)
                go_cut [12, 13] from 69 (fun p q wx => ∃ (N : Nat) (b4 : Int) (A4 : Option Addr) (n4 c4 : Nat), p = .pointer (some ⟨N, 0, none⟩) ∧ q = .int .i64 (codeR (bitsL l) scs x 1) ∧ w1.heap.size < N ∧ N ≠ g ∧ St w wx [(w.heap.size, Obj.cells #[Value.int .i64 W, Value.slice A l.length c] 49 (0, 0)), (w.heap.size + 1, Obj.cells #[Value.int .i64 0, Value.slice none 0 0] 49 (0, 0)), (w1.heap.size, Obj.cells #[Value.int .i64 W, Value.slice (some ⟨g, 0, none⟩) out.length cv] 49 (0, 0)), (N, Obj.cells #[Value.int .i64 b4, Value.slice A4 n4 c4] 24 (0, 0))] ∧ HgOwn wx w.heap.size (w1.heap.size + 1) (.slice (some ⟨g, 0, none⟩) out.length cv) out ∧
                  (codeR (bitsL l) scs x 1 = 0 → ∃ cs', IsHist (recF (bitsL l) scs x 1) cs' ∧ b4 = bitsL l ∧ n4 = cs'.length ∧ RdP wx (fun b => (b < w.heap.size ∨ w1.heap.size + 1 ≤ b) ∧ b < wx.heap.size ∧ some b ≠ (Value.slice (some ⟨g, 0, none⟩) out.length cv).ownBlock) 2 A4 cs'.length (cells2 cs')))
                case first =>
                  go_region_held3 (fun w' => w'.cell? ⟨w.heap.size, 0, none⟩ = some (.int .i64 W) ∧ w'.cell? ⟨w1.heap.size, 1, none⟩ = some (.slice (some ⟨g, 0, none⟩) out.length cv) ∧ w'.cell? ⟨g, n * 2, none⟩ = some (.int .i64 (bitsL l)) ∧ w'.cell? ⟨g, n * 2 + 1, none⟩ = some (.slice sA scs.length sc) ∧ Below X.heap.size X w')
                    ((go_split_ands; refine HKS.out _ ?_; repeat (first | assumption | exact Below.refl _ _ | refine Below.drew ?_ | refine bel_alloc ?_ _ | refine below_next ?_ hb4 | refine bel_set ?_ (by dsimp only; omega) _)))
                    (first
                      | (go_at_call 20; refine (HRC.out _ ?_).mono ?_; (go_split_ands; assumption); rintro e w4 ⟨b4, A4, n4, c4, rfl, hs4, hz4, hb4⟩; have nb := new_box' (.int .i64 0) (.slice none 0 0) 24 X hb4))
                  all_goals go_wp2
                  · go_meet
                    case rel =>
                      have hb4' : Below X.heap.size X w4 := below_next (Below.refl _ X).drew hb4
                      have hsz := hb4'.size
                      refine ⟨w4.heap.size, b4, A4, n4, c4, rfl, rfl, by omega, by omega, (HSTX.out.call hb4').alloc _ _ rfl, (HOWX.out.call hb4').fr (may := fun _ => False) ((Fr.refl _ w4).alloc _) (fun _ _ h => absurd h (by simp)), fun h0 => ?_⟩
                      obtain ⟨cs', g1, g2, g3, g4⟩ := hs4 h0
                      have g5 : Rd w4 X.heap.size w4.heap.size 2 A4 cs'.length (cells2 cs') := g4
                      exact ⟨cs', g1, g2, g3, RdP.of (g5.alloc (Nat.le_refl _) _) (fun b h1 h2 => ⟨.inr (by omega), by simp; omega, fun hx => by have e : b = g := Option.some.inj hx; omega⟩)⟩
                  · go_meet
                    case rel =>
                      have hb4' : Below (X.alloc (.cells #[.int .i64 0, .slice none 0 0] 24)).heap.size (X.alloc (.cells #[.int .i64 0, .slice none 0 0] 24)) w4 := below_next (Below.refl _ _).drew hb4
                      have hsz := hb4'.size
                      simp only [World.size_alloc] at hsz
                      have st3 := (HSTX.out.alloc (.cells #[.int .i64 0, .slice none 0 0] 24) _ rfl).call hb4'
                      have hfr : Fr (fun i => X.heap.size ≤ i) X ((w4.setCell ⟨X.heap.size, 0, none⟩ (.int .i64 b4)).setCell ⟨X.heap.size, 1, none⟩ (.slice A4 n4 c4)) :=
                        ((Fr.trans ((Fr.refl _ X).alloc (.cells #[.int .i64 0, .slice none 0 0] 24)) (Fr.of_below hb4') (fun i h1 h2 => by simp only [World.size_alloc] at h2; omega)).setCell (p := ⟨X.heap.size, 0, none⟩) (fun _ => Nat.le_refl _) _).setCell (p := ⟨X.heap.size, 1, none⟩) (fun _ => Nat.le_refl _) _
                      refine ⟨X.heap.size, b4, A4, n4, c4, rfl, rfl, by omega, by omega, St.setLast [(w.heap.size, Obj.cells #[Value.int .i64 W, Value.slice A l.length c] 49 (0, 0)), (w.heap.size + 1, Obj.cells #[Value.int .i64 0, Value.slice none 0 0] 49 (0, 0)), (w1.heap.size, Obj.cells #[Value.int .i64 W, Value.slice (some ⟨g, 0, none⟩) out.length cv] 49 (0, 0))] 1 _ (St.setLast [(w.heap.size, Obj.cells #[Value.int .i64 W, Value.slice A l.length c] 49 (0, 0)), (w.heap.size + 1, Obj.cells #[Value.int .i64 0, Value.slice none 0 0] 49 (0, 0)), (w1.heap.size, Obj.cells #[Value.int .i64 W, Value.slice (some ⟨g, 0, none⟩) out.length cv] 49 (0, 0))] 0 _ st3 (by simp; omega)) (by simp; omega), HOWX.out.fr hfr (fun i h1 h2 => by omega), fun h0 => ?_⟩
                      obtain ⟨cs', g1, g2, g3, g4⟩ := hs4 h0
                      have hlw3 : (X.alloc (.cells #[.int .i64 0, .slice none 0 0] 24)).drew.heap.size = X.heap.size + 1 := by show (X.alloc _).heap.size = _; simp
                      rw [hlw3] at g4
                      refine ⟨cs', g1, g2, g3, RdP.of (g4.fr (may := fun i => i = X.heap.size) (w' := _) ?_ (Nat.le_refl _) (fun i hi _ => by omega)) (fun b h1 h2 => ⟨.inr (by omega), by simp [World.setCell]; omega, fun hx => by have e : b = g := Option.some.inj hx; omega⟩)⟩
                      repeat (first | exact Fr.refl _ _ | (refine Fr.setCell ?_ (fun _ => by dsimp only) _))
                case rest =>
                  obtain ⟨N, b4, A4, n4, c4, rfl, rfl, hN, hNg, hst4, how4, hs4⟩ := hcut
                  have HST4 := Lib.hid hst4
                  have HOW4 := Lib.hid how4
                  have HS4 := Lib.hid hs4
                  clear k00 k01 z00 z01 l0 k10 k11 z10 z11 l1 k20 k21 z20 z21 l2 p0 p1 hst4 how4 hs4
                  obtain ⟨k00, k01, z00, z01, l0⟩ := HST4.out.two 0 rfl
                  obtain ⟨k10, k11, z10, z11, l1⟩ := HST4.out.two 1 rfl
                  obtain ⟨k20, k21, z20, z21, l2⟩ := HST4.out.two 2 rfl
                  obtain ⟨k30, k31, z30, z31, l3⟩ := HST4.out.two 3 rfl
                  by_cases h0 : codeR (bitsL l) scs x 1 = 0
                  · obtain ⟨cs', hh, hd4, hn4, hrd4⟩ := HS4.out h0
                    subst hn4
                    have HD4 := Lib.hid hd4
                    have HH := Lib.hid hh
                    have H0 := Lib.hid h0
                    obtain ⟨g', cap', e', hgw4, hgb4, hgf4, hput4⟩ := HOW4.out.put hnl
                    cases e'
                    have HP4 := Lib.hid (hput4 ⟨b4, A4, c4, cs'⟩ hrd4)
                    have f0 : wc.frozen? ⟨g, n * 2, none⟩ = false := hgf4 _
                    have f1 : wc.frozen? ⟨g, n * 2 + 1, none⟩ = false := hgf4 _
                    obtain ⟨A5, c5, e5, hr5⟩ := HOW4.out.rd
                    cases e5
                    obtain ⟨b6, o6, s6, e6, _, hs6, u0, u1, _⟩ := hr5.at hnl
                    cases e6
                    simp only [Nat.zero_add] at u0 u1
                    have hgc : g < wc.heap.size := hgw4
                    have hgne1 : g ≠ w1.heap.size := by omega
                    have hgne2 : g ≠ w.heap.size := by omega
                    have hgne3 : g ≠ w.heap.size + 1 := by omega
                    clear hr5 hs6
                    rw [h0]
                    clear hh hd4 hrd4 hput4 hgf4 HS4 h0
                    go_wp2
                    refine wp_region_still_tail 8 mixed (by kernel_rfl) ?_
                    simp only [List.take_succ_cons, List.take_zero, List.drop_succ_cons, List.drop_zero]
                    repeat still_step
                    refine wpStill_nil ?_
                    change wpList _ _ _ _ _ wc.drew
                    go_wp2
                    have hfin : HgOwn ((wc.setCell ⟨g, n * 2, none⟩ (.int .i64 b4)).setCell ⟨g, n * 2 + 1, none⟩ (.slice A4 cs'.length c4)) w.heap.size (w1.heap.size + 1) (.slice (some ⟨g, 0, none⟩) out.length cv) (out.set n ⟨b4, A4, c4, cs'⟩) := HP4.out
                    have habs : absL (out.set n ⟨b4, A4, c4, cs'⟩) = putAb l (t / W).toNat x := by
                      rw [absL_set, HAB.out, range_map_set, hnq', Int.toNat_natCast]
                      unfold putAb
                      rw [HLEN.out]
                      apply List.map_congr_left
                      intro q _
                      unfold putAt padAt
                      by_cases e : q = n
                      · rw [if_pos e, if_pos e, e, ← HSCS.out, histOf_eq HH.out, HD4.out]
                      · rw [if_neg e, if_neg e]
                    have HFI := Lib.hid hfin
                    have HABS := Lib.hid habs
                    have HC0 := Lib.hid (HCD.out.trans H0.out)
                    clear hfin habs
                    refine bodyPost_ret (v := .tuple #[.agg #[.int .i64 W, .slice (some ⟨g, 0, none⟩) out.length cv], .int .i64 0]) (by simp [results, Tryd.results34, go_sem, k10, k11]) rfl ⟨_, by rw [HC0.out], fun _ => ⟨some ⟨g, 0, none⟩, cv, out.set n ⟨b4, A4, c4, cs'⟩, by rw [List.length_set], ?_, HABS.out⟩, fun h => absurd HC0.out h, ?_⟩
                    · have hh := (HFI.out.fr (may := fun i => i = w.heap.size + 1) (((Fr.refl (fun i => i = w.heap.size + 1) _).setCell (p := ⟨w.heap.size + 1, 0, none⟩) (fun _ => rfl) (.int .i64 W)).setCell (p := ⟨w.heap.size + 1, 1, none⟩) (fun _ => rfl) (.slice (some ⟨g, 0, none⟩) out.length cv)).drew (fun i _ hi => by omega)).rd
                      obtain ⟨A', c', e, h'⟩ := hh
                      rw [List.length_set] at e
                      cases e
                      exact h'
                    · repeat (first | exact HST4.out.below | refine Below.drew ?_ | (refine Below.setCell ?_ (by dsimp only; omega) _))
                  · generalize hcg : codeR (bitsL l) scs x 1 = cd at *
                    have tc : (cd == 0) = false := by simpa using h0
                    have tc' : (cd != 0) = true := by simpa using h0
                    clear HS4
                    go_wp2
                    refine bodyPost_ret (v := .tuple #[.agg #[.int .i64 0, .slice none 0 0], .int .i64 cd]) (by simp [results, Tryd.results34, go_sem, k10, k11]) rfl (SPost.none h0 HCD.out ?_)
                    repeat (first | exact HST4.out.below | (refine Below.setCell ?_ (by dsimp only; omega) _))
  · have HC := Lib.hid (show codePut W l t x = codeSer W l by unfold codePut; rw [if_pos hc])
    generalize codeSer W l = cd at *
    have tc : (cd == 0) = false := by simpa using hc
    have tc' : (cd != 0) = true := by simpa using hc
    go_wp2
    refine bodyPost_ret (v := .tuple #[.agg #[.int .i64 0, .slice none 0 0], .int .i64 cd]) (by simp [results, Tryd.results34, go_sem, k10, k11]) rfl (SPost.none hc HC.out ?_)
    repeat (first | exact HST1.out.below | (refine Below.setCell ?_ (by dsimp only; omega) _))
end Go.Proofs.YtgmbgclhljobaaaDoor
