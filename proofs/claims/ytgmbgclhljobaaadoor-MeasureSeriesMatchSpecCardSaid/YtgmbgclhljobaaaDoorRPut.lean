/- Put of the reference. -/
import Derived.Test.YtgmbgclhljobaaaDoorRRoll
import Derived.Test.YtgmbgclhljobaaaDoorRecord
namespace Go.Proofs.YtgmbgclhljobaaaDoor
open Go Go.RowKit Go.Proofs Go.Maps

/-- the counts of a cell that may not be there yet -/
def cellC (l : List Hg) (i : Nat) : List (Int × Int) := ((l[i]?).map (·.cs)).getD []
/-- the cells behind Put -/
noncomputable def putAt (l : List Hg) (n : Nat) (v : Int) (i : Nat) : Int × List (Int × Int) := (bitsL l, if i = n then histOf (recF (bitsL l) (cellC l i) v 1) else cellC l i)
def putN (l : List Hg) (n : Nat) : Nat := max l.length (n + 1)
noncomputable def putAb (l : List Hg) (n : Nat) (v : Int) : List (Int × List (Int × Int)) := (List.range (putN l n)).map (putAt l n v)
def badAt (t : Int) : Prop := t < 0 ∨ 1000000000000 < t
instance (t : Int) : Decidable (badAt t) := by unfold badAt; infer_instance
/-- the error of Put -/
noncomputable def codePut (W : Int) (l : List Hg) (t v : Int) : Int :=
  if codeSer W l ≠ 0 then codeSer W l else if badAt t then 9 else if 2000 ≤ t / W then 3 else codeR (bitsL l) (cellC l (t / W).toNat) v 1
theorem cellC_get {l : List Hg} {i : Nat} {s : Hg} (h : l[i]? = some s) : cellC l i = s.cs := by unfold cellC; rw [h]; rfl
theorem cellC_none {l : List Hg} {i : Nat} (h : l.length ≤ i) : cellC l i = [] := by unfold cellC; rw [List.getElem?_eq_none h]; rfl
theorem good_nil {d : Int} (h : 2 ≤ d) (h' : d ≤ 8) : Good d [] := ⟨h, h', by simp, fun _ h => by simp at h, by simp, by simp [tot]⟩
theorem cellC_good {l : List Hg} (hd : 2 ≤ bitsL l) (hd' : bitsL l ≤ 8) (hg : ∀ x ∈ l, Good x.b x.cs ∧ x.b = bitsL l) (i : Nat) : Good (bitsL l) (cellC l i) := by
  cases h : l[i]? with
  | none => rw [show cellC l i = [] by unfold cellC; rw [h]; rfl]; exact good_nil hd hd'
  | some s =>
    rw [cellC_get h]
    have := hg s (List.mem_of_getElem? h)
    rw [this.2] at this; exact this.1
theorem range_map_snoc {β : Type} (f : Nat → β) (i : Nat) : (List.range (i + 1)).map f = (List.range i).map f ++ [f i] := by rw [List.range_succ, List.map_append]; rfl

set_option maxHeartbeats 4000000 in
set_option maxRecDepth 100000 in
theorem RPut_any (W : Int) (A : Option Addr) (c : Nat) (l : List Hg) (t x : Int) (w : World) (hr : HgR w w.heap.size A l.length l) (hn : l.length < 9223372036854775807) (hcs : ∀ h ∈ l, h.cs.length < 9223372036854775807 ∧ ∀ q ∈ h.cs, q.1 ≤ 9223372036854775807) :
    Calls Tryd.prog 35 #[.agg #[.int .i64 W, .slice A l.length c], .int .i64 t, .int .i64 x] w (SPost W (putAb l (t / W).toNat x) (codePut W l t x) w) := by
  obtain ⟨W0, hW0⟩ : ∃ W0, W0 = (w.alloc (.cells #[Value.int .i64 W, Value.slice A l.length c] 49)).alloc (.cells #[Value.int .i64 0, Value.slice none 0 0] 49) := ⟨_, rfl⟩
  have HST0 := Lib.hid (show St w W0 [(w.heap.size, Obj.cells #[Value.int .i64 W, Value.slice A l.length c] 49 (0, 0)), (w.heap.size + 1, Obj.cells #[Value.int .i64 0, Value.slice none 0 0] 49 (0, 0))] by rw [hW0]; exact ((St.start w).alloc _ _ rfl).alloc _ _ (by simp))
  have HCK := Lib.hid (RCheckSeries_any W A c l W0 (hr.old HST0.out.below) hn hcs)
  have HR := Lib.hid hr
  obtain ⟨ih0, hih, hhz0, hhz1, hhz2⟩ := info_parts Tryd.infoHg
  clear hr hcs
  go_enter Tryd.func35, Tryd.ntmps35
  go_wp2_with fail
  rw [← hW0]
  clear hW0
  refine HCK.out.mono ?_
  rintro e w1 ⟨rfl, hb1⟩
  clear HCK
  have HST1 := Lib.hid (HST0.out.call hb1)
  have hs1 := hb1.size
  obtain ⟨k00, k01, z00, z01, l0⟩ := HST1.out.two 0 rfl
  obtain ⟨k10, k11, z10, z11, l1⟩ := HST1.out.two 1 rfl
  clear hb1
  by_cases hc : codeSer W l = 0
  · rw [hc]
    obtain ⟨hd, hd', hg⟩ := bitsL_good hc
    obtain ⟨hWW, hn2, _⟩ := codeSer_zero hc
    have hW1 : 1 ≤ W ∧ W ≤ 1000000000000 := by unfold badW at hWW; omega
    have hgc := cellC_good hd hd' hg
    have HGC := Lib.hid hgc
    have HG := Lib.hid hg
    clear hg hWW hgc
    by_cases hb : badAt t
    · have HC := Lib.hid (show codePut W l t x = 9 by unfold codePut; rw [if_neg (not_not_intro hc), if_pos hb])
      clear hc
      by_cases d1 : t < 0
      · have d1' : decide (t < 0) = true := by simpa using d1
        go_wp2
        refine bodyPost_ret (v := .tuple #[.agg #[.int .i64 0, .slice none 0 0], .int .i64 9]) (by simp [results, Tryd.results35, go_sem, k10, k11]) rfl (SPost.none (by omega) HC.out ?_)
        repeat (first | exact HST1.out.below | (refine Below.setCell ?_ (by dsimp only; omega) _))
      · have d1' : decide (t < 0) = false := by simpa using d1
        have d2' : decide (1000000000000 < t) = true := by unfold badAt at hb; simp; omega
        go_wp2
        refine bodyPost_ret (v := .tuple #[.agg #[.int .i64 0, .slice none 0 0], .int .i64 9]) (by simp [results, Tryd.results35, go_sem, k10, k11]) rfl (SPost.none (by omega) HC.out ?_)
        repeat (first | exact HST1.out.below | (refine Below.setCell ?_ (by dsimp only; omega) _))
    · have d1' : decide (t < 0) = false := by unfold badAt at hb; simp; omega
      have d2' : decide (1000000000000 < t) = false := by unfold badAt at hb; simp; omega
      have ht : 0 ≤ t ∧ t ≤ 1000000000000 := by unfold badAt at hb; omega
      have hq0 : 0 ≤ t / W := Int.ediv_nonneg (by omega) (by omega)
      have hq1 : t / W ≤ t := Int.ediv_le_self _ (by omega)
      have hdiv : t.tdiv W = t / W := Int.tdiv_eq_ediv_of_nonneg (by omega)
      have hW0' : ¬ W = 0 := by omega
      by_cases hbig : 2000 ≤ t / W
      · have HC := Lib.hid (show codePut W l t x = 3 by unfold codePut; rw [if_neg (not_not_intro hc), if_neg hb, if_pos hbig])
        have d3' : decide (2000 ≤ t / W) = true := by simpa using hbig
        clear hc hb
        go_wp2
        refine bodyPost_ret (v := .tuple #[.agg #[.int .i64 0, .slice none 0 0], .int .i64 3]) (by simp [results, Tryd.results35, go_sem, k10, k11]) rfl (SPost.none (by omega) HC.out ?_)
        repeat (first | exact HST1.out.below | (refine Below.setCell ?_ (by dsimp only; omega) _))
      · have HC := Lib.hid (show codePut W l t x = codeR (bitsL l) (cellC l (t / W).toNat) x 1 by unfold codePut; rw [if_neg (not_not_intro hc), if_neg hb, if_neg hbig])
        have d3' : decide (2000 ≤ t / W) = false := by simpa using hbig
        obtain ⟨n, hnq⟩ : ∃ n : Nat, t / W = (n : Int) := ⟨(t / W).toNat, by omega⟩
        rw [hnq] at hbig d3' hdiv HC ⊢
        have hnq' : t / W = (n : Int) := hnq
        simp only [Int.toNat_natCast] at HC ⊢
        have hn3 : n < 2000 := by omega
        have hl1w : w.heap.size + 1 < w1.heap.size := l1
        clear hc hb hnq hbig hq0 hq1
        go_wp2
        go_loopw [11, 12, 13, 14] (fun iv _ _ _ wr => ∃ (i : Nat) (v : Value) (out : List Hg), i ≤ putN l n ∧ iv = .int .i64 (i : Int) ∧ (n < i → codeR (bitsL l) (cellC l n) x 1 = 0) ∧ absL out = (List.range i).map (putAt l n x) ∧ St w wr [(w.heap.size, Obj.cells #[Value.int .i64 W, Value.slice A l.length c] 49 (0, 0)), (w.heap.size + 1, Obj.cells #[Value.int .i64 0, Value.slice none 0 0] 49 (0, 0)), (w1.heap.size, Obj.cells #[Value.int .i64 W, v] 49 (0, 0))] ∧ HgOwn wr w.heap.size (w1.heap.size + 1) v out ∧ out.length = i) (fun iv _ _ _ _ => 1000000 - (intOf iv).toNat)
        case atStart => exact ⟨0, .slice none 0 0, [], Nat.zero_le _, rfl, fun h => absurd h (by omega), rfl, HST1.out.alloc _ _ rfl, HgOwn.nil, rfl⟩
        case round =>
          obtain ⟨i, v, out, hi, rfl, hok, hab, hst, how, hol⟩ := hrel
          have HST := Lib.hid hst
          have HOW := Lib.hid how
          have HOK := Lib.hid hok
          have HAB := Lib.hid hab
          have HOL := Lib.hid hol
          clear k00 k01 z00 z01 l0 k10 k11 z10 z11 l1
          obtain ⟨k00, k01, _, _, l0⟩ := hst.two 0 rfl
          obtain ⟨k10, k11, z10, z11, l1⟩ := hst.two 1 rfl
          obtain ⟨k20, k21, z20, z21, l2⟩ := hst.two 2 rfl
          have hib : i ≤ 2000 := by unfold putN at hi; omega
          have hw1r : w1.heap.size < wr.heap.size := l2
          clear hst how hok hab hol
          by_cases hlt : i < putN l n
          · have hlt' : i < l.length ∨ i ≤ n := by unfold putN at hlt; omega
            have HBI := Lib.hid (RbitsOf_any W A c l wr (HR.out.old HST.out.below))
            by_cases hil : i < l.length
            · have t1 : decide ((i : Int) < (l.length : Int)) = true := by simp; omega
              obtain ⟨bk, o, ⟨sb, sA, sc, scs⟩, hAe, hbk, hs, q0, q1, hrs⟩ := HR.out.at hil
              simp only at q0 q1 hrs
              have hsb := (HG.out _ (List.mem_of_getElem? hs)).2
              simp only at hsb
              have hcc := cellC_get hs
              simp only at hcc
              subst hAe
              replace hsb := hsb.symm
              subst hsb
              have HCEL := Lib.hid hcc
              have HRS := Lib.hid hrs
              clear hs hrs hcc
              have hbw2 : ∀ {w2}, Below wr.heap.size wr w2 → Below w.heap.size w w2 := fun h => HST.out.below.trans (h.mono HST.out.below.size)
              go_wp2_with fail
              refine HBI.out.mono ?_
              rintro e w2 ⟨rfl, hb2⟩
              have hs2 := hb2.size
              have hw12 : w1.heap.size ≠ w2.heap.size := by omega
              have hw21 : w2.heap.size ≠ w1.heap.size := by omega
              have HST2 := Lib.hid (HST.out.call hb2)
              have HOW2 := Lib.hid (HOW.out.call hb2)
              have HB2 := Lib.hid hb2
              clear HBI k00 k01 l0 k10 k11 z10 z11 l1 k20 k21 z20 z21 l2 hb2
              obtain ⟨k00, k01, _, _, l0⟩ := HST2.out.two 0 rfl
              obtain ⟨k10, k11, z10, z11, l1⟩ := HST2.out.two 1 rfl
              obtain ⟨k20, k21, z20, z21, l2⟩ := HST2.out.two 2 rfl
              have p0 : w2.cell? ⟨bk, o + i * 2, none⟩ = some (.int .i64 (bitsL l)) := ((hbw2 HB2.out).cell (p := ⟨bk, o + i * 2, none⟩) hbk).trans q0
              have p1 : w2.cell? ⟨bk, o + i * 2 + 1, none⟩ = some (.slice sA scs.length sc) := ((hbw2 HB2.out).cell (p := ⟨bk, o + i * 2 + 1, none⟩) hbk).trans q1
              have hbk2 : bk < w2.heap.size := by have := (hbw2 HB2.out).size; omega
              have hbkn : bk ≠ w2.heap.size := by omega
              clear q0 q1
              by_cases hin : i = n
              · skip
                have te : ((i : Int) == (n : Int)) = true := by simp; omega
                have hin2 : n ≤ i ∧ i ≤ n := by omega
                have HIN := Lib.hid hin
                clear hin
                obtain ⟨W3, hW3⟩ : ∃ W3, W3 = w2.alloc (.cells #[.int .i64 (bitsL l), .slice sA scs.length sc] 24) := ⟨_, rfl⟩
                have hb3 : Below w2.heap.size w2 W3 := by rw [hW3]; exact (Below.refl _ w2).alloc (Nat.le_refl _) _
                have HST3 := Lib.hid (show St w W3 [(w.heap.size, Obj.cells #[Value.int .i64 W, Value.slice (some ⟨bk, o, none⟩) l.length c] 49 (0, 0)), (w.heap.size + 1, Obj.cells #[Value.int .i64 0, Value.slice none 0 0] 49 (0, 0)), (w1.heap.size, Obj.cells #[Value.int .i64 W, v] 49 (0, 0)), (w2.heap.size, Obj.cells #[Value.int .i64 (bitsL l), Value.slice sA scs.length sc] 24 (0, 0))] by rw [hW3]; exact HST2.out.alloc _ _ rfl)
                have hgi := HGC.out i
                rw [HCEL.out] at hgi
                have HRC := Lib.hid ((RRecord_any (bitsL l) sA sc (scs) x 1 W3 (((HRS.out.below (hbw2 HB2.out) (Nat.le_refl _)).more (Nat.le_refl _) (hbw2 HB2.out).size).old hb3) (by have := hgi.2.2.1; omega) (fun q hq => by have := (hgi.2.2.2.1 q hq).1; have := maxB_bd _ hd hd'; omega) (by unfold I64; omega)).mono (fun e w' h => h.form))
                have HCD := Lib.hid (show codePut W l t x = codeR (bitsL l) (scs) x 1 by rw [HC.out, ← HIN.out, HCEL.out])
                have hlt2 : w2.heap.size < W3.heap.size := HST3.out.lt 3 rfl
                have HFX3 := Lib.hid (show Fr (fun j => w2.heap.size ≤ j) w2 W3 by rw [hW3]; exact (Fr.refl _ w2).alloc _)
                clear hgi
                go_wp2_with fail
                rw [← hW3]
                clear hW3
                refine HRC.out.mono ?_
                rintro e w4 ⟨b4, A4, n4, c4, rfl, hs4, hz4, hb4⟩
                have hsz4 := hb4.size
                have HS4 := Lib.hid hs4
                have HB4 := Lib.hid hb4
                have HSTr := Lib.hid (HST3.out.call hb4)
                clear k00 k01 l0 k10 k11 z10 z11 l1 k20 k21 z20 z21 l2 hs4 hz4 hb4 HRC hb3
                obtain ⟨k00, k01, _, _, l0⟩ := HSTr.out.two 0 rfl
                obtain ⟨k10, k11, z10, z11, l1⟩ := HSTr.out.two 1 rfl
                obtain ⟨k20, k21, z20, z21, l2⟩ := HSTr.out.two 2 rfl
                obtain ⟨k30, k31, z30, z31, l3⟩ := HSTr.out.two 3 rfl
                by_cases h0 : codeR (bitsL l) (scs) x 1 = 0
                · obtain ⟨cs', hh, hd4, hn4, hrd4⟩ := HS4.out h0
                  replace hd4 := hd4.symm
                  subst hn4
                  have HB4E := Lib.hid hd4
                  have HRD4 := Lib.hid hrd4
                  have HH := Lib.hid hh
                  have HH0 := Lib.hid h0
                  rw [h0]
                  clear hrd4 hh HS4 h0 hd4
                  have HFX := Lib.hid (show Fr (fun j => w2.heap.size ≤ j) w2 (((w4.setCell ⟨w2.heap.size, 0, none⟩ (.int .i64 b4)).setCell ⟨w2.heap.size, 1, none⟩ (.slice A4 cs'.length c4)).alloc (.cells #[.int .i64 b4, .slice A4 cs'.length c4] 24)) from
                    ((Fr.setCell (p := ⟨w2.heap.size, 1, none⟩) (Fr.setCell (p := ⟨w2.heap.size, 0, none⟩) (Fr.trans HFX3.out (Fr.of_below HB4.out) (fun j _ h => by omega)) (fun _ => Nat.le_refl _) _) (fun _ => Nat.le_refl _) _).alloc _))
                  have HRX := Lib.hid (show RdP (((w4.setCell ⟨w2.heap.size, 0, none⟩ (.int .i64 b4)).setCell ⟨w2.heap.size, 1, none⟩ (.slice A4 cs'.length c4)).alloc (.cells #[.int .i64 b4, .slice A4 cs'.length c4] 24)) (fun b => (b < w.heap.size ∨ w1.heap.size + 1 ≤ b) ∧ b < (((w4.setCell ⟨w2.heap.size, 0, none⟩ (.int .i64 b4)).setCell ⟨w2.heap.size, 1, none⟩ (.slice A4 cs'.length c4)).alloc (.cells #[.int .i64 b4, .slice A4 cs'.length c4] 24)).heap.size ∧ some b ≠ v.ownBlock) 2 A4 cs'.length (cells2 cs') from
                    RdP.of ((HRD4.out.fr (may := fun j => j = w2.heap.size) (((Fr.refl (fun j => j = w2.heap.size) w4).setCell (p := ⟨w2.heap.size, 0, none⟩) (fun _ => rfl) _).setCell (p := ⟨w2.heap.size, 1, none⟩) (fun _ => rfl) _) (Nat.le_refl _) (fun j h1 h2 => by omega)).alloc (by simp [World.setCell]) _) (fun b h1 h2 => ⟨.inr (by omega), by simp [World.setCell]; omega, fun hx => by have := ownsRow_block HOW.out.1 hx; omega⟩))
                  have hcell : ∀ j u, [Value.int .i64 (b4), .slice A4 cs'.length c4][j]? = some u → ((((w4.setCell ⟨w2.heap.size, 0, none⟩ (.int .i64 b4)).setCell ⟨w2.heap.size, 1, none⟩ (.slice A4 cs'.length c4)).alloc (.cells #[.int .i64 b4, .slice A4 cs'.length c4] 24)).alloc (.cells #[.int .i64 (b4), .slice A4 cs'.length c4] 24)).cell? ((⟨(((w4.setCell ⟨w2.heap.size, 0, none⟩ (.int .i64 b4)).setCell ⟨w2.heap.size, 1, none⟩ (.slice A4 cs'.length c4)).alloc (.cells #[.int .i64 b4, .slice A4 cs'.length c4] 24)).heap.size, 0, none⟩ : Addr).add j) = some u := cell_two_new _ _ _ _
                  simp only [World.size_alloc, World.size_setCell] at hcell
                  have HCELL := Lib.hid hcell
                  have hwx := HFX.out.size
                  have how5 := HOW2.out.fr HFX.out (fun i h1 h2 => by omega)
                  have HO5 := Lib.hid how5
                  have HO5R := Lib.hid (how5.1.alloc (.cells #[.int .i64 (b4), .slice A4 cs'.length c4] 24))
                  have st5 := HST2.out.fr HFX.out (fun i b ob hi hm => by
                    have := List.mem_of_getElem? hi
                    simp only [List.mem_cons, Prod.mk.injEq, List.not_mem_nil, or_false] at this
                    omega) (fun i hi => by omega)
                  have HST5 := Lib.hid st5
                  clear hcell how5 st5
                  go_wp2_with (at_builtin; refine wpList_append_lies _ rfl (.tmp 78) (.tmp 80) 47 rfl (w1.heap.size + 1) 24 ih0 _ 2 32 Tryd.underlying47 hih hhz0 hhz1 hhz2 rfl (by decide) v _ _ rfl HO5R.out ⟨w4.heap.size + 1, 0, none⟩ 1 1 [.int .i64 (b4), .slice A4 cs'.length c4] rfl rfl HCELL.out (by simp [Value.oneCell']) (by decide) ?c3 ?c4 ?c5 (w4.heap.size + 1 + 1) (by simp) ?_)
                  case c3 => have := HOL.out; unfold maxLen; omega
                  case c4 => have := HOL.out; omega
                  case c5 => have := hwx; simp only [World.size_alloc, World.size_setCell] at *; omega
                  intro g cap w5 hown' hgrow hat hglt
                  have hf4 := Fr.of_grown hgrow
                  have hvb : ∀ i, some i = v.ownBlock → w1.heap.size + 1 ≤ i ∧ i < wr.heap.size := fun i hi => ownsRow_block HOW.out.1 hi
                  have how6 := (HO5.out.fr (may := fun _ => False) ((Fr.refl _ _).alloc (.cells #[.int .i64 (b4), .slice A4 cs'.length c4] 24)) (fun _ _ h => absurd h (by simp))).app (x := ⟨b4, A4, c4, cs'⟩) (HRX.out.keep (fun p hp => World.cell?_alloc_lt _ _ _ hp.2.1) (fun b hb => ⟨hb.1, by have := hb.2.1; simp only [World.size_alloc] at *; omega, hb.2.2⟩)) hown' hgrow (by simpa using hat)
                  have st4 := (HST5.out.more (.cells #[.int .i64 (b4), .slice A4 cs'.length c4] 24)).fr hf4 (fun i b ob hi hm => by
                    have := List.mem_of_getElem? hi
                    simp only [List.mem_cons, Prod.mk.injEq, List.not_mem_nil, or_false] at this
                    have := hvb b hm
                    omega) (fun i hi => by have := hvb i hi; omega)
                  have HOW6 := Lib.hid how6
                  have HST4 := Lib.hid st4
                  have hgs : g < w5.heap.size := hglt
                  clear k00 k01 l0 k10 k11 z10 z11 l1 k20 k21 z20 z21 l2 k30 k31 z30 z31 l3
                  obtain ⟨k00, k01, _, _, l0⟩ := st4.two 0 rfl
                  obtain ⟨k10, k11, z10, z11, l1⟩ := st4.two 1 rfl
                  obtain ⟨k20, k21, z20, z21, l2⟩ := st4.two 2 rfl
                  clear how6 st4 hown' hgrow hat hf4 hvb
                  go_wp2
                  go_roundw
                  case rel =>
                    refine ⟨i + 1, .slice (some ⟨g, 0, none⟩) (out.length + 1) cap, out ++ [⟨b4, A4, c4, cs'⟩], by unfold putN at *; omega, by go_num, ?_, ?_, ?_, ?_, by have := HOL.out; simp; omega⟩
                    · intro hin; rw [← HIN.out, HCEL.out]; exact HH0.out
                    · rw [absL_snoc, HAB.out, range_map_snoc]; congr 2; unfold putAt; rw [if_pos HIN.out, HCEL.out, histOf_eq HH.out, HB4E.out]
                    · exact St.setLast [(w.heap.size, Obj.cells #[Value.int .i64 W, Value.slice (some ⟨bk, o, none⟩) l.length c] 49 (0, 0)), (w.heap.size + 1, Obj.cells #[Value.int .i64 0, Value.slice none 0 0] 49 (0, 0))] 1 _ HST4.out (by simp; omega)
                    · exact HOW6.out.fr (may := fun i => i = w1.heap.size) ((Fr.refl (fun i => i = w1.heap.size) w5).setCell (p := ⟨w1.heap.size, 1, none⟩) (fun _ => rfl) _) (fun i _ hi => by omega)
                  case measure => simp [intOf]; omega
                · have HH0 := Lib.hid h0
                  generalize codeR (bitsL l) (scs) x 1 = cd at *
                  have tc : (cd == 0) = false := by simpa using h0
                  have tc' : (cd != 0) = true := by simpa using h0
                  clear HS4
                  go_wp2
                  refine bodyPost_ret (v := .tuple #[.agg #[.int .i64 0, .slice none 0 0], .int .i64 cd]) (by simp [results, Tryd.results35, go_sem, k10, k11, l1]) rfl (SPost.none h0 HCD.out ?_)
                  repeat (first | exact HSTr.out.below | (refine Below.setCell ?_ (by dsimp only; omega) _) | (refine Below.alloc ?_ (by simp [World.setCell]; omega) _))
              · skip
                have te : ((i : Int) == (n : Int)) = false := by simp; omega
                have HFX := Lib.hid (show Fr (fun j => w2.heap.size ≤ j) w2 (w2.alloc (.cells #[.int .i64 (bitsL l), .slice sA scs.length sc] 24)) from (Fr.refl _ w2).alloc _)
                have HRX := Lib.hid (show RdP (w2.alloc (.cells #[.int .i64 (bitsL l), .slice sA scs.length sc] 24)) (fun b => (b < w.heap.size ∨ w1.heap.size + 1 ≤ b) ∧ b < (w2.alloc (.cells #[.int .i64 (bitsL l), .slice sA scs.length sc] 24)).heap.size ∧ some b ≠ v.ownBlock) 2 sA scs.length (cells2 (scs)) from RdP.of (((HRS.out.below (hbw2 HB2.out) (Nat.le_refl _)).alloc (by have := (hbw2 HB2.out).size; omega) _)) (fun b h1 h2 => ⟨.inl h2, by have := (hbw2 HB2.out).size; simp; omega, fun hx => by have := ownsRow_block HOW.out.1 hx; omega⟩))
                have hcell : ∀ j u, [Value.int .i64 (bitsL l), .slice sA scs.length sc][j]? = some u → ((w2.alloc (.cells #[.int .i64 (bitsL l), .slice sA scs.length sc] 24)).alloc (.cells #[.int .i64 (bitsL l), .slice sA scs.length sc] 24)).cell? ((⟨(w2.alloc (.cells #[.int .i64 (bitsL l), .slice sA scs.length sc] 24)).heap.size, 0, none⟩ : Addr).add j) = some u := cell_two_new _ _ _ _
                simp only [World.size_alloc] at hcell
                have HCELL := Lib.hid hcell
                have hwx := HFX.out.size
                have how5 := HOW2.out.fr HFX.out (fun i h1 h2 => by omega)
                have HO5 := Lib.hid how5
                have HO5R := Lib.hid (how5.1.alloc (.cells #[.int .i64 (bitsL l), .slice sA scs.length sc] 24))
                have st5 := HST2.out.fr HFX.out (fun i b ob hi hm => by
                  have := List.mem_of_getElem? hi
                  simp only [List.mem_cons, Prod.mk.injEq, List.not_mem_nil, or_false] at this
                  omega) (fun i hi => by omega)
                have HST5 := Lib.hid st5
                clear hcell how5 st5
                go_wp2_with (at_builtin; refine wpList_append_lies _ rfl (.tmp 78) (.tmp 80) 47 rfl (w1.heap.size + 1) 24 ih0 _ 2 32 Tryd.underlying47 hih hhz0 hhz1 hhz2 rfl (by decide) v _ _ rfl HO5R.out ⟨w2.heap.size + 1, 0, none⟩ 1 1 [.int .i64 (bitsL l), .slice sA scs.length sc] rfl rfl HCELL.out (by simp [Value.oneCell']) (by decide) ?c3 ?c4 ?c5 (w2.heap.size + 1 + 1) (by simp) ?_)
                case c3 => have := HOL.out; unfold maxLen; omega
                case c4 => have := HOL.out; omega
                case c5 => have := hwx; simp only [World.size_alloc] at *; omega
                intro g cap w4 hown' hgrow hat hglt
                have hf4 := Fr.of_grown hgrow
                have hvb : ∀ i, some i = v.ownBlock → w1.heap.size + 1 ≤ i ∧ i < wr.heap.size := fun i hi => ownsRow_block HOW.out.1 hi
                have how6 := (HO5.out.fr (may := fun _ => False) ((Fr.refl _ _).alloc (.cells #[.int .i64 (bitsL l), .slice sA scs.length sc] 24)) (fun _ _ h => absurd h (by simp))).app (x := ⟨bitsL l, sA, sc, scs⟩) (HRX.out.keep (fun p hp => World.cell?_alloc_lt _ _ _ hp.2.1) (fun b hb => ⟨hb.1, by have := hb.2.1; simp only [World.size_alloc] at *; omega, hb.2.2⟩)) hown' hgrow (by simpa using hat)
                have st4 := (HST5.out.more (.cells #[.int .i64 (bitsL l), .slice sA scs.length sc] 24)).fr hf4 (fun i b ob hi hm => by
                  have := List.mem_of_getElem? hi
                  simp only [List.mem_cons, Prod.mk.injEq, List.not_mem_nil, or_false] at this
                  have := hvb b hm
                  omega) (fun i hi => by have := hvb i hi; omega)
                have HOW6 := Lib.hid how6
                have HST4 := Lib.hid st4
                have hgs : g < w4.heap.size := hglt
                clear k00 k01 l0 k10 k11 z10 z11 l1 k20 k21 z20 z21 l2
                obtain ⟨k00, k01, _, _, l0⟩ := st4.two 0 rfl
                obtain ⟨k10, k11, z10, z11, l1⟩ := st4.two 1 rfl
                obtain ⟨k20, k21, z20, z21, l2⟩ := st4.two 2 rfl
                clear how6 st4 hown' hgrow hat hf4 hvb
                go_wp2
                go_roundw
                case rel =>
                  refine ⟨i + 1, .slice (some ⟨g, 0, none⟩) (out.length + 1) cap, out ++ [⟨bitsL l, sA, sc, scs⟩], by unfold putN at *; omega, by go_num, ?_, ?_, ?_, ?_, by have := HOL.out; simp; omega⟩
                  · intro hin; exact HOK.out (by omega)
                  · rw [absL_snoc, HAB.out, range_map_snoc]; congr 2; unfold putAt; rw [if_neg hin, HCEL.out]
                  · exact St.setLast [(w.heap.size, Obj.cells #[Value.int .i64 W, Value.slice (some ⟨bk, o, none⟩) l.length c] 49 (0, 0)), (w.heap.size + 1, Obj.cells #[Value.int .i64 0, Value.slice none 0 0] 49 (0, 0))] 1 _ HST4.out (by simp; omega)
                  · exact HOW6.out.fr (may := fun i => i = w1.heap.size) ((Fr.refl (fun i => i = w1.heap.size) w4).setCell (p := ⟨w1.heap.size, 1, none⟩) (fun _ => rfl) _) (fun i _ hi => by omega)
                case measure => simp [intOf]; omega
            · have t1 : decide ((i : Int) < (l.length : Int)) = false := by simp; omega
              have t2 : decide ((i : Int) ≤ (n : Int)) = true := by simp; omega
              have HCEL := Lib.hid (cellC_none (l := l) (i := i) (by omega))
              go_wp2_with fail
              refine HBI.out.mono ?_
              rintro e w2 ⟨rfl, hb2⟩
              have hs2 := hb2.size
              have hw12 : w1.heap.size ≠ w2.heap.size := by omega
              have hw21 : w2.heap.size ≠ w1.heap.size := by omega
              have HST2 := Lib.hid (HST.out.call hb2)
              have HOW2 := Lib.hid (HOW.out.call hb2)
              have HB2 := Lib.hid hb2
              clear HBI k00 k01 l0 k10 k11 z10 z11 l1 k20 k21 z20 z21 l2 hb2
              obtain ⟨k00, k01, _, _, l0⟩ := HST2.out.two 0 rfl
              obtain ⟨k10, k11, z10, z11, l1⟩ := HST2.out.two 1 rfl
              obtain ⟨k20, k21, z20, z21, l2⟩ := HST2.out.two 2 rfl
              by_cases hin : i = n
              · skip
                have te : ((i : Int) == (n : Int)) = true := by simp; omega
                have hin2 : n ≤ i ∧ i ≤ n := by omega
                have HIN := Lib.hid hin
                clear hin
                obtain ⟨W3, hW3⟩ : ∃ W3, W3 = w2.alloc (.cells #[.int .i64 (bitsL l), .slice none 0 0] 24) := ⟨_, rfl⟩
                have hb3 : Below w2.heap.size w2 W3 := by rw [hW3]; exact (Below.refl _ w2).alloc (Nat.le_refl _) _
                have HST3 := Lib.hid (show St w W3 [(w.heap.size, Obj.cells #[Value.int .i64 W, Value.slice A l.length c] 49 (0, 0)), (w.heap.size + 1, Obj.cells #[Value.int .i64 0, Value.slice none 0 0] 49 (0, 0)), (w1.heap.size, Obj.cells #[Value.int .i64 W, v] 49 (0, 0)), (w2.heap.size, Obj.cells #[Value.int .i64 (bitsL l), Value.slice none 0 0] 24 (0, 0))] by rw [hW3]; exact HST2.out.alloc _ _ rfl)
                have hgi := HGC.out i
                rw [HCEL.out] at hgi
                have HRC := Lib.hid ((RRecord_any (bitsL l) none 0 ([]) x 1 W3 (Rd.nil) (by have := hgi.2.2.1; omega) (fun q hq => by have := (hgi.2.2.2.1 q hq).1; have := maxB_bd _ hd hd'; omega) (by unfold I64; omega)).mono (fun e w' h => h.form))
                have HCD := Lib.hid (show codePut W l t x = codeR (bitsL l) ([]) x 1 by rw [HC.out, ← HIN.out, HCEL.out])
                have hlt2 : w2.heap.size < W3.heap.size := HST3.out.lt 3 rfl
                have HFX3 := Lib.hid (show Fr (fun j => w2.heap.size ≤ j) w2 W3 by rw [hW3]; exact (Fr.refl _ w2).alloc _)
                clear hgi
                go_wp2_with fail
                rw [← hW3]
                clear hW3
                refine HRC.out.mono ?_
                rintro e w4 ⟨b4, A4, n4, c4, rfl, hs4, hz4, hb4⟩
                have hsz4 := hb4.size
                have HS4 := Lib.hid hs4
                have HB4 := Lib.hid hb4
                have HSTr := Lib.hid (HST3.out.call hb4)
                clear k00 k01 l0 k10 k11 z10 z11 l1 k20 k21 z20 z21 l2 hs4 hz4 hb4 HRC hb3
                obtain ⟨k00, k01, _, _, l0⟩ := HSTr.out.two 0 rfl
                obtain ⟨k10, k11, z10, z11, l1⟩ := HSTr.out.two 1 rfl
                obtain ⟨k20, k21, z20, z21, l2⟩ := HSTr.out.two 2 rfl
                obtain ⟨k30, k31, z30, z31, l3⟩ := HSTr.out.two 3 rfl
                by_cases h0 : codeR (bitsL l) ([]) x 1 = 0
                · obtain ⟨cs', hh, hd4, hn4, hrd4⟩ := HS4.out h0
                  replace hd4 := hd4.symm
                  subst hn4
                  have HB4E := Lib.hid hd4
                  have HRD4 := Lib.hid hrd4
                  have HH := Lib.hid hh
                  have HH0 := Lib.hid h0
                  rw [h0]
                  clear hrd4 hh HS4 h0 hd4
                  have HFX := Lib.hid (show Fr (fun j => w2.heap.size ≤ j) w2 (((w4.setCell ⟨w2.heap.size, 0, none⟩ (.int .i64 b4)).setCell ⟨w2.heap.size, 1, none⟩ (.slice A4 cs'.length c4)).alloc (.cells #[.int .i64 b4, .slice A4 cs'.length c4] 24)) from
                    ((Fr.setCell (p := ⟨w2.heap.size, 1, none⟩) (Fr.setCell (p := ⟨w2.heap.size, 0, none⟩) (Fr.trans HFX3.out (Fr.of_below HB4.out) (fun j _ h => by omega)) (fun _ => Nat.le_refl _) _) (fun _ => Nat.le_refl _) _).alloc _))
                  have HRX := Lib.hid (show RdP (((w4.setCell ⟨w2.heap.size, 0, none⟩ (.int .i64 b4)).setCell ⟨w2.heap.size, 1, none⟩ (.slice A4 cs'.length c4)).alloc (.cells #[.int .i64 b4, .slice A4 cs'.length c4] 24)) (fun b => (b < w.heap.size ∨ w1.heap.size + 1 ≤ b) ∧ b < (((w4.setCell ⟨w2.heap.size, 0, none⟩ (.int .i64 b4)).setCell ⟨w2.heap.size, 1, none⟩ (.slice A4 cs'.length c4)).alloc (.cells #[.int .i64 b4, .slice A4 cs'.length c4] 24)).heap.size ∧ some b ≠ v.ownBlock) 2 A4 cs'.length (cells2 cs') from
                    RdP.of ((HRD4.out.fr (may := fun j => j = w2.heap.size) (((Fr.refl (fun j => j = w2.heap.size) w4).setCell (p := ⟨w2.heap.size, 0, none⟩) (fun _ => rfl) _).setCell (p := ⟨w2.heap.size, 1, none⟩) (fun _ => rfl) _) (Nat.le_refl _) (fun j h1 h2 => by omega)).alloc (by simp [World.setCell]) _) (fun b h1 h2 => ⟨.inr (by omega), by simp [World.setCell]; omega, fun hx => by have := ownsRow_block HOW.out.1 hx; omega⟩))
                  have hcell : ∀ j u, [Value.int .i64 (b4), .slice A4 cs'.length c4][j]? = some u → ((((w4.setCell ⟨w2.heap.size, 0, none⟩ (.int .i64 b4)).setCell ⟨w2.heap.size, 1, none⟩ (.slice A4 cs'.length c4)).alloc (.cells #[.int .i64 b4, .slice A4 cs'.length c4] 24)).alloc (.cells #[.int .i64 (b4), .slice A4 cs'.length c4] 24)).cell? ((⟨(((w4.setCell ⟨w2.heap.size, 0, none⟩ (.int .i64 b4)).setCell ⟨w2.heap.size, 1, none⟩ (.slice A4 cs'.length c4)).alloc (.cells #[.int .i64 b4, .slice A4 cs'.length c4] 24)).heap.size, 0, none⟩ : Addr).add j) = some u := cell_two_new _ _ _ _
                  simp only [World.size_alloc, World.size_setCell] at hcell
                  have HCELL := Lib.hid hcell
                  have hwx := HFX.out.size
                  have how5 := HOW2.out.fr HFX.out (fun i h1 h2 => by omega)
                  have HO5 := Lib.hid how5
                  have HO5R := Lib.hid (how5.1.alloc (.cells #[.int .i64 (b4), .slice A4 cs'.length c4] 24))
                  have st5 := HST2.out.fr HFX.out (fun i b ob hi hm => by
                    have := List.mem_of_getElem? hi
                    simp only [List.mem_cons, Prod.mk.injEq, List.not_mem_nil, or_false] at this
                    omega) (fun i hi => by omega)
                  have HST5 := Lib.hid st5
                  clear hcell how5 st5
                  go_wp2_with (at_builtin; refine wpList_append_lies _ rfl (.tmp 78) (.tmp 80) 47 rfl (w1.heap.size + 1) 24 ih0 _ 2 32 Tryd.underlying47 hih hhz0 hhz1 hhz2 rfl (by decide) v _ _ rfl HO5R.out ⟨w4.heap.size + 1, 0, none⟩ 1 1 [.int .i64 (b4), .slice A4 cs'.length c4] rfl rfl HCELL.out (by simp [Value.oneCell']) (by decide) ?c3 ?c4 ?c5 (w4.heap.size + 1 + 1) (by simp) ?_)
                  case c3 => have := HOL.out; unfold maxLen; omega
                  case c4 => have := HOL.out; omega
                  case c5 => have := hwx; simp only [World.size_alloc, World.size_setCell] at *; omega
                  intro g cap w5 hown' hgrow hat hglt
                  have hf4 := Fr.of_grown hgrow
                  have hvb : ∀ i, some i = v.ownBlock → w1.heap.size + 1 ≤ i ∧ i < wr.heap.size := fun i hi => ownsRow_block HOW.out.1 hi
                  have how6 := (HO5.out.fr (may := fun _ => False) ((Fr.refl _ _).alloc (.cells #[.int .i64 (b4), .slice A4 cs'.length c4] 24)) (fun _ _ h => absurd h (by simp))).app (x := ⟨b4, A4, c4, cs'⟩) (HRX.out.keep (fun p hp => World.cell?_alloc_lt _ _ _ hp.2.1) (fun b hb => ⟨hb.1, by have := hb.2.1; simp only [World.size_alloc] at *; omega, hb.2.2⟩)) hown' hgrow (by simpa using hat)
                  have st4 := (HST5.out.more (.cells #[.int .i64 (b4), .slice A4 cs'.length c4] 24)).fr hf4 (fun i b ob hi hm => by
                    have := List.mem_of_getElem? hi
                    simp only [List.mem_cons, Prod.mk.injEq, List.not_mem_nil, or_false] at this
                    have := hvb b hm
                    omega) (fun i hi => by have := hvb i hi; omega)
                  have HOW6 := Lib.hid how6
                  have HST4 := Lib.hid st4
                  have hgs : g < w5.heap.size := hglt
                  clear k00 k01 l0 k10 k11 z10 z11 l1 k20 k21 z20 z21 l2 k30 k31 z30 z31 l3
                  obtain ⟨k00, k01, _, _, l0⟩ := st4.two 0 rfl
                  obtain ⟨k10, k11, z10, z11, l1⟩ := st4.two 1 rfl
                  obtain ⟨k20, k21, z20, z21, l2⟩ := st4.two 2 rfl
                  clear how6 st4 hown' hgrow hat hf4 hvb
                  go_wp2
                  go_roundw
                  case rel =>
                    refine ⟨i + 1, .slice (some ⟨g, 0, none⟩) (out.length + 1) cap, out ++ [⟨b4, A4, c4, cs'⟩], by unfold putN at *; omega, by go_num, ?_, ?_, ?_, ?_, by have := HOL.out; simp; omega⟩
                    · intro hin; rw [← HIN.out, HCEL.out]; exact HH0.out
                    · rw [absL_snoc, HAB.out, range_map_snoc]; congr 2; unfold putAt; rw [if_pos HIN.out, HCEL.out, histOf_eq HH.out, HB4E.out]
                    · exact St.setLast [(w.heap.size, Obj.cells #[Value.int .i64 W, Value.slice A l.length c] 49 (0, 0)), (w.heap.size + 1, Obj.cells #[Value.int .i64 0, Value.slice none 0 0] 49 (0, 0))] 1 _ HST4.out (by simp; omega)
                    · exact HOW6.out.fr (may := fun i => i = w1.heap.size) ((Fr.refl (fun i => i = w1.heap.size) w5).setCell (p := ⟨w1.heap.size, 1, none⟩) (fun _ => rfl) _) (fun i _ hi => by omega)
                  case measure => simp [intOf]; omega
                · have HH0 := Lib.hid h0
                  generalize codeR (bitsL l) ([]) x 1 = cd at *
                  have tc : (cd == 0) = false := by simpa using h0
                  have tc' : (cd != 0) = true := by simpa using h0
                  clear HS4
                  go_wp2
                  refine bodyPost_ret (v := .tuple #[.agg #[.int .i64 0, .slice none 0 0], .int .i64 cd]) (by simp [results, Tryd.results35, go_sem, k10, k11, l1]) rfl (SPost.none h0 HCD.out ?_)
                  repeat (first | exact HSTr.out.below | (refine Below.setCell ?_ (by dsimp only; omega) _) | (refine Below.alloc ?_ (by simp [World.setCell]; omega) _))
              · skip
                have te : ((i : Int) == (n : Int)) = false := by simp; omega
                have HFX := Lib.hid (show Fr (fun j => w2.heap.size ≤ j) w2 (w2.alloc (.cells #[.int .i64 (bitsL l), .slice none 0 0] 24)) from (Fr.refl _ w2).alloc _)
                have HRX := Lib.hid (show RdP (w2.alloc (.cells #[.int .i64 (bitsL l), .slice none 0 0] 24)) (fun b => (b < w.heap.size ∨ w1.heap.size + 1 ≤ b) ∧ b < (w2.alloc (.cells #[.int .i64 (bitsL l), .slice none 0 0] 24)).heap.size ∧ some b ≠ v.ownBlock) 2 none 0 (cells2 ([])) from ⟨rfl, fun h => absurd h (by simp)⟩)
                have hcell : ∀ j u, [Value.int .i64 (bitsL l), .slice none 0 0][j]? = some u → ((w2.alloc (.cells #[.int .i64 (bitsL l), .slice none 0 0] 24)).alloc (.cells #[.int .i64 (bitsL l), .slice none 0 0] 24)).cell? ((⟨(w2.alloc (.cells #[.int .i64 (bitsL l), .slice none 0 0] 24)).heap.size, 0, none⟩ : Addr).add j) = some u := cell_two_new _ _ _ _
                simp only [World.size_alloc] at hcell
                have HCELL := Lib.hid hcell
                have hwx := HFX.out.size
                have how5 := HOW2.out.fr HFX.out (fun i h1 h2 => by omega)
                have HO5 := Lib.hid how5
                have HO5R := Lib.hid (how5.1.alloc (.cells #[.int .i64 (bitsL l), .slice none 0 0] 24))
                have st5 := HST2.out.fr HFX.out (fun i b ob hi hm => by
                  have := List.mem_of_getElem? hi
                  simp only [List.mem_cons, Prod.mk.injEq, List.not_mem_nil, or_false] at this
                  omega) (fun i hi => by omega)
                have HST5 := Lib.hid st5
                clear hcell how5 st5
                go_wp2_with (at_builtin; refine wpList_append_lies _ rfl (.tmp 78) (.tmp 80) 47 rfl (w1.heap.size + 1) 24 ih0 _ 2 32 Tryd.underlying47 hih hhz0 hhz1 hhz2 rfl (by decide) v _ _ rfl HO5R.out ⟨w2.heap.size + 1, 0, none⟩ 1 1 [.int .i64 (bitsL l), .slice none 0 0] rfl rfl HCELL.out (by simp [Value.oneCell']) (by decide) ?c3 ?c4 ?c5 (w2.heap.size + 1 + 1) (by simp) ?_)
                case c3 => have := HOL.out; unfold maxLen; omega
                case c4 => have := HOL.out; omega
                case c5 => have := hwx; simp only [World.size_alloc] at *; omega
                intro g cap w4 hown' hgrow hat hglt
                have hf4 := Fr.of_grown hgrow
                have hvb : ∀ i, some i = v.ownBlock → w1.heap.size + 1 ≤ i ∧ i < wr.heap.size := fun i hi => ownsRow_block HOW.out.1 hi
                have how6 := (HO5.out.fr (may := fun _ => False) ((Fr.refl _ _).alloc (.cells #[.int .i64 (bitsL l), .slice none 0 0] 24)) (fun _ _ h => absurd h (by simp))).app (x := ⟨bitsL l, none, 0, []⟩) (HRX.out.keep (fun p hp => World.cell?_alloc_lt _ _ _ hp.2.1) (fun b hb => ⟨hb.1, by have := hb.2.1; simp only [World.size_alloc] at *; omega, hb.2.2⟩)) hown' hgrow (by simpa using hat)
                have st4 := (HST5.out.more (.cells #[.int .i64 (bitsL l), .slice none 0 0] 24)).fr hf4 (fun i b ob hi hm => by
                  have := List.mem_of_getElem? hi
                  simp only [List.mem_cons, Prod.mk.injEq, List.not_mem_nil, or_false] at this
                  have := hvb b hm
                  omega) (fun i hi => by have := hvb i hi; omega)
                have HOW6 := Lib.hid how6
                have HST4 := Lib.hid st4
                have hgs : g < w4.heap.size := hglt
                clear k00 k01 l0 k10 k11 z10 z11 l1 k20 k21 z20 z21 l2
                obtain ⟨k00, k01, _, _, l0⟩ := st4.two 0 rfl
                obtain ⟨k10, k11, z10, z11, l1⟩ := st4.two 1 rfl
                obtain ⟨k20, k21, z20, z21, l2⟩ := st4.two 2 rfl
                clear how6 st4 hown' hgrow hat hf4 hvb
                go_wp2
                go_roundw
                case rel =>
                  refine ⟨i + 1, .slice (some ⟨g, 0, none⟩) (out.length + 1) cap, out ++ [⟨bitsL l, none, 0, []⟩], by unfold putN at *; omega, by go_num, ?_, ?_, ?_, ?_, by have := HOL.out; simp; omega⟩
                  · intro hin; exact HOK.out (by omega)
                  · rw [absL_snoc, HAB.out, range_map_snoc]; congr 2; unfold putAt; rw [if_neg hin, HCEL.out]
                  · exact St.setLast [(w.heap.size, Obj.cells #[Value.int .i64 W, Value.slice A l.length c] 49 (0, 0)), (w.heap.size + 1, Obj.cells #[Value.int .i64 0, Value.slice none 0 0] 49 (0, 0))] 1 _ HST4.out (by simp; omega)
                  · exact HOW6.out.fr (may := fun i => i = w1.heap.size) ((Fr.refl (fun i => i = w1.heap.size) w4).setCell (p := ⟨w1.heap.size, 1, none⟩) (fun _ => rfl) _) (fun i _ hi => by omega)
                case measure => simp [intOf]; omega
          · have HC2 := Lib.hid (show codePut W l t x = 0 from HC.out.trans (HOK.out (by unfold putN at hlt; omega)))
            have HAB2 := Lib.hid (show absL out = putAb l (t / W).toNat x by rw [hnq', Int.toNat_natCast]; unfold putAb; rw [HAB.out, show i = putN l n by omega])
            obtain ⟨Av, cv, rfl, hrv⟩ := HOW.out.rd
            have f1 : l.length ≤ i := by unfold putN at hlt; omega
            have f2 : n < i := by unfold putN at hlt; omega
            have t1 : decide ((i : Int) < (l.length : Int)) = false := by unfold putN at hlt; simp; omega
            have t2 : decide ((i : Int) ≤ (n : Int)) = false := by unfold putN at hlt; simp; omega
            go_wp2
            refine bodyPost_ret (v := .tuple #[.agg #[.int .i64 W, .slice Av out.length cv], .int .i64 0]) (by simp [results, Tryd.results35, go_sem, k10, k11]) rfl ⟨_, by rw [HC2.out], fun _ => ⟨Av, cv, out, rfl, ?_, HAB2.out⟩, fun h => absurd HC2.out h, ?_⟩
            · have hh := (HOW.out.fr (may := fun i => i = w.heap.size + 1) (((Fr.refl (fun i => i = w.heap.size + 1) wr).setCell (p := ⟨w.heap.size + 1, 0, none⟩) (fun _ => rfl) (.int .i64 W)).setCell (p := ⟨w.heap.size + 1, 1, none⟩) (fun _ => rfl) (.slice Av out.length cv)) (fun i _ hi => by omega)).rd
              obtain ⟨A', c', e, h'⟩ := hh
              cases e
              exact h'
            · repeat (first | exact HST.out.below | (refine Below.setCell ?_ (by dsimp only; omega) _))
  · have HC := Lib.hid (show codePut W l t x = codeSer W l by unfold codePut; rw [if_pos hc])
    generalize codeSer W l = cd at *
    have tc : (cd == 0) = false := by simpa using hc
    have tc' : (cd != 0) = true := by simpa using hc
    go_wp2
    refine bodyPost_ret (v := .tuple #[.agg #[.int .i64 0, .slice none 0 0], .int .i64 cd]) (by simp [results, Tryd.results35, go_sem, k10, k11]) rfl (SPost.none hc HC.out ?_)
    repeat (first | exact HST1.out.below | (refine Below.setCell ?_ (by dsimp only; omega) _))
end Go.Proofs.YtgmbgclhljobaaaDoor
