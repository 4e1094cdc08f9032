/- Roll of the reference. -/
import Derived.Test.YtgmbgclhljobaaaDoorWin
import Derived.Test.YtgmbgclhljobaaaDoorInkSer
import Derived.Deep.AppendLies
namespace Go.Proofs.YtgmbgclhljobaaaDoor
open Go Go.RowKit Go.Proofs Go.Maps

/-- what lies ahead of the m-th chunk, merged chunk by chunk -/
noncomputable def rl (l : List Hg) (k : Nat) : Nat → Int × List (Int × List (Int × Int))
  | 0 => (0, [])
  | m + 1 => if (rl l k m).1 = 0 then (if (mgAll (csL (cut2 l (m * k) (m * k + k)))).1 = 0 then (0, (rl l k m).2 ++ [(bitsL l, (mgAll (csL (cut2 l (m * k) (m * k + k)))).2)]) else ((mgAll (csL (cut2 l (m * k) (m * k + k)))).1, [])) else rl l k m
def nch (n k : Nat) : Nat := (n + k - 1) / k
theorem nch_lt {n k m : Nat} (hk : 1 ≤ k) : m < nch n k ↔ m * k < n := by
  unfold nch
  rw [Nat.lt_iff_add_one_le, Nat.le_div_iff_mul_le (by omega), Nat.add_mul]
  omega
theorem rl_bad {l : List Hg} {k m : Nat} (h : (rl l k m).1 ≠ 0) : ∀ j, m ≤ j → rl l k j = rl l k m
  | 0, hj => by obtain rfl : m = 0 := by omega
                rfl
  | j + 1, hj => by
    by_cases e : m = j + 1
    · rw [e]
    · have ih := rl_bad h j (by omega)
      show (if (rl l k j).1 = 0 then _ else rl l k j) = _
      rw [ih, if_neg h]
def badRoll (W k : Int) : Prop := k < 1 ∨ 2000 < k ∨ 1000000000000 < k * W
instance (W k : Int) : Decidable (badRoll W k) := by unfold badRoll; infer_instance
noncomputable def rollOf (l : List Hg) (k : Int) : Int × List (Int × List (Int × Int)) := rl l k.toNat (nch l.length k.toNat)
/-- the error of Roll -/
noncomputable def codeRoll (W : Int) (l : List Hg) (k : Int) : Int := if codeSer W l ≠ 0 then codeSer W l else if badRoll W k then 9 else (rollOf l k).1
theorem SPost.none {W : Int} {ab : List (Int × List (Int × Int))} {C code : Int} {w X : World} (h0 : code ≠ 0) (hC : C = code) (hb : Below w.heap.size w X) : SPost W ab C w (.returned (.tuple #[.agg #[.int .i64 0, .slice none 0 0], .int .i64 code])) X := by
  subst hC
  exact ⟨_, rfl, fun h => absurd h h0, fun _ => rfl, hb⟩
theorem Tryd.infoHg : (Tryd.prog.info? 24).map (fun i => (i.zero, i.size, i.bytes)) = some (some (.agg #[.int .i64 0, .slice none 0 0]), 2, 32) := by kernel_rfl
theorem absL_snoc (l : List Hg) (h : Hg) : absL (l ++ [h]) = absL l ++ [(h.b, h.cs)] := by simp [absL]

set_option maxHeartbeats 2000000 in
set_option maxRecDepth 100000 in
theorem RRoll_any (W : Int) (A : Option Addr) (c : Nat) (l : List Hg) (k : Int) (w : World) (hr : HgR w w.heap.size A l.length l) (hn : l.length < 9223372036854775807) (hcs : ∀ h ∈ l, h.cs.length < 9223372036854775807 ∧ ∀ q ∈ h.cs, q.1 ≤ 9223372036854775807) :
    Calls Tryd.prog 39 #[.agg #[.int .i64 W, .slice A l.length c], .int .i64 k] w (SPost (k * W) (rollOf l k).2 (codeRoll W l k) w) := by
  obtain ⟨W0, hW0⟩ : ∃ W0, W0 = (w.alloc (.cells #[Value.int .i64 W, Value.slice A l.length c] 49)).alloc (.cells #[Value.int .i64 0, Value.slice none 0 0] 49) := ⟨_, rfl⟩
  have HST0 := Lib.hid (show St w W0 [(w.heap.size, Obj.cells #[Value.int .i64 W, Value.slice A l.length c] 49 (0, 0)), (w.heap.size + 1, Obj.cells #[Value.int .i64 0, Value.slice none 0 0] 49 (0, 0))] by rw [hW0]; exact ((St.start w).alloc _ _ rfl).alloc _ _ (by simp))
  have HCK := Lib.hid (RCheckSeries_any W A c l W0 (hr.old HST0.out.below) hn hcs)
  have HR := Lib.hid hr
  obtain ⟨ih0, hih, hhz0, hhz1, hhz2⟩ := info_parts Tryd.infoHg
  clear hr hcs
  go_enter Tryd.func39, Tryd.ntmps39
  go_wp2_with fail
  rw [← hW0]
  clear hW0
  refine HCK.out.mono ?_
  rintro e w1 ⟨rfl, hb1⟩
  clear HCK
  have HST1 := Lib.hid (HST0.out.call hb1)
  have hs1 := hb1.size
  obtain ⟨k00, k01, z00, z01, l0⟩ := HST1.out.two 0 rfl
  obtain ⟨k10, k11, z10, z11, l1⟩ := HST1.out.two 1 rfl
  clear hb1
  by_cases hc : codeSer W l = 0
  · rw [hc]
    obtain ⟨hd, hd', hg⟩ := bitsL_good hc
    obtain ⟨hWW, hn2, _⟩ := codeSer_zero hc
    have hW1 : 1 ≤ W ∧ W ≤ 1000000000000 := by unfold badW at hWW; omega
    have HG := Lib.hid hg
    clear hg hWW
    by_cases hb : badRoll W k
    · have HC := Lib.hid (show codeRoll W l k = 9 by unfold codeRoll; rw [if_neg (not_not_intro hc), if_pos hb])
      clear hc
      by_cases d1 : k < 1
      · have d1' : decide (k < 1) = true := by simpa using d1
        go_wp2
        refine bodyPost_ret (v := .tuple #[.agg #[.int .i64 0, .slice none 0 0], .int .i64 9]) (by simp [results, Tryd.results39, go_sem, k10, k11]) rfl (SPost.none (by omega) HC.out ?_)
        repeat (first | exact HST1.out.below | (refine Below.setCell ?_ (by dsimp only; omega) _))
      · have d1' : decide (k < 1) = false := by simpa using d1
        by_cases d2 : 2000 < k
        · have d2' : decide (2000 < k) = true := by simpa using d2
          go_wp2
          refine bodyPost_ret (v := .tuple #[.agg #[.int .i64 0, .slice none 0 0], .int .i64 9]) (by simp [results, Tryd.results39, go_sem, k10, k11]) rfl (SPost.none (by omega) HC.out ?_)
          repeat (first | exact HST1.out.below | (refine Below.setCell ?_ (by dsimp only; omega) _))
        · have d2' : decide (2000 < k) = false := by simpa using d2
          have hkw : k * W ≤ 2000 * 1000000000000 := Int.mul_le_mul (by omega) (by omega) (by omega) (by omega)
          have hkw0 : 0 ≤ k * W := Int.mul_nonneg (by omega) (by omega)
          have d3' : decide (1000000000000 < k * W) = true := by unfold badRoll at hb; simp; omega
          clear hb
          go_wp2
          refine bodyPost_ret (v := .tuple #[.agg #[.int .i64 0, .slice none 0 0], .int .i64 9]) (by simp [results, Tryd.results39, go_sem, k10, k11]) rfl (SPost.none (by omega) HC.out ?_)
          repeat (first | exact HST1.out.below | (refine Below.setCell ?_ (by dsimp only; omega) _))
    · have d1' : decide (k < 1) = false := by unfold badRoll at hb; simp; omega
      have d2' : decide (2000 < k) = false := by unfold badRoll at hb; simp; omega
      have d3' : decide (1000000000000 < k * W) = false := by unfold badRoll at hb; simp; omega
      have hkk : 1 ≤ k ∧ k ≤ 2000 ∧ k * W ≤ 1000000000000 := by unfold badRoll at hb; omega
      have HC := Lib.hid (show codeRoll W l k = (rollOf l k).1 by unfold codeRoll; rw [if_neg (not_not_intro hc), if_neg hb])
      clear hb hc
      obtain ⟨k, rfl⟩ : ∃ k' : Nat, k = (k' : Int) := ⟨k.toNat, by omega⟩
      have hkw0 : 0 ≤ (k : Int) * W := Int.mul_nonneg (by omega) (by omega)
      have hl1w : w.heap.size + 1 < w1.heap.size := l1
      have HRO := Lib.hid (show rollOf l (k : Int) = rl l k (nch l.length k) by unfold rollOf; simp)
      rw [HRO.out] at HC
      go_wp2
      go_loopw [8, 9, 10] (fun i _ _ wr => ∃ (m : Nat) (v : Value) (out : List Hg), m ≤ nch l.length k ∧ i = .int .i64 ((m * k : Nat) : Int) ∧ (rl l k m).1 = 0 ∧ absL out = (rl l k m).2 ∧ St w wr [(w.heap.size, Obj.cells #[Value.int .i64 W, Value.slice A l.length c] 49 (0, 0)), (w.heap.size + 1, Obj.cells #[Value.int .i64 0, Value.slice none 0 0] 49 (0, 0)), (w1.heap.size, Obj.cells #[Value.int .i64 ((k : Int) * W), v] 49 (0, 0))] ∧ HgOwn wr w.heap.size (w1.heap.size + 1) v out ∧ out.length = m) (fun i _ _ _ => 1000000 - (intOf i).toNat)
      case atStart => exact ⟨0, .slice none 0 0, [], Nat.zero_le _, by simp, rfl, rfl, HST1.out.alloc _ _ rfl, HgOwn.nil, rfl⟩
      case round =>
        obtain ⟨m, v, out, hm, rfl, hrl, hab, hst, how, hol⟩ := hrel
        have HST := Lib.hid hst
        have HOW := Lib.hid how
        have HRL := Lib.hid hrl
        have HAB := Lib.hid hab
        clear k00 k01 z00 z01 l0 k10 k11 z10 z11 l1
        obtain ⟨k00, k01, _, _, l0⟩ := hst.two 0 rfl
        obtain ⟨k10, k11, z10, z11, l1⟩ := hst.two 1 rfl
        obtain ⟨k20, k21, z20, z21, l2⟩ := hst.two 2 rfl
        have hmk : m * k ≤ l.length + 2000 := by
          rcases Nat.eq_zero_or_pos m with h0 | h0
          · subst h0; simp
          · have := (nch_lt (n := l.length) (k := k) (m := m - 1) (by omega)).1 (by omega)
            have e : m * k = (m - 1) * k + k := by conv => lhs; rw [show m = (m - 1) + 1 by omega, Nat.add_mul, Nat.one_mul]
            omega
        have HOL := Lib.hid hol
        clear hst how hrl hab hol
        by_cases hlt : m * k < l.length
        · have hm2 : m < 2000 := by have := Nat.le_mul_of_pos_right m (show 0 < k by omega); omega
          have hmn := (nch_lt (n := l.length) (k := k) (m := m) (by omega)).2 hlt
          have HJ := Lib.hid (joined_any W A c l (m * k) (m * k + k) wr (HR.out.old HST.out.below) hn2 (by omega) (by omega) (by omega) hd hd' HG.out)
          have hmj : ((m * k + k : Nat) : Int) = ((m * k : Nat) : Int) + (k : Int) := by omega
          rw [hmj] at HJ
          unfold MgPost at HJ
          obtain ⟨mg, hmg⟩ : ∃ mg, mg = mgAll (csL (cut2 l (m * k) (m * k + k))) := ⟨_, rfl⟩
          rw [← hmg] at HJ
          have HMG := Lib.hid hmg
          obtain ⟨mk, hmk'⟩ : ∃ mk : Nat, mk = m * k := ⟨_, rfl⟩
          rw [← hmk'] at hmk hlt hmj HJ ⊢
          have HMK := Lib.hid hmk'
          have tl : decide ((mk : Int) < (l.length : Int)) = true := by simp; omega
          clear hmg hmk'
          go_wp2_with fail
          refine (HJ.out.mono (fun e w' h => h.form)).mono ?_
          rintro e w3 ⟨b3, A3, n3, c3, rfl, hs3, hz3, hb3⟩
          have hsz3 := hb3.size
          have HS3 := Lib.hid hs3
          have HSTw := Lib.hid (HST.out.call hb3)
          have HOWw := Lib.hid (HOW.out.call hb3)
          have hlw : w1.heap.size < wr.heap.size := l2
          clear k00 k01 l0 k10 k11 z10 z11 l1 k20 k21 z20 z21 l2 hs3 hz3 hb3 HJ
          obtain ⟨k00, k01, _, _, l0⟩ := HSTw.out.two 0 rfl
          obtain ⟨k10, k11, z10, z11, l1⟩ := HSTw.out.two 1 rfl
          obtain ⟨k20, k21, z20, z21, l2⟩ := HSTw.out.two 2 rfl
          by_cases h0 : mg.1 = 0
          · obtain ⟨cs', hh, hd3, hn3, hrd3⟩ := HS3.out h0
            subst hd3 hn3
            have HRD := Lib.hid hrd3
            have HH := Lib.hid hh
            have HH0 := Lib.hid h0
            rw [h0]
            clear hrd3 hh HS3 h0
            have hcell : ∀ j u, [Value.int .i64 (bitsL l), .slice A3 cs'.length c3][j]? = some u → ((w3.alloc (.cells #[.int .i64 (bitsL l), .slice A3 cs'.length c3] 24)).alloc (.cells #[.int .i64 (bitsL l), .slice A3 cs'.length c3] 24)).cell? ((⟨w3.heap.size + 1, 0, none⟩ : Addr).add j) = some u := by
              have := cell_two_new (w3.alloc (.cells #[.int .i64 (bitsL l), .slice A3 cs'.length c3] 24)) (.int .i64 (bitsL l)) (.slice A3 cs'.length c3) 24
              simpa only [World.size_alloc] using this
            have HCELL := Lib.hid hcell
            have hl0 := HOWw.out.1
            clear hcell
            go_wp2_with (at_builtin; refine wpList_append_lies _ rfl (.tmp 58) (.tmp 60) 47 rfl (w1.heap.size + 1) 24 ih0 _ 2 32 Tryd.underlying47 hih hhz0 hhz1 hhz2 rfl (by decide) v _ _ rfl ((hl0.alloc _).alloc _) ⟨w3.heap.size + 1, 0, none⟩ 1 1 [.int .i64 (bitsL l), .slice A3 cs'.length c3] rfl rfl HCELL.out (by simp [Value.oneCell']) (by decide) ?c3 ?c4 ?c5 (w3.heap.size + 1 + 1) (by simp) ?_)
            case c3 => have := HOL.out; unfold maxLen; omega
            case c4 => have := HOL.out; omega
            case c5 => simp; omega
            intro g cap w4 hown' hgrow hat hglt
            have hf4 := Fr.of_grown hgrow
            have hs4 := hgrow.size
            simp only [World.size_alloc] at hs4
            have hvb : ∀ i, some i = v.ownBlock → w1.heap.size + 1 ≤ i ∧ i < wr.heap.size := fun i hi => ownsRow_block HOW.out.1 hi
            have how5 := (HOWw.out.fr (may := fun _ => False) (((Fr.refl _ w3).alloc (.cells #[.int .i64 (bitsL l), .slice A3 cs'.length c3] 24)).alloc (.cells #[.int .i64 (bitsL l), .slice A3 cs'.length c3] 24)) (fun _ _ h => absurd h (by simp)))
            have hrd5 := ((HRD.out.alloc (Nat.le_refl _) (.cells #[.int .i64 (bitsL l), .slice A3 cs'.length c3] 24)).alloc (by simp) (.cells #[.int .i64 (bitsL l), .slice A3 cs'.length c3] 24))
            have how6 := how5.app (x := ⟨bitsL l, A3, c3, cs'⟩) (RdP.of hrd5 (fun b h1 h2 => ⟨.inr (by omega), by simp; omega, fun hx => by have := hvb b hx; omega⟩)) hown' hgrow (by simpa using hat)
            have st4 := (((HSTw.out.more (.cells #[.int .i64 (bitsL l), .slice A3 cs'.length c3] 24)).more (.cells #[.int .i64 (bitsL l), .slice A3 cs'.length c3] 24)).fr hf4 (fun i b ob hi hm => by
              have := List.mem_of_getElem? hi
              simp only [List.mem_cons, Prod.mk.injEq, List.not_mem_nil, or_false] at this
              have := hvb b hm
              omega) (fun i hi => by have := hvb i hi; omega))
            have hrl' : (rl l k (m + 1)).1 = 0 ∧ absL (out ++ [⟨bitsL l, A3, c3, cs'⟩]) = (rl l k (m + 1)).2 := by
              have hmg := HMG.out
              have e2 : mg.2 = cs' := by
                have hg2 := mg_good (l := csL (cut2 l (m * k) (m * k + k))) hd hd' (fun x hx => by
                  unfold csL at hx
                  obtain ⟨h, hh, rfl⟩ := List.mem_map.1 hx
                  have := HG.out h (mem_cut2 hh)
                  rw [this.2] at this; exact this.1) (by rw [← hmg]; exact HH0.out)
                rw [← hmg] at hg2
                exact IsHist.uniq hg2.hist HH.out
              show (if _ then _ else _ : Int × _).1 = 0 ∧ _ = (if _ then _ else _ : Int × _).2
              rw [if_pos HRL.out, ← hmg, if_pos HH0.out, absL_snoc, HAB.out, e2]
              exact ⟨rfl, rfl⟩
            have HRL' := Lib.hid hrl'
            have HOW6 := Lib.hid how6
            have HST4 := Lib.hid st4
            have hgs : g < w4.heap.size := hglt
            clear k00 k01 l0 k10 k11 z10 z11 l1 k20 k21 z20 z21 l2
            obtain ⟨k00, k01, _, _, l0⟩ := st4.two 0 rfl
            obtain ⟨k10, k11, z10, z11, l1⟩ := st4.two 1 rfl
            obtain ⟨k20, k21, z20, z21, l2⟩ := st4.two 2 rfl
            clear hrl' how5 how6 st4 hown' hgrow hat hf4 hrd5 hl0 hvb
            go_wp2
            go_roundw
            case rel =>
              refine ⟨m + 1, .slice (some ⟨g, 0, none⟩) (out.length + 1) cap, out ++ [⟨bitsL l, A3, c3, cs'⟩], by omega, ?_, HRL'.out.1, HRL'.out.2, ?_, ?_, by have := HOL.out; simp; omega⟩
              · rw [HMK.out]; congr 1; rw [Nat.add_mul]; omega
              · exact St.setLast [(w.heap.size, Obj.cells #[Value.int .i64 W, Value.slice A l.length c] 49 (0, 0)), (w.heap.size + 1, Obj.cells #[Value.int .i64 0, Value.slice none 0 0] 49 (0, 0))] 1 _ HST4.out (by simp; omega)
              · exact HOW6.out.fr (may := fun i => i = w1.heap.size) ((Fr.refl (fun i => i = w1.heap.size) w4).setCell (p := ⟨w1.heap.size, 1, none⟩) (fun _ => rfl) _) (fun i _ hi => by omega)
            case measure => simp [intOf]; omega
          · have HC2 := Lib.hid (show codeRoll W l (k : Int) = mg.1 by
              rw [HC.out]
              have e1 : rl l k (m + 1) = (mg.1, []) := by
                have hmg := HMG.out
                show (if _ then _ else _) = _
                rw [if_pos HRL.out, ← hmg, if_neg h0]
              rw [rl_bad (m := m + 1) (by rw [e1]; exact h0) _ hmn, e1])
            generalize mg.1 = cd at *
            have tc : (cd == 0) = false := by simpa using h0
            have tc' : (cd != 0) = true := by simpa using h0
            clear HS3
            go_wp2
            refine bodyPost_ret (v := .tuple #[.agg #[.int .i64 0, .slice none 0 0], .int .i64 cd]) (by simp [results, Tryd.results39, go_sem, k10, k11, l1]) rfl (SPost.none h0 HC2.out ?_)
            repeat (first | exact HSTw.out.below | (refine Below.setCell ?_ (by dsimp only; omega) _) | (refine Below.alloc ?_ (by simp [World.setCell]; omega) _))
        · have hmm : m = nch l.length k := by
            have : ¬ m < nch l.length k := fun h => hlt ((nch_lt (n := l.length) (k := k) (m := m) (by omega)).1 h)
            omega
          have HC2 := Lib.hid (show codeRoll W l (k : Int) = 0 by rw [HC.out, ← hmm]; exact HRL.out)
          have HAB2 := Lib.hid (show absL out = (rollOf l (k : Int)).2 by rw [HRO.out, ← hmm]; exact HAB.out)
          obtain ⟨Av, cv, rfl, hrv⟩ := HOW.out.rd
          obtain ⟨mk, hmk'⟩ : ∃ mk : Nat, mk = m * k := ⟨_, rfl⟩
          rw [← hmk'] at hmk hlt ⊢
          have tl : decide ((mk : Int) < (l.length : Int)) = false := by simp; omega
          clear hmk' hmm
          go_wp2
          refine bodyPost_ret (v := .tuple #[.agg #[.int .i64 ((k : Int) * W), .slice Av out.length cv], .int .i64 0]) (by simp [results, Tryd.results39, go_sem, k10, k11]) rfl ⟨_, by rw [HC2.out], fun _ => ⟨Av, cv, out, rfl, ?_, HAB2.out⟩, fun h => absurd HC2.out h, ?_⟩
          · have hh := (HOW.out.fr (may := fun i => i = w.heap.size + 1) (((Fr.refl (fun i => i = w.heap.size + 1) wr).setCell (p := ⟨w.heap.size + 1, 0, none⟩) (fun _ => rfl) (.int .i64 ((k : Int) * W))).setCell (p := ⟨w.heap.size + 1, 1, none⟩) (fun _ => rfl) (.slice Av out.length cv)) (fun i _ hi => by omega)).rd
            obtain ⟨A', c', e, h'⟩ := hh
            cases e
            exact h'
          · repeat (first | exact HST.out.below | (refine Below.setCell ?_ (by dsimp only; omega) _))
  · have HC := Lib.hid (show codeRoll W l k = codeSer W l by unfold codeRoll; rw [if_pos hc])
    generalize codeSer W l = cd at *
    have tc : (cd == 0) = false := by simpa using hc
    have tc' : (cd != 0) = true := by simpa using hc
    go_wp2
    refine bodyPost_ret (v := .tuple #[.agg #[.int .i64 0, .slice none 0 0], .int .i64 cd]) (by simp [results, Tryd.results39, go_sem, k10, k11]) rfl (SPost.none hc HC.out ?_)
    repeat (first | exact HST1.out.below | (refine Below.setCell ?_ (by dsimp only; omega) _))
end Go.Proofs.YtgmbgclhljobaaaDoor
