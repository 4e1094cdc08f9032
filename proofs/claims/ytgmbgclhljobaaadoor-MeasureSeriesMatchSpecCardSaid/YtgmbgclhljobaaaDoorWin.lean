/- Window, of the program and of the reference. -/
import Derived.Test.YtgmbgclhljobaaaDoorMgd
namespace Go.Proofs.YtgmbgclhljobaaaDoor
open Go Go.RowKit Go.Proofs Go.Maps

/-- a box of two cells is there -/
def BoxOK (w : World) (R : Nat) (t : TypeId) : Prop := ∃ x y, w.heap[R]? = some (.cells #[x, y] t (0, 0))
theorem BoxOK.call {X w' : World} {R : Nat} {t : TypeId} (h : BoxOK X R t) (hb : Below X.heap.size X w') : BoxOK w' R t := by
  obtain ⟨x, y, hx⟩ := h
  exact ⟨x, y, (hb.block _ (heap_lt hx)).trans hx⟩
theorem BoxOK.facts {X : World} {R : Nat} {t : TypeId} (h : BoxOK X R t) : ∃ x y, X.cell? ⟨R, 0, none⟩ = some x ∧ X.cell? ⟨R, 1, none⟩ = some y ∧ X.frozen? ⟨R, 0, none⟩ = false ∧ X.frozen? ⟨R, 1, none⟩ = false := by
  obtain ⟨x, y, hx⟩ := h
  exact ⟨x, y, by rw [cellsAt hx]; rfl, by rw [cellsAt hx]; rfl, frozenAt hx 0, frozenAt hx 1⟩
theorem BoxOK.set2 {X : World} {R : Nat} {t : TypeId} (h : BoxOK X R t) (u v : Value) : BoxOK ((X.setCell ⟨R, 0, none⟩ u).setCell ⟨R, 1, none⟩ v) R t := by
  obtain ⟨x, y, hx⟩ := h
  exact ⟨u, v, by simp [World.setCell, Array.getElem?_modify, hx]⟩

theorem St.far2 {w X : World} {bs : List (Nat × Obj)} {R : Nat} (h : St w X bs) (hR : ∀ x ∈ bs, x.1 ≠ R) (h0 : w.heap.size ≤ R) (u v : Value) : St w ((X.setCell ⟨R, 0, none⟩ u).setCell ⟨R, 1, none⟩ v) bs :=
  h.fr (may := fun i => i = R) (((Fr.refl (fun i => i = R) X).setCell (p := ⟨R, 0, none⟩) (fun _ => rfl) u).setCell (p := ⟨R, 1, none⟩) (fun _ => rfl) v) (fun i b o hi hm => hR _ (List.mem_of_getElem? hi) hm) (fun i hi => by omega)
def badWin (i j : Int) : Prop := i < 0 ∨ j < i ∨ 2000 < j
instance (i j : Int) : Decidable (badWin i j) := by unfold badWin; infer_instance
noncomputable def mgWin (l : List Hg) (i j : Int) : Int × List (Int × Int) := mgAll (csL (cut2 l i.toNat j.toNat))
/-- the error of Window -/
noncomputable def codeWin (W : Int) (l : List Hg) (i j : Int) : Int := if codeSer W l ≠ 0 then codeSer W l else if badWin i j then 9 else (mgWin l i j).1
theorem bitsL_good {W : Int} {l : List Hg} (h : codeSer W l = 0) : 2 ≤ bitsL l ∧ bitsL l ≤ 8 ∧ ∀ x ∈ l, Good x.b x.cs ∧ x.b = bitsL l := by
  obtain ⟨_, _, h3⟩ := codeSer_zero h
  unfold bitsL
  split
  · rename_i h0
    have : l = [] := List.length_eq_zero_iff.1 h0
    subst this
    exact ⟨by omega, by omega, fun _ h => by cases h⟩
  · rename_i h0
    obtain ⟨x, hx⟩ : ∃ x, l[0]? = some x := ⟨l[0]'(by omega), List.getElem?_eq_getElem (by omega)⟩
    have := h3 x (List.mem_of_getElem? hx)
    rw [← this.2]
    exact ⟨this.1.1, this.1.2.1, fun y hy => ⟨(h3 y hy).1, (h3 y hy).2.trans this.2.symm⟩⟩
theorem cut2_min {α : Type} (l : List α) (i j : Nat) (_h : i ≤ j) : (l.take (min j l.length)).drop (min i l.length) = cut2 l i j := by
  unfold cut2
  rw [← List.take_eq_take_min]
  by_cases hi : i ≤ l.length
  · rw [Nat.min_eq_left hi]
  · rw [List.drop_of_length_le (by simp; omega), List.drop_of_length_le (by simp; omega)]
theorem HgR.slc {w : World} {B n i j c : Nat} {A : Option Addr} {l : List Hg} (h : HgR w B A n l) (hij : i ≤ j) (hj : j ≤ n) (hc : n ≤ c) : HgR w B (if c = i then A else A.map (·.add (i * 2))) (j - i) ((l.take j).drop i) := by
  have hl := h.len
  by_cases hp : j - i = 0
  · have e : (l.take j).drop i = [] := List.drop_of_length_le (by simp; omega)
    rw [e, hp]
    exact ⟨⟨by simp [hgCells], fun h => absurd h (by omega)⟩, fun _ h => by cases h⟩
  · rw [if_neg (by omega)]
    obtain ⟨b, o, rfl, _⟩ := h.1.2 (by omega)
    have := h.part hij hj
    rw [Option.map_some, add_at _ rfl]
    exact this

set_option maxHeartbeats 2000000 in
set_option maxRecDepth 100000 in
theorem RWindow_any (W : Int) (A : Option Addr) (c : Nat) (l : List Hg) (i j : Int) (w : World) (hr : HgR w w.heap.size A l.length l) (hn : l.length < 9223372036854775807) (hcs : ∀ h ∈ l, h.cs.length < 9223372036854775807 ∧ ∀ q ∈ h.cs, q.1 ≤ 9223372036854775807) :
    Calls Tryd.prog 37 #[.agg #[.int .i64 W, .slice A l.length c], .int .i64 i, .int .i64 j] w (HistPost (sumAt id (mgWin l i j).2) (bitsL l) (codeWin W l i j) w) := by
  obtain ⟨W0, hW0⟩ : ∃ W0, W0 = (w.alloc (.cells #[Value.int .i64 W, Value.slice A l.length c] 49)).alloc (.cells #[Value.int .i64 0, Value.slice none 0 0] 24) := ⟨_, rfl⟩
  have HST0 := Lib.hid (show St w W0 [(w.heap.size, Obj.cells #[Value.int .i64 W, Value.slice A l.length c] 49 (0, 0)), (w.heap.size + 1, Obj.cells #[Value.int .i64 0, Value.slice none 0 0] 24 (0, 0))] by rw [hW0]; exact ((St.start w).alloc _ _ rfl).alloc _ _ (by simp))
  have HCK := Lib.hid (RCheckSeries_any W A c l W0 (hr.old HST0.out.below) hn hcs)
  have HR := Lib.hid hr
  clear hr hcs
  go_enter Tryd.func37, Tryd.ntmps37
  go_wp2_with fail
  rw [← hW0]
  clear hW0
  refine HCK.out.mono ?_
  rintro e w1 ⟨rfl, hb1⟩
  clear HCK
  have HST1 := Lib.hid (HST0.out.call hb1)
  have hs1 := hb1.size
  obtain ⟨k00, k01, z00, z01, l0⟩ := HST1.out.two 0 rfl
  obtain ⟨k10, k11, z10, z11, l1⟩ := HST1.out.two 1 rfl
  clear hb1
  by_cases hc : codeSer W l = 0
  · rw [hc]
    obtain ⟨hd, hd', hg⟩ := bitsL_good hc
    have hn2 := (codeSer_zero hc).2.1
    have HG := Lib.hid hg
    clear hg
    by_cases hb : badWin i j
    · have HC := Lib.hid (show codeWin W l i j = 9 by unfold codeWin; rw [if_neg (not_not_intro hc), if_pos hb])
      clear hc
      by_cases d1 : i < 0
      · have d1' : decide (i < 0) = true := by simpa using d1
        go_wp2
        refine bodyPost_ret (v := .tuple #[.agg #[.int .i64 0, .slice none 0 0], .int .i64 9]) (by simp [results, Tryd.results37, go_sem, k10, k11]) rfl (HistPost.none (by omega) HC.out ?_)
        repeat (first | exact HST1.out.below | (refine Below.setCell ?_ (by dsimp only; omega) _))
      · have d1' : decide (i < 0) = false := by simpa using d1
        by_cases d2 : j < i
        · have d2' : decide (j < i) = true := by simpa using d2
          go_wp2
          refine bodyPost_ret (v := .tuple #[.agg #[.int .i64 0, .slice none 0 0], .int .i64 9]) (by simp [results, Tryd.results37, go_sem, k10, k11]) rfl (HistPost.none (by omega) HC.out ?_)
          repeat (first | exact HST1.out.below | (refine Below.setCell ?_ (by dsimp only; omega) _))
        · have d2' : decide (j < i) = false := by simpa using d2
          have d3' : decide (2000 < j) = true := by unfold badWin at hb; simp; omega
          clear hb
          go_wp2
          refine bodyPost_ret (v := .tuple #[.agg #[.int .i64 0, .slice none 0 0], .int .i64 9]) (by simp [results, Tryd.results37, go_sem, k10, k11]) rfl (HistPost.none (by omega) HC.out ?_)
          repeat (first | exact HST1.out.below | (refine Below.setCell ?_ (by dsimp only; omega) _))
    · have d1' : decide (i < 0) = false := by unfold badWin at hb; simp; omega
      have d2' : decide (j < i) = false := by unfold badWin at hb; simp; omega
      have d3' : decide (2000 < j) = false := by unfold badWin at hb; simp; omega
      have hij : 0 ≤ i ∧ i ≤ j ∧ j ≤ 2000 := by unfold badWin at hb; omega
      have HC := Lib.hid (show codeWin W l i j = (mgWin l i j).1 by unfold codeWin; rw [if_neg (not_not_intro hc), if_neg hb])
      clear hb hc
      obtain ⟨i', rfl⟩ : ∃ i' : Nat, i = (i' : Int) := ⟨i.toNat, by omega⟩
      obtain ⟨j', rfl⟩ : ∃ j' : Nat, j = (j' : Int) := ⟨j.toNat, by omega⟩
      have HJ := Lib.hid (joined_any W A c l i' j' w1 (HR.out.old HST1.out.below) hn2 (by omega) (by omega) (by omega) hd hd' HG.out)
      have hbm : mgAll (csL (cut2 l i' j')) = mgWin l (i' : Int) (j' : Int) := by unfold mgWin; simp
      unfold MgPost at HJ
      rw [hbm] at HJ
      generalize mgWin l (i' : Int) (j' : Int) = mg at *
      go_wp2_with fail
      refine (HJ.out.mono (fun e w' h => h.form)).mono ?_
      rintro e w3 ⟨b3, A3, n3, c3, rfl, hs3, hz3, hb3⟩
      have HST3 := Lib.hid (HST1.out.call hb3)
      have HS3 := Lib.hid hs3
      have HZ3 := Lib.hid hz3
      have hsz3 := hb3.size
      have hl1w : w.heap.size + 1 < w1.heap.size := l1
      clear k00 k01 z00 z01 l0 k10 k11 z10 z11 l1 hs3 hz3 hb3 HJ
      obtain ⟨k10, k11, z10, z11, l1⟩ := HST3.out.two 1 rfl
      by_cases h0 : mg.1 = 0
      · obtain ⟨cs', hh, hd3, hn3, hrd3⟩ := HS3.out h0
        replace hd3 := hd3.symm
        subst hn3
        have HRD := Lib.hid hrd3
        have HH := Lib.hid hh
        have HC0 := Lib.hid (HC.out.trans h0)
        have H0 := Lib.hid h0
        have HD3 := Lib.hid hd3
        clear hrd3 hh HS3 HZ3 hd3
        rw [h0]
        clear h0
        go_wp2
        refine bodyPost_ret (v := .tuple #[.agg #[.int .i64 b3, .slice A3 cs'.length c3], .int .i64 0]) (by simp [results, Tryd.results37, go_sem, k10, k11]) rfl ?_
        rw [HD3.out]
        refine HistPost.some HC0.out HH.out HRD.out (show w.heap.size ≤ w1.heap.size by omega) HST3.out.below ?_
        repeat (first | exact Fr.refl _ _ | (refine Fr.setCell ?_ (fun _ => by dsimp only; omega) _))
      · obtain ⟨rfl, rfl, rfl, rfl⟩ := HZ3.out h0
        have HH0 := Lib.hid h0
        clear HS3 HZ3
        generalize mg.1 = cd at *
        go_wp2
        refine bodyPost_ret (v := .tuple #[.agg #[.int .i64 0, .slice none 0 0], .int .i64 cd]) (by simp [results, Tryd.results37, go_sem, k10, k11]) rfl (HistPost.none h0 HC.out ?_)
        repeat (first | exact HST3.out.below | (refine Below.setCell ?_ (by dsimp only; omega) _))
  · have HC := Lib.hid (show codeWin W l i j = codeSer W l by unfold codeWin; rw [if_pos hc])
    generalize codeSer W l = cd at *
    have tc : (cd == 0) = false := by simpa using hc
    have tc' : (cd != 0) = true := by simpa using hc
    go_wp2
    refine bodyPost_ret (v := .tuple #[.agg #[.int .i64 0, .slice none 0 0], .int .i64 cd]) (by simp [results, Tryd.results37, go_sem, k10, k11]) rfl (HistPost.none hc HC.out ?_)
    repeat (first | exact HST1.out.below | (refine Below.setCell ?_ (by dsimp only; omega) _))

set_option maxHeartbeats 2000000 in
set_option maxRecDepth 100000 in
theorem Window_any (W : Int) (A : Option Addr) (c : Nat) (l : List Hg) (i j : Int) (w : World) (hr : HgR w w.heap.size A l.length l) (hn : l.length < 9223372036854775807) (hcs : ∀ h ∈ l, h.cs.length < 9223372036854775807 ∧ ∀ q ∈ h.cs, q.1 ≤ 9223372036854775807) (_hA : A = none → l.length = 0 ∧ c = 0) (hlc : l.length ≤ c) :
    Calls Tryd.prog 36 #[.agg #[.int .i64 W, .slice A l.length c], .int .i64 i, .int .i64 j] w (HistPost (sumAt id (mgWin l i j).2) (bitsL l) (codeWin W l i j) w) := by
  obtain ⟨W0, hW0⟩ : ∃ W0, W0 = (w.alloc (.cells #[Value.int .i64 W, Value.slice A l.length c] 49)).alloc (.cells #[Value.int .i64 0, Value.slice none 0 0] 24) := ⟨_, rfl⟩
  have HST0 := Lib.hid (show St w W0 [(w.heap.size, Obj.cells #[Value.int .i64 W, Value.slice A l.length c] 49 (0, 0)), (w.heap.size + 1, Obj.cells #[Value.int .i64 0, Value.slice none 0 0] 24 (0, 0))] by rw [hW0]; exact ((St.start w).alloc _ _ rfl).alloc _ _ (by simp))
  have HCK := Lib.hid (CheckSeries_any W A c l W0 (hr.old HST0.out.below) hn hcs)
  have HR := Lib.hid hr
  clear hr hcs
  go_enter Tryd.func36, Tryd.ntmps36
  go_wp2_with fail
  rw [← hW0]
  clear hW0
  refine HCK.out.mono ?_
  rintro e w1 ⟨rfl, hb1⟩
  clear HCK
  have HST1 := Lib.hid (HST0.out.call hb1)
  have hs1 := hb1.size
  obtain ⟨k00, k01, z00, z01, l0⟩ := HST1.out.two 0 rfl
  obtain ⟨k10, k11, z10, z11, l1⟩ := HST1.out.two 1 rfl
  clear hb1
  by_cases hc : codeSer W l = 0
  · rw [hc]
    obtain ⟨hd, hd', hg⟩ := bitsL_good hc
    have hn2 := (codeSer_zero hc).2.1
    have HG := Lib.hid hg
    clear hg
    by_cases hb : badWin i j
    · have HC := Lib.hid (show codeWin W l i j = 9 by unfold codeWin; rw [if_neg (not_not_intro hc), if_pos hb])
      clear hc
      by_cases d1 : i < 0
      · have d1' : decide (i < 0) = true := by simpa using d1
        go_wp2
        refine bodyPost_ret (v := .tuple #[.agg #[.int .i64 0, .slice none 0 0], .int .i64 9]) (by simp [results, Tryd.results36, go_sem, k10, k11]) rfl (HistPost.none (by omega) HC.out ?_)
        repeat (first | exact HST1.out.below | (refine Below.setCell ?_ (by dsimp only; omega) _))
      · have d1' : decide (i < 0) = false := by simpa using d1
        by_cases d2 : j < i
        · have d2' : decide (j < i) = true := by simpa using d2
          go_wp2
          refine bodyPost_ret (v := .tuple #[.agg #[.int .i64 0, .slice none 0 0], .int .i64 9]) (by simp [results, Tryd.results36, go_sem, k10, k11]) rfl (HistPost.none (by omega) HC.out ?_)
          repeat (first | exact HST1.out.below | (refine Below.setCell ?_ (by dsimp only; omega) _))
        · have d2' : decide (j < i) = false := by simpa using d2
          have d3' : decide (2000 < j) = true := by unfold badWin at hb; simp; omega
          clear hb
          go_wp2
          refine bodyPost_ret (v := .tuple #[.agg #[.int .i64 0, .slice none 0 0], .int .i64 9]) (by simp [results, Tryd.results36, go_sem, k10, k11]) rfl (HistPost.none (by omega) HC.out ?_)
          repeat (first | exact HST1.out.below | (refine Below.setCell ?_ (by dsimp only; omega) _))
    · have d1' : decide (i < 0) = false := by unfold badWin at hb; simp; omega
      have d2' : decide (j < i) = false := by unfold badWin at hb; simp; omega
      have d3' : decide (2000 < j) = false := by unfold badWin at hb; simp; omega
      have hij : 0 ≤ i ∧ i ≤ j ∧ j ≤ 2000 := by unfold badWin at hb; omega
      have HC := Lib.hid (show codeWin W l i j = (mgWin l i j).1 by unfold codeWin; rw [if_neg (not_not_intro hc), if_neg hb])
      clear hb hc
      obtain ⟨i', rfl⟩ : ∃ i' : Nat, i = (i' : Int) := ⟨i.toNat, by omega⟩
      obtain ⟨j', rfl⟩ : ∃ j' : Nat, j = (j' : Int) := ⟨j.toNat, by omega⟩
      have HBI := Lib.hid (fun W' (hb : Below w.heap.size w W') => bitsOf_any W A c l W' (HR.out.old hb))
      obtain ⟨lo, hlo⟩ : ∃ lo, lo = min i' l.length := ⟨_, rfl⟩
      obtain ⟨hi, hhi⟩ : ∃ hi, hi = min j' l.length := ⟨_, rfl⟩
      have hm1 : min (i' : Int) (l.length : Int) = (lo : Int) := by omega
      have hm2 : min (j' : Int) (l.length : Int) = (hi : Int) := by omega
      have hlh : lo ≤ hi ∧ hi ≤ l.length := by omega
      obtain ⟨A2, hA2⟩ : ∃ A2, A2 = if c = lo then A else A.map (·.add (lo * 2)) := ⟨_, rfl⟩
      have hslice : ∀ W', (Instr.sliceAt 47 (.slice A l.length c) (some (.int .i64 (lo : Int))) (some (.int .i64 (hi : Int))) none).run Tryd.prog W' = .ok (.slice A2 (hi - lo) (c - lo)) W' := by
        intro W'
        have hsz : (sizeOf (Tryd.prog.elem 47)).run Tryd.prog W' = .ok 2 W' := by kernel_rfl
        rw [run_sliceAt_slice W' _ _ _ _ _ Tryd.underlying47, run_slice_lh W' _ _ _ _ Tryd.underlying47 _ _ _ _ (by omega) (by omega) (by omega), hsz, hA2]
        simp [Result.andThen, sliced]
      have hA3 : (if c = lo then A else Option.map (fun x => x.add (lo * 2)) A) = A2 := hA2.symm
      have hi1 : (lo : Int) ≤ (hi : Int) := by omega
      have hi2 : (hi : Int) ≤ (c : Int) := by omega
      have hi3 : (0 : Int) ≤ (lo : Int) := by omega
      have HMD := Lib.hid (fun W' (hb : Below w.heap.size w W') (cp : Nat) => merged_any (bitsL l) A2 (hi - lo) cp ((l.take hi).drop lo) W' (by rw [hA2]; exact (HR.out.old hb).slc (by omega) (by omega) hlc) (by omega) hd hd' (fun h hh => by
        have := HG.out h (List.mem_of_mem_take (List.mem_of_mem_drop hh))
        rw [this.2] at this; exact this.1))
      have hbm : mgAll (csL ((l.take hi).drop lo)) = mgWin l (i' : Int) (j' : Int) := by rw [hlo, hhi, cut2_min l i' j' (by omega)]; unfold mgWin; simp
      unfold MgPost at HMD
      rw [hbm] at HMD
      generalize mgWin l (i' : Int) (j' : Int) = mg at *
      clear hbm hlo hhi hA2
      have HKS := Lib.hid (show ∀ w', St w w' [(w.heap.size, Obj.cells #[Value.int .i64 W, Value.slice A l.length c] 49 (0, 0))] → BoxOK w' (w.heap.size + 1) 24 → w'.cell? ⟨w.heap.size, 0, none⟩ = some (.int .i64 W) ∧ w'.cell? ⟨w.heap.size, 1, none⟩ = some (.slice A l.length c) ∧ (St w w' [(w.heap.size, Obj.cells #[Value.int .i64 W, Value.slice A l.length c] 49 (0, 0))] ∧ BoxOK w' (w.heap.size + 1) 24) from
        fun w' hb hx => ⟨hb.cell 0 0 rfl rfl, hb.cell 0 1 rfl rfl, hb, hx⟩)
      have HBX := Lib.hid (show St w w1 [(w.heap.size, Obj.cells #[Value.int .i64 W, Value.slice A l.length c] 49 (0, 0))] ∧ BoxOK w1 (w.heap.size + 1) 24 from ⟨HST1.out.take 1, ⟨_, _, HST1.out.at 1 rfl⟩⟩)
      have hfin : ∀ (e : Ending) (w' : World) (b3 : Int) (A3 : Option Addr) (n3 c3 : Nat) (L : Nat) (w3 : World), w.heap.size + 1 < L → (mg.1 = 0 → ∃ cs, IsHist (sumAt id mg.2) cs ∧ b3 = bitsL l ∧ n3 = cs.length ∧ Rd w3 L w3.heap.size 2 A3 cs.length (cells2 cs)) → (mg.1 ≠ 0 → b3 = 0 ∧ A3 = none ∧ n3 = 0 ∧ c3 = 0) → Below w.heap.size w w3 →
          e = .returned (.tuple #[.agg #[.int .i64 b3, .slice A3 n3 c3], .int .i64 mg.1]) → w' = (w3.setCell ⟨w.heap.size + 1, 0, none⟩ (.int .i64 b3)).setCell ⟨w.heap.size + 1, 1, none⟩ (.slice A3 n3 c3) → HistPost (sumAt id mg.2) (bitsL l) mg.1 w e w' := by
        intro e w' b3 A3 n3 c3 L w3 hL hs hz hb he hw
        subst he hw
        have hbel : Below w.heap.size w ((w3.setCell ⟨w.heap.size + 1, 0, none⟩ (.int .i64 b3)).setCell ⟨w.heap.size + 1, 1, none⟩ (.slice A3 n3 c3)) := (hb.setCell (p := ⟨w.heap.size + 1, 0, none⟩) (by simp) _).setCell (p := ⟨w.heap.size + 1, 1, none⟩) (by simp) _
        by_cases h0 : mg.1 = 0
        · obtain ⟨cs, h1, rfl, rfl, h4⟩ := hs h0
          refine ⟨_, rfl, fun _ => ⟨cs, h1, A3, c3, rfl, ?_⟩, fun h => absurd h0 h, hbel⟩
          exact (h4.fr (may := fun i => i = w.heap.size + 1) (((Fr.refl (fun i => i = w.heap.size + 1) w3).setCell (p := ⟨w.heap.size + 1, 0, none⟩) (fun _ => rfl) _).setCell (p := ⟨w.heap.size + 1, 1, none⟩) (fun _ => rfl) _) (Nat.le_refl _) (fun i hi _ => by omega)).more (by omega) (by simp [World.setCell])
        · obtain ⟨rfl, rfl, rfl, rfl⟩ := hz h0
          exact ⟨_, rfl, fun h => absurd h h0, fun _ => rfl, hbel⟩
      have HEND := Lib.hid hfin
      clear hfin
      have hl1w : w.heap.size + 1 < w1.heap.size := l1
      have HW1 := Lib.hid (show ∀ w', BoxOK w' (w.heap.size + 1) 24 → w.heap.size + 1 < w'.heap.size from fun w' h => by obtain ⟨x, y, hx⟩ := h; exact heap_lt hx)
      generalize mg.1 = cd at *
      generalize hbl : bitsL l = bl at *
      skip
      · go_wp2
        go_region_held3 (fun w' => w'.cell? ⟨w.heap.size, 0, none⟩ = some (.int .i64 W) ∧ w'.cell? ⟨w.heap.size, 1, none⟩ = some (.slice A l.length c) ∧ (St w w' [(w.heap.size, Obj.cells #[Value.int .i64 W, Value.slice A l.length c] 49 (0, 0))] ∧ BoxOK w' (w.heap.size + 1) 24))
          ((first
            | exact HKS.out _ HBX.out.1.drew HBX.out.2
            | (go_split_ands; refine HKS.out _ ?_ ?_ <;> assumption)
            | (go_split_ands; refine HKS.out _ (St.call ?_ hbA) (BoxOK.call ?_ hbA) <;> assumption)
            | (go_split_ands; refine HKS.out _ (St.call ?_ hb3) (BoxOK.call ?_ hb3) <;> assumption)
            | (go_split_ands; refine HKS.out _ (St.far2 ?_ (by simp) (by omega) _ _) (BoxOK.set2 ?_ _ _) <;> assumption)
            | (go_split_ands; refine HKS.out _ (St.far2 (St.call ?_ hb3) (by simp) (by omega) _ _) (BoxOK.set2 (BoxOK.call ?_ hb3) _ _) <;> assumption)))
          (first
            | (go_at_call 73; refine (HBI.out _ ?_).mono ?_; (go_split_ands; exact St.below ‹_›); rintro e wA ⟨rfl, hbA⟩; have hlA := HW1.out _ (BoxOK.call (by go_split_ands; assumption) hbA))
            | (go_at_call 75; refine ((HMD.out _ ?_ _).mono (fun e w' h => h.form)).mono ?_; (go_split_ands; exact St.below ‹_›); rintro e w3 ⟨b3, A3, n3, c3, rfl, hs3, hz3, hb3⟩; obtain ⟨rx, ry, r0, r1, r2, r3⟩ := BoxOK.facts (BoxOK.call (by go_split_ands; assumption) hb3); have hbw3 := (St.call (bs := [(w.heap.size, Obj.cells #[Value.int .i64 W, Value.slice A l.length c] 49 (0, 0))]) (by go_split_ands; assumption) hb3).below))
        all_goals go_wp2
        all_goals refine bodyPost_ret (v := .tuple #[.agg #[.int .i64 b3, .slice A3 n3 c3], .int .i64 cd]) (by simp [results, Tryd.results36, go_sem, r0, r1]) rfl (HistPost.code (HEND.out _ _ b3 A3 n3 c3 _ w3 ?_ hs3 hz3 ?_ rfl rfl) HC.out.symm)
        all_goals go_split_ands
        all_goals first
          | exact hlA
          | (refine HW1.out _ ?_; assumption)
          | exact hbw3
  · have HC := Lib.hid (show codeWin W l i j = codeSer W l by unfold codeWin; rw [if_pos hc])
    generalize codeSer W l = cd at *
    have tc : (cd == 0) = false := by simpa using hc
    have tc' : (cd != 0) = true := by simpa using hc
    go_wp2
    refine bodyPost_ret (v := .tuple #[.agg #[.int .i64 0, .slice none 0 0], .int .i64 cd]) (by simp [results, Tryd.results36, go_sem, k10, k11]) rfl (HistPost.none hc HC.out ?_)
    repeat (first | exact HST1.out.below | (refine Below.setCell ?_ (by dsimp only; omega) _))
end Go.Proofs.YtgmbgclhljobaaaDoor
