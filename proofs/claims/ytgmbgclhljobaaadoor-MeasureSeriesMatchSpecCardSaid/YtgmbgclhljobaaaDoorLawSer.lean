/- MeasureSeriesMatchSpec: Roll at every input; the law's walk. -/
import Derived.Test.YtgmbgclhljobaaaDoorRollM
import Derived.Test.YtgmbgclhljobaaaDoorPutM
import Derived.Test.YtgmbgclhljobaaaDoorLawOf
namespace Go.Proofs.YtgmbgclhljobaaaDoor
open Go Go.RowKit Go.Proofs Go.Maps

set_option maxHeartbeats 2000000 in
set_option maxRecDepth 100000 in
theorem Roll_err (W : Int) (A : Option Addr) (c : Nat) (l : List Hg) (k : Int) (w : World) (hr : HgR w w.heap.size A l.length l) (hn : l.length < 9223372036854775807) (hcs : ∀ h ∈ l, h.cs.length < 9223372036854775807 ∧ ∀ q ∈ h.cs, q.1 ≤ 9223372036854775807) (hbad : codeSer W l ≠ 0 ∨ badRoll W k) :
    Calls Tryd.prog 38 #[.agg #[.int .i64 W, .slice A l.length c], .int .i64 k] w (SPost (k * W) (rollOf l k).2 (codeRoll W l k) w) := by
  obtain ⟨W0, hW0⟩ : ∃ W0, W0 = ((w.alloc (.cells #[Value.int .i64 W, Value.slice A l.length c] 49)).alloc (.cells #[Value.int .i64 0, Value.slice none 0 0] 49)).alloc (.cells #[Value.int .i64 0] 25) := ⟨_, rfl⟩
  have HST0 := Lib.hid (show St w W0 [(w.heap.size, Obj.cells #[Value.int .i64 W, Value.slice A l.length c] 49 (0, 0)), (w.heap.size + 1, Obj.cells #[Value.int .i64 0, Value.slice none 0 0] 49 (0, 0)), (w.heap.size + 1 + 1, Obj.cells #[Value.int .i64 0] 25 (0, 0))] by rw [hW0]; exact (((St.start w).alloc _ _ rfl).alloc _ _ (by simp)).alloc _ _ (by simp))
  have HCK := Lib.hid (CheckSeries_any W A c l W0 (hr.old HST0.out.below) hn hcs)
  clear hr hcs
  go_enter Tryd.func38, Tryd.ntmps38
  go_wp2_with fail
  rw [← hW0]
  clear hW0
  refine HCK.out.mono ?_
  rintro e w1 ⟨rfl, hb1⟩
  clear HCK
  have HST1 := Lib.hid (HST0.out.call hb1)
  have hs1 := hb1.size
  obtain ⟨k00, k01, z00, z01, l0⟩ := HST1.out.two 0 rfl
  obtain ⟨k10, k11, z10, z11, l1⟩ := HST1.out.two 1 rfl
  obtain ⟨k20, z20⟩ := box_one (HST1.out.at 2 rfl)
  have l2 := HST1.out.lt 2 rfl
  clear hb1
  by_cases hc : codeSer W l = 0
  · have hb : badRoll W k := by
      rcases hbad with h | h
      · exact absurd hc h
      · exact h
    rw [hc]
    obtain ⟨hWW, hn2, _⟩ := codeSer_zero hc
    have hW1 : 1 ≤ W ∧ W ≤ 1000000000000 := by unfold badW at hWW; omega
    have HC := Lib.hid (show codeRoll W l k = 9 by unfold codeRoll; rw [if_neg (not_not_intro hc), if_pos hb])
    clear hc hbad hWW
    by_cases d1 : k < 1
    · have d1' : decide (k < 1) = true := by simpa using d1
      go_wp2
      refine bodyPost_ret (v := .tuple #[.agg #[.int .i64 0, .slice none 0 0], .int .i64 9]) (by simp [results, Tryd.results38, go_sem, k10, k11, k20]) rfl (SPost.none (by omega) HC.out ?_)
      repeat (first | exact HST1.out.below | (refine Below.setCell ?_ (by dsimp only; omega) _))
    · have d1' : decide (k < 1) = false := by simpa using d1
      by_cases d2 : 2000 < k
      · have d2' : decide (2000 < k) = true := by simpa using d2
        go_wp2
        refine bodyPost_ret (v := .tuple #[.agg #[.int .i64 0, .slice none 0 0], .int .i64 9]) (by simp [results, Tryd.results38, go_sem, k10, k11, k20]) rfl (SPost.none (by omega) HC.out ?_)
        repeat (first | exact HST1.out.below | (refine Below.setCell ?_ (by dsimp only; omega) _))
      · have d2' : decide (2000 < k) = false := by simpa using d2
        have hkw : k * W ≤ 2000 * 1000000000000 := Int.mul_le_mul (by omega) (by omega) (by omega) (by omega)
        have hkw0 : 0 ≤ k * W := Int.mul_nonneg (by omega) (by omega)
        have d3' : decide (1000000000000 < k * W) = true := by unfold badRoll at hb; simp; omega
        clear hb
        go_wp2
        refine bodyPost_ret (v := .tuple #[.agg #[.int .i64 0, .slice none 0 0], .int .i64 9]) (by simp [results, Tryd.results38, go_sem, k10, k11, k20]) rfl (SPost.none (by omega) HC.out ?_)
        repeat (first | exact HST1.out.below | (refine Below.setCell ?_ (by dsimp only; omega) _))
  · have HC := Lib.hid (show codeRoll W l k = codeSer W l by unfold codeRoll; rw [if_pos hc])
    clear hbad
    generalize codeSer W l = cd at *
    have tc : (cd == 0) = false := by simpa using hc
    have tc' : (cd != 0) = true := by simpa using hc
    go_wp2
    refine bodyPost_ret (v := .tuple #[.agg #[.int .i64 0, .slice none 0 0], .int .i64 cd]) (by simp [results, Tryd.results38, go_sem, k10, k11, k20]) rfl (SPost.none hc HC.out ?_)
    repeat (first | exact HST1.out.below | (refine Below.setCell ?_ (by dsimp only; omega) _))
theorem Roll_any (W : Int) (A : Option Addr) (c : Nat) (l : List Hg) (k : Int) (w : World) (hr : HgR w w.heap.size A l.length l) (hn : l.length < 9223372036854775807) (hcs : ∀ h ∈ l, h.cs.length < 9223372036854775807 ∧ ∀ q ∈ h.cs, q.1 ≤ 9223372036854775807) (hlc : l.length ≤ c) :
    Calls Tryd.prog 38 #[.agg #[.int .i64 W, .slice A l.length c], .int .i64 k] w (SPost (k * W) (rollOf l k).2 (codeRoll W l k) w) := by
  by_cases h1 : codeSer W l = 0
  · by_cases h2 : badRoll W k
    · exact Roll_err W A c l k w hr hn hcs (.inr h2)
    · obtain ⟨k, rfl⟩ : ∃ k' : Nat, k = (k' : Int) := ⟨k.toNat, by unfold badRoll at h2; omega⟩
      exact Roll_main W A c l k w hr hcs hlc h1 h2
  · exact Roll_err W A c l k w hr hn hcs (.inl h1)

theorem codeCell_val (b : Int) (h : Hg) : codeCell b h = 0 ∨ codeCell b h = 2 ∨ codeCell b h = 3 ∨ codeCell b h = 9 ∨ codeCell b h = 10 := by
  have := codeH_val h.b h.cs
  unfold codeCell
  split
  · omega
  · split <;> omega
theorem codeSer_val (W : Int) (l : List Hg) : I64 (codeSer W l) := by
  unfold codeSer I64
  split
  · omega
  · split
    · omega
    · cases l.find? (fun h => codeCell (b0L l) h != 0) with
      | none => simp
      | some h => have := codeCell_val (b0L l) h; simp only [Option.map_some, Option.getD_some]; omega
theorem codePut_val (W : Int) (l : List Hg) (t x : Int) : I64 (codePut W l t x) := by
  have h1 := codeSer_val W l
  have h2 := codeR_i64 (bitsL l) (cellC l (t / W).toNat) x 1
  unfold codePut
  split
  · exact h1
  · split
    · unfold I64; omega
    · split
      · unfold I64; omega
      · exact h2
theorem codeWin_val (W : Int) (l : List Hg) (i j : Int) : I64 (codeWin W l i j) := by
  have h1 := codeSer_val W l
  have h2 := mg_code (csL (cut2 l i.toNat j.toNat))
  unfold codeWin mgWin
  split
  · exact h1
  · split
    · unfold I64; omega
    · unfold I64; omega
theorem rl_code (l : List Hg) (k : Nat) : ∀ m, (rl l k m).1 = 0 ∨ (rl l k m).1 = 3
  | 0 => .inl rfl
  | m + 1 => by
    have ih := rl_code l k m
    show (if _ then _ else _ : Int × _).1 = 0 ∨ (if _ then _ else _ : Int × _).1 = 3
    split
    · split
      · exact .inl rfl
      · exact mg_code _
    · exact ih
theorem codeRoll_val (W : Int) (l : List Hg) (k : Int) : I64 (codeRoll W l k) := by
  have h1 := codeSer_val W l
  have h2 := rl_code l k.toNat (nch l.length k.toNat)
  unfold codeRoll rollOf
  split
  · exact h1
  · split
    · unfold I64; omega
    · unfold I64; omega
theorem good_fine {b : Int} {cs : List (Int × Int)} (h : Good b cs) : I64 b ∧ cs.length ≤ 20000 ∧ ∀ c ∈ cs, I64 c.1 ∧ I64 c.2 := by
  have hm := maxB_bd b h.1 h.2.1
  refine ⟨by have := h.1; have := h.2.1; unfold I64; omega, by have := h.2.2.1; omega, fun c hc => ?_⟩
  have := h.2.2.2.1 c hc
  unfold I64; omega
theorem fine_put {W : Int} {l : List Hg} {t x : Int} (h : codePut W l t x = 0) : fineL (putAb l (t / W).toNat x) := by
  unfold codePut at h
  split at h
  · rename_i h1; exact absurd h h1
  · rename_i h1
    have h1 : codeSer W l = 0 := by omega
    obtain ⟨hd, hd', hg⟩ := bitsL_good h1
    split at h
    · omega
    · split at h
      · omega
      · have hl := (codeSer_zero h1).2.1
        refine ⟨by unfold putAb putN; simp; omega, fun y hy => ?_⟩
        unfold putAb at hy
        obtain ⟨i, _, rfl⟩ := List.mem_map.1 hy
        unfold putAt
        have hgc := cellC_good hd hd' hg i
        by_cases e : i = (t / W).toNat
        · simp only [if_pos e]
          rw [← e] at h
          obtain ⟨cs', hcs⟩ := hist_ex (cellC l i ++ [(bkt (bitsL l) x, 1)]) (fun c hc => by
            rcases List.mem_append.1 hc with h | h
            · have := (hgc.2.2.2.1 c h).2; omega
            · simp only [List.mem_singleton] at h; subst h; simp)
          have e2 : recF (bitsL l) (cellC l i) x 1 = sumAt id (cellC l i ++ [(bkt (bitsL l) x, 1)]) := sumAt_snoc id _ _ _
          rw [← e2] at hcs
          rw [histOf_eq hcs]
          exact good_fine (good_rec h hcs)
        · simp only [if_neg e]
          exact good_fine hgc
theorem fine_roll {W : Int} {l : List Hg} {k : Int} (h : codeRoll W l k = 0) : fineL (rollOf l k).2 ∧ I64 (k * W) := by
  unfold codeRoll at h
  split at h
  · rename_i h1; exact absurd h h1
  · rename_i h1
    have h1 : codeSer W l = 0 := by omega
    obtain ⟨hd, hd', hg⟩ := bitsL_good h1
    split at h
    · omega
    · rename_i hb
      have hl := (codeSer_zero h1).2.1
      have hWW := (codeSer_zero h1).1
      have hk : 1 ≤ k ∧ k ≤ 2000 ∧ k * W ≤ 1000000000000 := by unfold badRoll at hb; omega
      have hkw0 : 0 ≤ k * W := Int.mul_nonneg (by omega) (by unfold badW at hWW; omega)
      refine ⟨?_, by unfold I64; omega⟩
      unfold rollOf at h ⊢
      have hk' : 1 ≤ k.toNat := by omega
      generalize k.toNat = kk at *
      have key : ∀ m, (rl l kk m).1 = 0 → (rl l kk m).2.length = m ∧ ∀ y ∈ (rl l kk m).2, I64 y.1 ∧ y.2.length ≤ 20000 ∧ ∀ c ∈ y.2, I64 c.1 ∧ I64 c.2 := by
        intro m
        induction m with
        | zero => intro _; exact ⟨rfl, fun _ h => by simp [rl] at h⟩
        | succ m ih =>
          intro h
          have e : rl l kk (m + 1) = if (rl l kk m).1 = 0 then (if (mgAll (csL (cut2 l (m * kk) (m * kk + kk)))).1 = 0 then (0, (rl l kk m).2 ++ [(bitsL l, (mgAll (csL (cut2 l (m * kk) (m * kk + kk)))).2)]) else ((mgAll (csL (cut2 l (m * kk) (m * kk + kk)))).1, [])) else rl l kk m := rfl
          rw [e] at h ⊢
          split at h
          · rename_i g0
            rw [if_pos g0]
            split at h
            · rename_i g1
              rw [if_pos g1]
              obtain ⟨i1, i2⟩ := ih g0
              refine ⟨by simp [i1], fun y hy => ?_⟩
              simp only [List.mem_append, List.mem_singleton] at hy
              rcases hy with hy | rfl
              · exact i2 y hy
              · exact good_fine (mg_good hd hd' (fun c hc => by
                  unfold csL at hc
                  obtain ⟨hx, hh, rfl⟩ := List.mem_map.1 hc
                  have := hg hx (mem_cut2 hh)
                  rw [this.2] at this; exact this.1) g1)
            · rename_i g1; exact absurd h g1
          · rename_i g0; exact absurd h g0
      obtain ⟨k1, k2⟩ := key _ h
      refine ⟨?_, k2⟩
      rw [k1]
      rcases Nat.lt_or_ge 2000 (nch l.length kk) with h | h
      · have h1 := (nch_lt (n := l.length) (k := kk) (m := 2000) hk').1 h
        have := Nat.le_mul_of_pos_right 2000 (show 0 < kk by omega)
        omega
      · exact h
theorem win_zero {W : Int} {l : List Hg} {i j : Int} (h : codeWin W l i j = 0) : Good (bitsL l) (mgWin l i j).2 := by
  unfold codeWin at h
  split at h
  · rename_i h1; exact absurd h h1
  · rename_i h1
    have h1 : codeSer W l = 0 := by omega
    obtain ⟨hd, hd', hg⟩ := bitsL_good h1
    split at h
    · omega
    · exact mg_good hd hd' (fun c hc => by
        unfold csL at hc
        obtain ⟨hx, hh, rfl⟩ := List.mem_map.1 hc
        have := hg hx (mem_cut2 hh)
        rw [this.2] at this; exact this.1) h
theorem mkPut {w : World} {W : Int} {A : Option Addr} {c : Nat} {l : List Hg} (ht : Tab w.heap.size w) (hr : HgR w w.heap.size A l.length l) (hn : l.length < 9223372036854775807) (hcs : ∀ h ∈ l, h.cs.length < 9223372036854775807 ∧ ∀ q ∈ h.cs, q.1 ≤ 9223372036854775807) (_hA : A = none → l.length = 0 ∧ c = 0) (_hlc : l.length ≤ c) (hW : I64 W) (t x : Int) : SMakes 34 #[.agg #[.int .i64 W, .slice A l.length c], .int .i64 t, .int .i64 x] (codePut W l t x) (inkSOf W (putAb l (t / W).toNat x) (codePut W l t x)) w :=
  smakes_of ht (codePut_val W l t x) (fun _ => hW) (fun h => fine_put h) (fun w' hb' => Put_any W A c l t x w' (hr.old hb') hn hcs)
theorem mkRPut {w : World} {W : Int} {A : Option Addr} {c : Nat} {l : List Hg} (ht : Tab w.heap.size w) (hr : HgR w w.heap.size A l.length l) (hn : l.length < 9223372036854775807) (hcs : ∀ h ∈ l, h.cs.length < 9223372036854775807 ∧ ∀ q ∈ h.cs, q.1 ≤ 9223372036854775807) (_hA : A = none → l.length = 0 ∧ c = 0) (_hlc : l.length ≤ c) (hW : I64 W) (t x : Int) : SMakes 35 #[.agg #[.int .i64 W, .slice A l.length c], .int .i64 t, .int .i64 x] (codePut W l t x) (inkSOf W (putAb l (t / W).toNat x) (codePut W l t x)) w :=
  smakes_of ht (codePut_val W l t x) (fun _ => hW) (fun h => fine_put h) (fun w' hb' => RPut_any W A c l t x w' (hr.old hb') hn hcs)
theorem mkRoll {w : World} {W : Int} {A : Option Addr} {c : Nat} {l : List Hg} (ht : Tab w.heap.size w) (hr : HgR w w.heap.size A l.length l) (hn : l.length < 9223372036854775807) (hcs : ∀ h ∈ l, h.cs.length < 9223372036854775807 ∧ ∀ q ∈ h.cs, q.1 ≤ 9223372036854775807) (_hA : A = none → l.length = 0 ∧ c = 0) (hlc : l.length ≤ c) (_hW : I64 W) (k : Int) : SMakes 38 #[.agg #[.int .i64 W, .slice A l.length c], .int .i64 k] (codeRoll W l k) (inkSOf (k * W) (rollOf l k).2 (codeRoll W l k)) w :=
  smakes_of ht (codeRoll_val W l k) (fun h => (fine_roll h).2) (fun h => (fine_roll h).1) (fun w' hb' => Roll_any W A c l k w' (hr.old hb') hn hcs hlc)
theorem mkRRoll {w : World} {W : Int} {A : Option Addr} {c : Nat} {l : List Hg} (ht : Tab w.heap.size w) (hr : HgR w w.heap.size A l.length l) (hn : l.length < 9223372036854775807) (hcs : ∀ h ∈ l, h.cs.length < 9223372036854775807 ∧ ∀ q ∈ h.cs, q.1 ≤ 9223372036854775807) (_hA : A = none → l.length = 0 ∧ c = 0) (_hlc : l.length ≤ c) (_hW : I64 W) (k : Int) : SMakes 39 #[.agg #[.int .i64 W, .slice A l.length c], .int .i64 k] (codeRoll W l k) (inkSOf (k * W) (rollOf l k).2 (codeRoll W l k)) w :=
  smakes_of ht (codeRoll_val W l k) (fun h => (fine_roll h).2) (fun h => (fine_roll h).1) (fun w' hb' => RRoll_any W A c l k w' (hr.old hb') hn hcs)
theorem mkWin {w : World} {W : Int} {A : Option Addr} {c : Nat} {l : List Hg} (ht : Tab w.heap.size w) (hr : HgR w w.heap.size A l.length l) (hn : l.length < 9223372036854775807) (hcs : ∀ h ∈ l, h.cs.length < 9223372036854775807 ∧ ∀ q ∈ h.cs, q.1 ≤ 9223372036854775807) (hA : A = none → l.length = 0 ∧ c = 0) (hlc : l.length ≤ c) (_hW : I64 W) (i j : Int) : Makes 36 #[.agg #[.int .i64 W, .slice A l.length c], .int .i64 i, .int .i64 j] (codeWin W l i j) (inkOf (bitsL l) (sumAt id (mgWin l i j).2) (codeWin W l i j)) w := by
  refine makes_of ht (codeWin_val W l i j) (fun h => (good_fine (win_zero h)).1) (fun h cs hh => ?_) (fun w' hb' => Window_any W A c l i j w' (hr.old hb') hn hcs hA hlc)
  rw [IsHist.uniq hh (win_zero h).hist]
  have := good_fine (win_zero h)
  exact ⟨this.2.2, by omega⟩
theorem mkRWin {w : World} {W : Int} {A : Option Addr} {c : Nat} {l : List Hg} (ht : Tab w.heap.size w) (hr : HgR w w.heap.size A l.length l) (hn : l.length < 9223372036854775807) (hcs : ∀ h ∈ l, h.cs.length < 9223372036854775807 ∧ ∀ q ∈ h.cs, q.1 ≤ 9223372036854775807) (_hA : A = none → l.length = 0 ∧ c = 0) (_hlc : l.length ≤ c) (_hW : I64 W) (i j : Int) : Makes 37 #[.agg #[.int .i64 W, .slice A l.length c], .int .i64 i, .int .i64 j] (codeWin W l i j) (inkOf (bitsL l) (sumAt id (mgWin l i j).2) (codeWin W l i j)) w := by
  refine makes_of ht (codeWin_val W l i j) (fun h => (good_fine (win_zero h)).1) (fun h cs hh => ?_) (fun w' hb' => RWindow_any W A c l i j w' (hr.old hb') hn hcs)
  rw [IsHist.uniq hh (win_zero h).hist]
  have := good_fine (win_zero h)
  exact ⟨this.2.2, by omega⟩

attribute [local go_sem ↓] Go.wp_at_zero Go.wp_at_succ

set_option maxHeartbeats 8000000 in
set_option maxRecDepth 100000 in
theorem law_series (W : Int) (A : Option Addr) (c : Nat) (l : List Hg) (t x i j k : Int) (w : World) (ht : Tab w.heap.size w) (hr : HgR w w.heap.size A l.length l) (hn : l.length < 9223372036854775807) (hcs : ∀ h ∈ l, h.cs.length < 9223372036854775807 ∧ ∀ q ∈ h.cs, q.1 ≤ 9223372036854775807) (hA : A = none → l.length = 0 ∧ c = 0) (hlc : l.length ≤ c) (hW : I64 W) :
    Calls Tryd.prog 10 #[.agg #[.int .i64 W, .slice A l.length c], .int .i64 t, .int .i64 x, .int .i64 i, .int .i64 j, .int .i64 k] w fun e w' => e = .returned (.bool true) ∧ Below w.heap.size w w' := by
  obtain ⟨W0, hW0⟩ : ∃ W0, W0 = (w).alloc (.cells #[Value.int .i64 W, Value.slice A l.length c] 49) := ⟨_, rfl⟩
  have st0 : St w W0 [(w.heap.size, Obj.cells #[Value.int .i64 W, Value.slice A l.length c] 49 (0, 0))] := by rw [hW0]; exact (St.start w).alloc _ _ (by simp)
  have hs0 : W0.heap.size = w.heap.size + 1 := by rw [hW0]; simp
  have hsz0 : w.heap.size + 1 ≤ W0.heap.size := by omega
  have HST0 := Lib.hid st0
  have HS0 := Lib.hid hs0
  have ht0 : Tab W0.heap.size W0 := (ht.on st0.below).mono st0.below.size
  have hr0 := hr.old st0.below
  have HC := Lib.hid (fun W' (hb : Below W0.heap.size W0 W') => CheckSeries_any W A c l W' (hr.old (st0.old hb)) hn hcs)
  have HRC := Lib.hid (fun W' (hb : Below W0.heap.size W0 W') => RCheckSeries_any W A c l W' (hr.old (st0.old hb)) hn hcs)
  have HP := Lib.hid (mkPut (c := c) ht0 hr0 hn hcs hA hlc hW t x)
  have HRP := Lib.hid (mkRPut (c := c) ht0 hr0 hn hcs hA hlc hW t x)
  have HI := Lib.hid (mkWin (c := c) ht0 hr0 hn hcs hA hlc hW i j)
  have HRI := Lib.hid (mkRWin (c := c) ht0 hr0 hn hcs hA hlc hW i j)
  have HO := Lib.hid (mkRoll (c := c) ht0 hr0 hn hcs hA hlc hW k)
  have HRO := Lib.hid (mkRRoll (c := c) ht0 hr0 hn hcs hA hlc hW k)
  have HN := Lib.hid (fun W' => counts_any W')
  clear ht ht0 hr hr0 hcs hA
  clear st0 hs0
  go_enter Tryd.func10, Tryd.ntmps10
  go_wp2_with fail
  rw [← hW0]
  clear hW0
  have HKS := Lib.hid (show ∀ w', Below W0.heap.size W0 w' → w'.cell? ⟨w.heap.size, 0, none⟩ = some (Value.int .i64 W) ∧ w'.cell? ⟨w.heap.size, 1, none⟩ = some (Value.slice A l.length c) ∧ Below W0.heap.size W0 w' from fun w' hb => ⟨(HST0.out.call hb).cell 0 0 rfl rfl, (HST0.out.call hb).cell 0 1 rfl rfl, hb⟩)
  have k0_0 : W0.cell? ⟨w.heap.size, 0, none⟩ = some (Value.int .i64 W) := HST0.out.cell 0 0 rfl rfl
  have k0_1 : W0.cell? ⟨w.heap.size, 1, none⟩ = some (Value.slice A l.length c) := HST0.out.cell 0 1 rfl rfl
  have l0_ : w.heap.size < W0.heap.size := HST0.out.lt 0 rfl
  go_region_held3 (fun w' => w'.cell? ⟨w.heap.size, 0, none⟩ = some (Value.int .i64 W) ∧ w'.cell? ⟨w.heap.size, 1, none⟩ = some (Value.slice A l.length c) ∧ Below W0.heap.size W0 w')
    (first
      | exact HKS.out _ (Below.refl _ W0).drew
      | (go_split_ands; refine HKS.out _ (below_next ?_ hbK); assumption)
      | (go_split_ands; refine HKS.out _ (below_next ?_ hbO); assumption)
      | (go_split_ands; refine HKS.out _ (below_next ?_ hbN); assumption)
      | (go_split_ands; refine HKS.out _ (below_next ?_ hbM); assumption)
      | (go_split_ands; refine HKS.out _ (below_next ?_ hbL); assumption)
      | (go_split_ands; refine HKS.out _ (below_next ?_ hbJ); assumption)
      | (go_split_ands; refine HKS.out _ (below_next ?_ hbI); assumption)
      | (go_split_ands; refine HKS.out _ (below_next ?_ hbH); assumption)
      | (go_split_ands; refine HKS.out _ (below_next ?_ hbG); assumption)
      | (go_split_ands; refine HKS.out _ (below_next ?_ hbF); assumption)
      | (go_split_ands; refine HKS.out _ (below_next ?_ hbE); assumption)
      | (go_split_ands; refine HKS.out _ (below_next ?_ hbD); assumption)
      | (go_split_ands; refine HKS.out _ (below_next ?_ hbC); assumption)
      | (go_split_ands; refine HKS.out _ (below_next ?_ hbB); assumption)
      | (go_split_ands; refine HKS.out _ (below_next ?_ hbA); assumption))
    (first
      | (go_at_call 31; refine (HC.out _ ?_).mono ?_; (go_split_ands; assumption); rintro e wA ⟨rfl, hbA⟩)
      | (go_at_call 32; refine (HRC.out _ ?_).mono ?_; (go_split_ands; assumption); rintro e wB ⟨rfl, hbB⟩)
      | (go_at_call 34; refine (HP.out _ ?_).mono ?_; (go_split_ands; assumption); rintro e wC ⟨vC, rfl, htC, hbC⟩)
      | (go_at_call_of 33 vC; refine (htC _ ?_).mono ?_; exact Below.refl _ _; rintro e wD ⟨rfl, hbD⟩)
      | (go_at_call 35; refine (HRP.out _ ?_).mono ?_; (go_split_ands; assumption); rintro e wE ⟨vE, rfl, htE, hbE⟩)
      | (go_at_call_of 33 vE; refine (htE _ ?_).mono ?_; exact Below.refl _ _; rintro e wF ⟨rfl, hbF⟩)
      | (go_at_call 36; refine (HI.out _ ?_).mono ?_; (go_split_ands; assumption); rintro e wG ⟨vG, rfl, htG, hbG⟩)
      | (go_at_call_of 13 vG; refine (htG _ ?_).mono ?_; exact Below.refl _ _; rintro e wH ⟨rfl, hbH⟩)
      | (go_at_call 37; refine (HRI.out _ ?_).mono ?_; (go_split_ands; assumption); rintro e wI ⟨vI, rfl, htI, hbI⟩)
      | (go_at_call_of 13 vI; refine (htI _ ?_).mono ?_; exact Below.refl _ _; rintro e wJ ⟨rfl, hbJ⟩)
      | (go_at_call 38; refine (HO.out _ ?_).mono ?_; (go_split_ands; assumption); rintro e wL ⟨vL, rfl, htL, hbL⟩)
      | (go_at_call_of 33 vL; refine (htL _ ?_).mono ?_; exact Below.refl _ _; rintro e wM ⟨rfl, hbM⟩)
      | (go_at_call 39; refine (HRO.out _ ?_).mono ?_; (go_split_ands; assumption); rintro e wN ⟨vN, rfl, htN, hbN⟩)
      | (go_at_call_of 33 vN; refine (htN _ ?_).mono ?_; exact Below.refl _ _; rintro e wO ⟨rfl, hbO⟩)
      | (go_at_call 12; refine (HN.out _).mono ?_; rintro e wK ⟨rfl, hbK⟩))
  have hbel1 : Below W0.heap.size W0 wK := by go_split_ands; assumption
  have HST1 := Lib.hid (HST0.out.call hbel1)
  have hsz1 := hbel1.size
  clear k0_0 k0_1 l0_
  have HBEL1 := Lib.hid hbel1
  clear hbel1
  have k0_0 : wK.cell? ⟨w.heap.size, 0, none⟩ = some (Value.int .i64 W) := HST1.out.cell 0 0 rfl rfl
  have k0_1 : wK.cell? ⟨w.heap.size, 1, none⟩ = some (Value.slice A l.length c) := HST1.out.cell 0 1 rfl rfl
  have l0_ : w.heap.size < wK.heap.size := HST1.out.lt 0 rfl
  go_wp2
  go_ret
  exact ⟨rfl, HST1.out.below⟩
end Go.Proofs.YtgmbgclhljobaaaDoor
