/- Coarse: the histogram with fewer bits. -/
import Derived.Test.YtgmbgclhljobaaaDoorSum
namespace Go.Proofs.YtgmbgclhljobaaaDoor
open Go Go.RowKit Go.Proofs Go.Maps

/-- where a bucket goes -/
def cz (b d k : Int) : Int := bkt d (loB b k)
/-- what Coarse returns for an error -/
def codeC (b : Int) (cs : List (Int × Int)) (d : Int) : Int := if codeH b cs ≠ 0 then codeH b cs else if d < 2 ∨ b < d then 9 else 0
theorem codeC_zero {b : Int} {cs : List (Int × Int)} {d : Int} (h : codeC b cs d = 0) : codeH b cs = 0 ∧ 2 ≤ d ∧ d ≤ b := by
  unfold codeC at h
  split at h
  · omega
  · split at h
    · omega
    · exact ⟨by omega, by omega, by omega⟩
theorem cz_bd {b d k : Int} (hb : 2 ≤ b) (hb' : b ≤ 8) (hd : 2 ≤ d) (hd' : d ≤ 8) (hk : 0 ≤ k) (hk' : k ≤ maxB b) : 0 ≤ cz b d k ∧ cz b d k ≤ maxB d := by
  have h1 := lim_bd b k hb hb' hk hk'
  have h2 := bkt_within d (loB b k) hd hd' h1.1 (by omega)
  unfold cz; omega

/-- what the loop of Coarse keeps -/
def CoRel (w wr : World) (b d : Int) (A : Option Addr) (n c M : Nat) (cs : List (Int × Int)) (k : Nat) : Prop :=
  k ≤ n ∧ MapII wr M k (sumAt (cz b d) (cs.take k)) ∧ Below w.heap.size w wr ∧ w.heap.size + 1 < M ∧ M < wr.heap.size ∧
    wr.heap[w.heap.size]? = some (.cells #[.int .i64 b, .slice A n c] 24 (0, 0)) ∧ wr.heap[w.heap.size + 1]? = some (.cells #[.int .i64 0, .slice none 0 0] 24 (0, 0))
theorem CoRel.put {w wr : World} {b d : Int} {A : Option Addr} {n c M : Nat} {cs : List (Int × Int)} {k : Nat} {x m : Int} (h : CoRel w wr b d A n c M cs k) (hk : k < n) (hx : cs[k]? = some (x, m)) {w1 w2 : World} (hb : Below wr.heap.size wr w1)
    (hm : MapII w2 M (k + 1) (upd (sumAt (cz b d) (cs.take k)) (cz b d x) (sumAt (cz b d) (cs.take k) (cz b d x) + m))) (hg : w1.grownBy w2 (some M)) : CoRel w w2 b d A n c M cs (k + 1) := by
  obtain ⟨h1, h2, h3, h4, h5, h6, h7⟩ := h
  have hf := Fr.of_grown hg
  have hs := hb.size
  have hs2 := hg.size
  refine ⟨by omega, ?_, ?_, h4, by omega, ?_, ?_⟩
  · rw [sumAt_snoc] at hm
    rw [List.take_add_one, hx]; exact hm
  · exact (h3.trans (hb.mono (by omega))).grown hg (by omega) (fun j hj => by cases hj; omega)
  · exact (hf.block _ (by omega) (by simp; omega)).trans ((hb.block _ (by omega)).trans h6)
  · exact (hf.block _ (by omega) (by simp; omega)).trans ((hb.block _ (by omega)).trans h7)

set_option maxHeartbeats 2000000 in
set_option maxRecDepth 100000 in
theorem Coarse_any (b : Int) (A : Option Addr) (c : Nat) (cs : List (Int × Int)) (d : Int) (w : World) (hr : Rd w 0 w.heap.size 2 A cs.length (cells2 cs)) (hn : cs.length < 9223372036854775807) :
    Calls Tryd.prog 15 #[.agg #[.int .i64 b, .slice A cs.length c], .int .i64 d] w fun e w' => ∃ v, e = .returned (.tuple #[v, .int .i64 (codeC b cs d)]) ∧
      (codeC b cs d = 0 → ∃ cs', IsHist (sumAt (cz b d) cs) cs' ∧ HistV w' w.heap.size v d cs') ∧ (codeC b cs d ≠ 0 → v = .agg #[.int .i64 0, .slice none 0 0]) ∧ Below w.heap.size w w' := by
  obtain ⟨W0, hW0⟩ : ∃ W0, W0 = (w.alloc (.cells #[.int .i64 b, .slice A cs.length c] 24)).alloc (.cells #[.int .i64 0, .slice none 0 0] 24) := ⟨_, rfl⟩
  have hs0 : W0.heap.size = w.heap.size + 1 + 1 := by rw [hW0]; simp
  have hbw0 : Below w.heap.size w W0 := by rw [hW0]; exact ((Below.refl _ w).alloc (Nat.le_refl _) _).alloc (by simp) _
  have hbx0 : W0.heap[w.heap.size]? = some (.cells #[.int .i64 b, .slice A cs.length c] 24 (0, 0)) := by rw [hW0]; exact (Below.heap_alloc _ _ _ (by simp)).trans (alloc_at _ _ _ rfl)
  have hbx1 : W0.heap[w.heap.size + 1]? = some (.cells #[.int .i64 0, .slice none 0 0] 24 (0, 0)) := by rw [hW0]; exact alloc_at _ _ _ (by simp)
  have hr0 : Rd W0 0 w.heap.size 2 A cs.length (cells2 cs) := hr.below hbw0 (Nat.le_refl _)
  have HC := Lib.hid (check_any b A cs.length c cs W0 (hr0.more (Nat.le_refl _) (by omega)) hn)
  have HR := Lib.hid hr
  have HB0 := Lib.hid hbw0
  have HX0 := Lib.hid hbx0
  have HX1 := Lib.hid hbx1
  have HS0 := Lib.hid hs0
  have hmm := @run_makeMap Tryd.prog
  clear hr hr0 hbw0 hbx0 hbx1 hs0
  go_enter Tryd.func15, Tryd.ntmps15
  go_wp2_with fail
  rw [← hW0]
  clear hW0
  refine HC.out.mono ?_
  rintro e w1 ⟨rfl, hb1⟩
  have hs1 := hb1.size
  rw [HS0.out] at hs1
  have hbxa := (hb1.block _ (show w.heap.size < W0.heap.size by have := HS0.out; omega)).trans HX0.out
  have hbxb := (hb1.block _ (show w.heap.size + 1 < W0.heap.size by have := HS0.out; omega)).trans HX1.out
  have a0 : w1.cell? ⟨w.heap.size, 0, none⟩ = some (.int .i64 b) := by rw [cellsAt hbxa]; rfl
  have a1 : w1.cell? ⟨w.heap.size, 1, none⟩ = some (.slice A cs.length c) := by rw [cellsAt hbxa]; rfl
  have b0 : w1.cell? ⟨w.heap.size + 1, 0, none⟩ = some (.int .i64 0) := by rw [cellsAt hbxb]; rfl
  have b1 : w1.cell? ⟨w.heap.size + 1, 1, none⟩ = some (.slice none 0 0) := by rw [cellsAt hbxb]; rfl
  have z0 : w1.frozen? ⟨w.heap.size + 1, 0, none⟩ = false := frozenAt hbxb 0
  have z1 : w1.frozen? ⟨w.heap.size + 1, 1, none⟩ = false := frozenAt hbxb 1
  have hbel1 : Below w.heap.size w w1 := HB0.out.trans (hb1.mono (by have := HS0.out; omega))
  have HBE := Lib.hid hbel1
  have HXA := Lib.hid hbxa
  have HXB := Lib.hid hbxb
  clear hb1 hbxa hbxb
  have fin : ∀ (W : World) (code : Int), code ≠ 0 → codeC b cs d = code → Fr (fun i => i = w.heap.size + 1) w1 W → ∃ v, Ending.returned (Value.tuple #[Value.agg #[.int .i64 0, .slice none 0 0], .int .i64 code]) = .returned (.tuple #[v, .int .i64 (codeC b cs d)]) ∧
      (codeC b cs d = 0 → ∃ cs', IsHist (sumAt (cz b d) cs) cs' ∧ HistV W w.heap.size v d cs') ∧ (codeC b cs d ≠ 0 → v = .agg #[.int .i64 0, .slice none 0 0]) ∧ Below w.heap.size w W := by
    intro W code h0 hc hW
    exact ⟨_, by rw [hc], fun h => absurd (hc.symm.trans h) h0, fun _ => rfl, HBE.out.trans (hW.below (by have := HBE.out.size; omega) (fun i hi => by omega))⟩
  have FIN := Lib.hid fin
  clear fin
  by_cases hch : codeH b cs = 0
  · have hch' : (codeH b cs != 0) = false := by simp [hch]
    have hg := codeH_zero hch
    have HG := Lib.hid hg
    obtain ⟨hb2, hb8, hlen, hcs, _, htot⟩ := hg
    have HCS := Lib.hid hcs
    have HCH := Lib.hid hch
    clear hch hcs
    by_cases hd2 : d < 2
    · have hd2' : decide (d < 2) = true := by simpa using hd2
      have HCC := Lib.hid (show codeC b cs d = 9 by unfold codeC; rw [if_neg (by rw [HCH.out]; simp), if_pos (.inl hd2)])
      go_wp2
      refine bodyPost_ret (v := .tuple #[.agg #[.int .i64 0, .slice none 0 0], .int .i64 9]) (by simp [results, Tryd.results15, go_sem, b0, b1]) rfl (FIN.out _ 9 (by omega) HCC.out ?_)
      repeat (first | exact Fr.refl _ _ | (refine Fr.setCell ?_ (fun _ => by dsimp only) _))
    · have hd2' : decide (d < 2) = false := by simpa using hd2
      by_cases hdb : b < d
      · have hdb' : decide (b < d) = true := by simpa using hdb
        have HCC := Lib.hid (show codeC b cs d = 9 by unfold codeC; rw [if_neg (by rw [HCH.out]; simp), if_pos (.inr hdb)])
        go_wp2
        refine bodyPost_ret (v := .tuple #[.agg #[.int .i64 0, .slice none 0 0], .int .i64 9]) (by simp [results, Tryd.results15, go_sem, b0, b1]) rfl (FIN.out _ 9 (by omega) HCC.out ?_)
        repeat (first | exact Fr.refl _ _ | (refine Fr.setCell ?_ (fun _ => by dsimp only) _))
      · have hdb' : decide (b < d) = false := by simpa using hdb
        have HCC := Lib.hid (show codeC b cs d = 0 by unfold codeC; rw [if_neg (by rw [HCH.out]; simp), if_neg (by omega)])
        have hL : w.heap.size + 1 < w1.heap.size := by omega
        have hL0 : w.heap.size < w1.heap.size := by omega
        go_wp2
        clear hmm
        go_loopw [9, 10, 11, 31] (fun _ _ _ i wr => ∃ k : Nat, i = .int .i64 k ∧ CoRel w wr b d A cs.length c w1.heap.size cs k) (fun _ _ _ i _ => cs.length - (intOf i).toNat)
        case atStart =>
          refine ⟨0, rfl, Nat.zero_le _, ?_, HBE.out.alloc (by omega) _, hL, by simp, (Below.heap_alloc _ _ _ (by omega)).trans HXA.out, (Below.heap_alloc _ _ _ (by omega)).trans HXB.out⟩
          have := mapII_made w1
          rw [List.take_zero, sumAt_nil]; exact this
        case round =>
          obtain ⟨k, rfl, hrel⟩ := hrel
          obtain ⟨hk, hmap, hbw, hM0, hM1, hx0, hx1⟩ := id hrel
          by_cases hlt : k < cs.length
          · obtain ⟨bk, o, x, m, rfl, _, hbk, hx, c0, c1⟩ := (HR.out.below hbw (Nat.le_refl _)).at2 hlt
            have hcx := HCS.out (x, m) (List.mem_of_getElem? hx)
            obtain ⟨⟨hx0', hx1'⟩, hm1, hm2⟩ := hcx
            simp only at hx0' hx1' hm1 hm2
            have hlb := lim_bd b x hb2 hb8 hx0' hx1'
            have hcz := cz_bd hb2 hb8 (show 2 ≤ d by omega) (show d ≤ 8 by omega) hx0' hx1'
            have hmd := maxB_bd d (by omega) (by omega)
            have hsb := sumAt_bd (cz b d) (cs.take k) (cz b d x) (fun c hc => by have := HCS.out c (List.mem_of_mem_take hc); omega)
            have htt := tot_take_le cs (fun c hc => by have := HCS.out c hc; omega) k
            have hwf : (Lit.int .i64 (cz b d x)).wf = true := wf_i64 (by omega) (by omega)
            have e0 : wr.cell? ⟨w.heap.size, 0, none⟩ = some (.int .i64 b) := by rw [cellsAt hx0]; rfl
            have e1 : wr.cell? ⟨w.heap.size, 1, none⟩ = some (.slice (some ⟨bk, o, none⟩) cs.length c) := by rw [cellsAt hx0]; rfl
            have hne : bk ≠ wr.heap.size := by omega
            have hbl : bk < wr.heap.size := by omega
            have hN : w.heap.size < wr.heap.size := by omega
            have HREL := Lib.hid hrel
            have HX := Lib.hid hx
            have HMAP := Lib.hid hmap
            have HWF := Lib.hid hwf
            clear hrel hx hmap hx0 hx1 hwf
            go_wp2_with (go_at_call 48; refine (limits_any _ _ _ hb2 hb8 hx0' hx1').mono ?_; rintro e w' ⟨rfl, q, rfl⟩)
            obtain ⟨W2, hW2⟩ : ∃ W2, W2 = (wr.alloc (.cells #[.int .i64 x, .int .i64 m] 63)).drewN q := ⟨_, rfl⟩
            rw [← hW2]
            have hbW2 : Below wr.heap.size wr W2 := by rw [hW2]; exact below_drewN ((Below.refl _ wr).alloc (Nat.le_refl _) _) _
            have hmW2 : MapII W2 w1.heap.size k (sumAt (cz b d) (cs.take k)) := by
              obtain ⟨D, h1, h2⟩ := HMAP.out
              exact ⟨D, by rw [hW2]; exact h1.alloc _, h2⟩
            have hcW2 : W2.cell? ⟨wr.heap.size, 1, none⟩ = some (.int .i64 m) := by rw [hW2]; exact cellsAt (alloc_at _ _ _ rfl) _
            have hsW2 : W2.heap.size = wr.heap.size + 1 := by rw [hW2]; simp
            clear hW2
            have hlook : ∀ n, (Instr.lookup 59 (.map (some w1.heap.size)) (.int .i64 (cz b d x)) false).run Tryd.prog (W2.drewN n) = .ok (.int .i64 (sumAt (cz b d) (cs.take k) (cz b d x))) (W2.drewN n) := fun n => lookW_run (w := W2.drewN n) hmW2 _ HWF.out
            have hput : ∀ n, (Instr.mapUpdate 59 (.map (some w1.heap.size)) (.int .i64 (cz b d x)) (.int .i64 (IntKind.i64.wrap (sumAt (cz b d) (cs.take k) (cz b d x) + m)))).run Tryd.prog (W2.drewN n) = .ok () (putW w1.heap.size (cz b d x) (sumAt (cz b d) (cs.take k) (cz b d x) + m) (W2.drewN n)) := fun n => by
              rw [IntWalk.i64_in _ (by omega)]
              exact (putW_run (w := W2.drewN n) hmW2 (by omega) _ _ HWF.out (wf_i64 (by omega) (by omega))).1
            have HMW := Lib.hid hmW2
            have HBW := Lib.hid hbW2
            clear hmW2 hbW2
            have HBK := Lib.hid (show ∀ W, Calls Tryd.prog 41 #[.int .i64 d, .int .i64 (loB b x)] W (fun e w' => e = .returned (.int .i64 (cz b d x)) ∧ ∃ n, w' = W.drewN n) from fun W => bucket_any d (loB b x) W (by omega) (by omega) hlb.1 (by omega))
            go_region_with (go_at_call 41; refine (HBK.out _).mono ?_; rintro e w' ⟨rfl, nq, rfl⟩)
            all_goals clear hlook hput
            all_goals go_wp2
            all_goals go_roundw
            all_goals first
              | (refine ⟨k + 1, by go_num, CoRel.put HREL.out hlt HX.out (w1 := W2.drewN (1 + nq)) (below_drewN HBW.out _) ?_ ?_⟩
                 · exact (putW_run (w := W2.drewN (1 + nq)) HMW.out (by omega) _ _ HWF.out (wf_i64 (by omega) (by omega))).2.1
                 · exact (putW_run (w := W2.drewN (1 + nq)) HMW.out (by omega) _ _ HWF.out (wf_i64 (by omega) (by omega))).2.2)
              | (simp [intOf]; omega)
          · have htk : cs.take k = cs := List.take_of_length_le (by omega)
            rw [htk] at hmap
            have HH := Lib.hid (histogram_any w1.heap.size k d (sumAt (cz b d) cs) wr hmap (by omega) (fun x hx => by
              obtain ⟨y, hy, e⟩ := sumAt_ne _ _ _ hx
              have h1 := HCS.out y hy
              have h2 := cz_bd hb2 hb8 (show 2 ≤ d by omega) (show d ≤ 8 by omega) h1.1.1 h1.1.2
              have h3 := maxB_bd d (by omega) (by omega)
              rw [e] at h2
              exact wf_i64 (by omega) (by omega)))
            have HW := Lib.hid hbw
            have HBX := Lib.hid hx1
            clear hrel hmap hx0 hx1 hbw htk
            go_wp2_with fail
            refine HH.out.mono ?_
            rintro e w2 ⟨A', cs', rfl, hh, hrd, hcl, hb'⟩
            have hbx' : w2.heap[w.heap.size + 1]? = some (.cells #[.int .i64 0, .slice none 0 0] 24 (0, 0)) := (hb'.block _ (by omega)).trans HBX.out
            have c0 : w2.cell? ⟨w.heap.size + 1, 0, none⟩ = some (.int .i64 0) := by rw [cellsAt hbx']; rfl
            have c1 : w2.cell? ⟨w.heap.size + 1, 1, none⟩ = some (.slice none 0 0) := by rw [cellsAt hbx']; rfl
            have y0 : w2.frozen? ⟨w.heap.size + 1, 0, none⟩ = false := frozenAt hbx' 0
            have y1 : w2.frozen? ⟨w.heap.size + 1, 1, none⟩ = false := frozenAt hbx' 1
            have HHI := Lib.hid hh
            have HRD := Lib.hid hrd
            have HBW := Lib.hid hb'
            clear hh hrd hb' hbx'
            go_wp2
            have fin2 : ∀ W : World, Fr (fun i => i = w.heap.size + 1) w2 W → ∃ v, Ending.returned (Value.tuple #[Value.agg #[Value.int .i64 d, .slice A' cs'.length cs'.length], .int .i64 0]) = .returned (.tuple #[v, .int .i64 (codeC b cs d)]) ∧
                (codeC b cs d = 0 → ∃ cs', IsHist (sumAt (cz b d) cs) cs' ∧ HistV W w.heap.size v d cs') ∧ (codeC b cs d ≠ 0 → v = .agg #[.int .i64 0, .slice none 0 0]) ∧ Below w.heap.size w W := by
              intro W hW
              have hs2 := HBW.out.size
              refine ⟨_, by rw [HCC.out], fun _ => ⟨cs', HHI.out, ⟨A', cs'.length, rfl, Nat.le_refl _, by unfold maxLen; omega, ?_, ?_⟩⟩, fun h => absurd HCC.out h, ?_⟩
              · intro hA
                have : ¬ 0 < cs'.length := by
                  intro hp
                  obtain ⟨_, _, e, _⟩ := HRD.out.2 hp
                  rw [hA] at e; cases e
                omega
              · exact (HRD.out.fr hW (Nat.le_refl _) (fun i hi _ => by omega)).more (by omega) hW.size
              · exact HW.out.trans ((HBW.out.mono (by omega)).trans (hW.below (by omega) (fun i hi => by omega)))
            refine bodyPost_ret (v := .tuple #[.agg #[.int .i64 d, .slice A' cs'.length cs'.length], .int .i64 0]) (by simp [results, Tryd.results15, go_sem, c0, c1]) rfl (fin2 _ ?_)
            repeat (first | exact Fr.refl _ _ | (refine Fr.setCell ?_ (fun _ => by dsimp only) _))
  · have hch' : (codeH b cs != 0) = true := by simp [hch]
    have HCC := Lib.hid (show codeC b cs d = codeH b cs by unfold codeC; rw [if_pos hch])
    have HCH := Lib.hid hch
    clear hch
    go_wp2
    refine bodyPost_ret (v := .tuple #[.agg #[.int .i64 0, .slice none 0 0], .int .i64 (codeH b cs)]) (by simp [results, Tryd.results15, go_sem, b0, b1]) rfl (FIN.out _ (codeH b cs) HCH.out HCC.out ?_)
    repeat (first | exact Fr.refl _ _ | (refine Fr.setCell ?_ (fun _ => by dsimp only) _))
end Go.Proofs.YtgmbgclhljobaaaDoor
