/- Record, of the program and of the reference. -/
import Derived.Test.YtgmbgclhljobaaaDoorRBuck
import Derived.Test.YtgmbgclhljobaaaDoorTally
import Derived.Test.YtgmbgclhljobaaaDoorRChk
import Derived.Test.YtgmbgclhljobaaaDoorHP
import Derived.Test.YtgmbgclhljobaaaDoorInk
namespace Go.Proofs.YtgmbgclhljobaaaDoor
open Go Go.RowKit Go.Proofs Go.Maps

/-- what Record returns for an error -/
def codeR (b : Int) (cs : List (Int × Int)) (v n : Int) : Int := if codeH b cs ≠ 0 then codeH b cs else if v < 0 ∨ 1125899906842623 < v ∨ n < 0 ∨ 1125899906842624 < n then 9 else if 1125899906842624 < tot cs + n then 3 else 0
/-- the counts behind Record -/
def recF (b : Int) (cs : List (Int × Int)) (v n : Int) : Int → Int := upd (sumAt id cs) (bkt b v) (sumAt id cs (bkt b v) + n)
theorem recF_dom {b : Int} {cs : List (Int × Int)} {v n x : Int} (hg : Good b cs) (hv : 0 ≤ v) (hv' : v < 1125899906842624) (h : recF b cs v n x ≠ 0) : 0 ≤ x ∧ x ≤ maxB b := by
  unfold recF upd at h
  by_cases e : x = bkt b v
  · have := bkt_within b v hg.1 hg.2.1 hv hv'
    rw [e]; omega
  · rw [if_neg e] at h
    obtain ⟨c, hc, e'⟩ := sumAt_ne _ _ _ h
    have := (hg.2.2.2.1 c hc).1
    simp only [id] at e'
    rw [e'] at this; exact this
theorem recF_wf {b : Int} {cs : List (Int × Int)} {v n : Int} (hg : Good b cs) (hv : 0 ≤ v) (hv' : v < 1125899906842624) : ∀ x, recF b cs v n x ≠ 0 → (Lit.int .i64 x).wf = true := by
  intro x h
  have h1 := recF_dom hg hv hv' h
  have h2 := maxB_bd b hg.1 hg.2.1
  exact wf_i64 (by omega) (by omega)

set_option maxHeartbeats 2000000 in
set_option maxRecDepth 100000 in
theorem Record_any (b : Int) (A : Option Addr) (c : Nat) (cs : List (Int × Int)) (v n : Int) (w : World) (hr : Rd w 0 w.heap.size 2 A cs.length (cells2 cs)) (hn : cs.length < 9223372036854775807) (_hcx : ∀ c ∈ cs, c.1 ≤ 9223372036854775807) (_hni : I64 n) :
    Calls Tryd.prog 20 #[.agg #[.int .i64 b, .slice A cs.length c], .int .i64 v, .int .i64 n] w (HistPost (recF b cs v n) b (codeR b cs v n) w) := by
  obtain ⟨W0, hW0⟩ : ∃ W0, W0 = ((w).alloc (.cells #[Value.int .i64 b, Value.slice A cs.length c] 24)).alloc (.cells #[Value.int .i64 0, Value.slice none 0 0] 24) := ⟨_, rfl⟩
  have st0 : St w W0 [(w.heap.size, Obj.cells #[Value.int .i64 b, Value.slice A cs.length c] 24 (0, 0)), (w.heap.size + 1, Obj.cells #[Value.int .i64 0, Value.slice none 0 0] 24 (0, 0))] := by rw [hW0]; exact ((St.start w).alloc _ _ (by simp)).alloc _ _ (by simp)
  have hs0 : W0.heap.size = w.heap.size + 1 + 1 := by rw [hW0]; simp
  have hsz0 : w.heap.size + 1 + 1 ≤ W0.heap.size := by omega
  have HST0 := Lib.hid st0
  have HS0 := Lib.hid hs0
  have HC := Lib.hid (check_any b A cs.length c cs W0 ((hr.below st0.below (Nat.le_refl _)).more (Nat.le_refl _) (by omega)) hn)
  have HR := Lib.hid hr
  clear hr _hcx
  clear st0 hs0
  go_enter Tryd.func20, Tryd.ntmps20
  go_wp2_with fail
  rw [← hW0]
  clear hW0
  go_wp2_with fail
  refine HC.out.mono ?_
  rintro e w1 ⟨rfl, hb1⟩
  have HST1 := Lib.hid (HST0.out.call hb1)
  have hsz1 := hb1.size
  clear hb1
  have k0_0 : w1.cell? ⟨w.heap.size, 0, none⟩ = some (Value.int .i64 b) := HST1.out.cell 0 0 rfl rfl
  have k0_1 : w1.cell? ⟨w.heap.size, 1, none⟩ = some (Value.slice A cs.length c) := HST1.out.cell 0 1 rfl rfl
  have l0_ : w.heap.size < w1.heap.size := HST1.out.lt 0 rfl
  have k1_0 : w1.cell? ⟨w.heap.size + 1, 0, none⟩ = some (Value.int .i64 0) := HST1.out.cell 1 0 rfl rfl
  have z1_0 : w1.frozen? ⟨w.heap.size + 1, 0, none⟩ = false := HST1.out.frozen 1 0 rfl
  have k1_1 : w1.cell? ⟨w.heap.size + 1, 1, none⟩ = some (Value.slice none 0 0) := HST1.out.cell 1 1 rfl rfl
  have z1_1 : w1.frozen? ⟨w.heap.size + 1, 1, none⟩ = false := HST1.out.frozen 1 1 rfl
  have l1_ : w.heap.size + 1 < w1.heap.size := HST1.out.lt 1 rfl
  by_cases hch : codeH b cs = 0
  · have hch' : (codeH b cs != 0) = false := by simp [hch]
    have hg := codeH_zero hch
    have HG := Lib.hid hg
    obtain ⟨hb2, hb8, hlen, hcs, _, htot⟩ := hg
    have htd := tot_bd cs (fun c hc => (hcs c hc).2)
    have HCS := Lib.hid hcs
    have HCH := Lib.hid hch
    clear hch hcs
    by_cases hin : v < 0 ∨ 1125899906842623 < v ∨ n < 0 ∨ 1125899906842624 < n
    · have HCC := Lib.hid (show codeR b cs v n = 9 by unfold codeR; rw [if_neg (by rw [HCH.out]; simp), if_pos hin])
      by_cases h1 : v < 0
      · have h1' : decide (v < 0) = true := by simpa using h1
        clear hin
        go_wp2
        refine bodyPost_ret (v := .tuple #[.agg #[.int .i64 0, .slice none 0 0], .int .i64 (9)]) (by simp [results, Tryd.results20, go_sem, k1_0, k1_1]) rfl (HistPost.none (by omega) HCC.out ?_)
        repeat (first | exact HST1.out.below | (refine Below.setCell ?_ (by dsimp only; omega) _))
      · have h1' : decide (v < 0) = false := by simpa using h1
        by_cases h2 : 1125899906842623 < v
        · have h2' : decide (1125899906842623 < v) = true := by simpa using h2
          clear hin
          go_wp2
          refine bodyPost_ret (v := .tuple #[.agg #[.int .i64 0, .slice none 0 0], .int .i64 (9)]) (by simp [results, Tryd.results20, go_sem, k1_0, k1_1]) rfl (HistPost.none (by omega) HCC.out ?_)
          repeat (first | exact HST1.out.below | (refine Below.setCell ?_ (by dsimp only; omega) _))
        · have h2' : decide (1125899906842623 < v) = false := by simpa using h2
          by_cases h3 : n < 0
          · have h3' : decide (n < 0) = true := by simpa using h3
            clear hin
            go_wp2
            refine bodyPost_ret (v := .tuple #[.agg #[.int .i64 0, .slice none 0 0], .int .i64 (9)]) (by simp [results, Tryd.results20, go_sem, k1_0, k1_1]) rfl (HistPost.none (by omega) HCC.out ?_)
            repeat (first | exact HST1.out.below | (refine Below.setCell ?_ (by dsimp only; omega) _))
          · have h3' : decide (n < 0) = false := by simpa using h3
            have h4' : decide (1125899906842624 < n) = true := by simp; omega
            clear hin
            go_wp2
            refine bodyPost_ret (v := .tuple #[.agg #[.int .i64 0, .slice none 0 0], .int .i64 (9)]) (by simp [results, Tryd.results20, go_sem, k1_0, k1_1]) rfl (HistPost.none (by omega) HCC.out ?_)
            repeat (first | exact HST1.out.below | (refine Below.setCell ?_ (by dsimp only; omega) _))
    · have h1' : decide (v < 0) = false := by simp; omega
      have h2' : decide (1125899906842623 < v) = false := by simp; omega
      have h3' : decide (n < 0) = false := by simp; omega
      have h4' : decide (1125899906842624 < n) = false := by simp; omega
      have hv0 : 0 ≤ v := by omega
      have hv1 : v ≤ 1125899906842623 := by omega
      have hn0 : 0 ≤ n := by omega
      have hn1 : n ≤ 1125899906842624 := by omega
      have hNIN := Lib.hid hin
      clear hin
      have HTO := Lib.hid (total_any b A cs.length c cs w1 ((HR.out.below HST1.out.below (Nat.le_refl _)).more (Nat.le_refl _) HST1.out.below.size) (by omega) (fun c hc => (HCS.out c hc).2) hlen)
      go_wp2_with fail
      refine HTO.out.mono ?_
      rintro e w2 ⟨rfl, hb2'⟩
      have HST2 := Lib.hid (HST1.out.call hb2')
      have hsz2 := hb2'.size
      clear k0_0 k0_1 l0_ k1_0 z1_0 k1_1 z1_1 l1_
      clear hb2'
      have k0_0 : w2.cell? ⟨w.heap.size, 0, none⟩ = some (Value.int .i64 b) := HST2.out.cell 0 0 rfl rfl
      have k0_1 : w2.cell? ⟨w.heap.size, 1, none⟩ = some (Value.slice A cs.length c) := HST2.out.cell 0 1 rfl rfl
      have l0_ : w.heap.size < w2.heap.size := HST2.out.lt 0 rfl
      have k1_0 : w2.cell? ⟨w.heap.size + 1, 0, none⟩ = some (Value.int .i64 0) := HST2.out.cell 1 0 rfl rfl
      have z1_0 : w2.frozen? ⟨w.heap.size + 1, 0, none⟩ = false := HST2.out.frozen 1 0 rfl
      have k1_1 : w2.cell? ⟨w.heap.size + 1, 1, none⟩ = some (Value.slice none 0 0) := HST2.out.cell 1 1 rfl rfl
      have z1_1 : w2.frozen? ⟨w.heap.size + 1, 1, none⟩ = false := HST2.out.frozen 1 1 rfl
      have l1_ : w.heap.size + 1 < w2.heap.size := HST2.out.lt 1 rfl
      by_cases hbig : 1125899906842624 < tot cs + n
      · have hbig' : decide (1125899906842624 < tot cs + n) = true := by simpa using hbig
        have HCC := Lib.hid (show codeR b cs v n = 3 by unfold codeR; rw [if_neg (by rw [HCH.out]; simp), if_neg hNIN.out, if_pos hbig])
        go_wp2
        refine bodyPost_ret (v := .tuple #[.agg #[.int .i64 0, .slice none 0 0], .int .i64 (3)]) (by simp [results, Tryd.results20, go_sem, k1_0, k1_1]) rfl (HistPost.none (by omega) HCC.out ?_)
        repeat (first | exact HST2.out.below | (refine Below.setCell ?_ (by dsimp only; omega) _))
      · have hbig' : decide (1125899906842624 < tot cs + n) = false := by simpa using hbig
        have HCC := Lib.hid (show codeR b cs v n = 0 by unfold codeR; rw [if_neg (by rw [HCH.out]; simp), if_neg hNIN.out, if_neg hbig])
        have hbk := bkt_within b v hb2 hb8 hv0 (by omega)
        have hmx := maxB_bd b hb2 hb8
        have hrd2 := (HR.out.below HST2.out.below (Nat.le_refl _)).more (Nat.le_refl _) HST2.out.below.size
        have HTA := Lib.hid (tallyOf_any b A c cs w2 hrd2 HG.out)
        clear hrd2
        go_wp2_with fail
        refine HTA.out.mono ?_
        rintro e w3 ⟨M, rfl, hM0, hM1, hmap, hb3⟩
        have HST3 := Lib.hid (HST2.out.call hb3)
        have hsz3 := hb3.size
        clear k0_0 k0_1 l0_ k1_0 z1_0 k1_1 z1_1 l1_
        clear hb3
        have k0_0 : w3.cell? ⟨w.heap.size, 0, none⟩ = some (Value.int .i64 b) := HST3.out.cell 0 0 rfl rfl
        have k0_1 : w3.cell? ⟨w.heap.size, 1, none⟩ = some (Value.slice A cs.length c) := HST3.out.cell 0 1 rfl rfl
        have l0_ : w.heap.size < w3.heap.size := HST3.out.lt 0 rfl
        have k1_0 : w3.cell? ⟨w.heap.size + 1, 0, none⟩ = some (Value.int .i64 0) := HST3.out.cell 1 0 rfl rfl
        have z1_0 : w3.frozen? ⟨w.heap.size + 1, 0, none⟩ = false := HST3.out.frozen 1 0 rfl
        have k1_1 : w3.cell? ⟨w.heap.size + 1, 1, none⟩ = some (Value.slice none 0 0) := HST3.out.cell 1 1 rfl rfl
        have z1_1 : w3.frozen? ⟨w.heap.size + 1, 1, none⟩ = false := HST3.out.frozen 1 1 rfl
        have l1_ : w.heap.size + 1 < w3.heap.size := HST3.out.lt 1 rfl
        have hsb := sumAt_bd id cs (bkt b v) (fun c hc => by have := HCS.out c hc; omega)
        have hwf : (Lit.int .i64 (bkt b v)).wf = true := wf_i64 (by omega) (by omega)
        have hlook : ∀ q, (Instr.lookup 59 (.map (some M)) (.int .i64 (bkt b v)) false).run Tryd.prog (w3.drewN q) = .ok (.int .i64 (sumAt id cs (bkt b v))) (w3.drewN q) := fun q => lookW_run (w := w3.drewN q) hmap _ hwf
        have hput : ∀ q, (Instr.mapUpdate 59 (.map (some M)) (.int .i64 (bkt b v)) (.int .i64 (sumAt id cs (bkt b v) + n))).run Tryd.prog (w3.drewN q) = .ok () (putW M (bkt b v) (sumAt id cs (bkt b v) + n) (w3.drewN q)) := fun q => (putW_run (w := w3.drewN q) hmap (by omega) _ _ hwf (wf_i64 (by omega) (by omega))).1
        have hputs : ∀ q, MapII (putW M (bkt b v) (sumAt id cs (bkt b v) + n) (w3.drewN q)) M (cs.length + 1) (recF b cs v n) ∧ (w3.drewN q).grownBy (putW M (bkt b v) (sumAt id cs (bkt b v) + n) (w3.drewN q)) (some M) := fun q => (putW_run (w := w3.drewN q) hmap (by omega) _ _ hwf (wf_i64 (by omega) (by omega))).2
        have HPS := Lib.hid hputs
        have hst4 : ∀ q, St w (putW M (bkt b v) (sumAt id cs (bkt b v) + n) (w3.drewN q)) [(w.heap.size, Obj.cells #[Value.int .i64 b, Value.slice A cs.length c] 24 (0, 0)), (w.heap.size + 1, Obj.cells #[Value.int .i64 0, Value.slice none 0 0] 24 (0, 0))] := fun q => by
          refine (HST3.out.drewN q).fr (Fr.of_grown (HPS.out q).2) ?_ (fun i hi => by have : i = M := by simpa using hi
                                                                                      omega)
          intro i b o hi hm
          have hm : b = M := by simpa using hm
          match i, hi with
          | 0, hi => cases hi; omega
          | 1, hi => cases hi; omega
        have hp0 : ∀ q, (putW M (bkt b v) (sumAt id cs (bkt b v) + n) (w3.drewN q)).cell? ⟨w.heap.size, 0, none⟩ = some (.int .i64 b) := fun q => (hst4 q).cell 0 0 rfl rfl
        have HST4 := Lib.hid hst4
        have HBK := Lib.hid (fun W => bucket_any b v W hb2 hb8 hv0 (by omega))
        clear hputs hwf hmap hst4
        go_wp2_with (go_at_call 41; refine (HBK.out _).mono ?_; rintro e w' ⟨rfl, q, rfl⟩)
        obtain ⟨hmap4, hg4⟩ := HPS.out q
        have hs4 := hg4.size
        have HST5 := Lib.hid (HST4.out q)
        obtain ⟨W4, hW4⟩ : ∃ W4, W4 = putW M (bkt b v) (sumAt id cs (bkt b v) + n) (w3.drewN q) := ⟨_, rfl⟩
        rw [← hW4] at hmap4 hg4 hs4 HST5 ⊢
        have HH := Lib.hid (histogram_any M (cs.length + 1) b (recF b cs v n) W4 hmap4 (by omega) (recF_wf HG.out hv0 (by omega)))
        clear hmap4 hg4 hlook hput hp0 HPS HST4 hW4
        refine HH.out.mono ?_
        rintro e w5 ⟨A', cs', rfl, hh, hrd, hcl, hb5⟩
        have HST6 := Lib.hid (HST5.out.call hb5)
        have hsz6 := hb5.size
        clear k0_0 k0_1 l0_ k1_0 z1_0 k1_1 z1_1 l1_
        have k0_0 : w5.cell? ⟨w.heap.size, 0, none⟩ = some (Value.int .i64 b) := HST6.out.cell 0 0 rfl rfl
        have k0_1 : w5.cell? ⟨w.heap.size, 1, none⟩ = some (Value.slice A cs.length c) := HST6.out.cell 0 1 rfl rfl
        have l0_ : w.heap.size < w5.heap.size := HST6.out.lt 0 rfl
        have k1_0 : w5.cell? ⟨w.heap.size + 1, 0, none⟩ = some (Value.int .i64 0) := HST6.out.cell 1 0 rfl rfl
        have z1_0 : w5.frozen? ⟨w.heap.size + 1, 0, none⟩ = false := HST6.out.frozen 1 0 rfl
        have k1_1 : w5.cell? ⟨w.heap.size + 1, 1, none⟩ = some (Value.slice none 0 0) := HST6.out.cell 1 1 rfl rfl
        have z1_1 : w5.frozen? ⟨w.heap.size + 1, 1, none⟩ = false := HST6.out.frozen 1 1 rfl
        have l1_ : w.heap.size + 1 < w5.heap.size := HST6.out.lt 1 rfl
        have HHI := Lib.hid hh
        have HRD := Lib.hid hrd
        have hl5 := HST5.out.lt 1 rfl
        clear hh hrd hb5
        go_wp2
        refine bodyPost_ret (v := .tuple #[.agg #[.int .i64 b, .slice A' cs'.length cs'.length], .int .i64 0]) (by simp [results, Tryd.results20, go_sem, k1_0, k1_1]) rfl (HistPost.some HCC.out HHI.out HRD.out (by omega) HST6.out.below ?_)
        repeat (first | exact Fr.refl _ _ | (refine Fr.setCell ?_ (fun _ => by dsimp only; omega) _))
  · have hch' : (codeH b cs != 0) = true := by simp [hch]
    have HCC := Lib.hid (show codeR b cs v n = codeH b cs by unfold codeR; rw [if_pos hch])
    have HCH := Lib.hid hch
    clear hch
    go_wp2
    refine bodyPost_ret (v := .tuple #[.agg #[.int .i64 0, .slice none 0 0], .int .i64 (codeH b cs)]) (by simp [results, Tryd.results20, go_sem, k1_0, k1_1]) rfl (HistPost.none (HCH.out) HCC.out ?_)
    repeat (first | exact HST1.out.below | (refine Below.setCell ?_ (by dsimp only; omega) _))

set_option maxHeartbeats 2000000 in
set_option maxRecDepth 100000 in
theorem RRecord_any (b : Int) (A : Option Addr) (c : Nat) (cs : List (Int × Int)) (v n : Int) (w : World) (hr : Rd w 0 w.heap.size 2 A cs.length (cells2 cs)) (hn : cs.length < 9223372036854775807) (hcx : ∀ c ∈ cs, c.1 ≤ 9223372036854775807) (_hni : I64 n) :
    Calls Tryd.prog 21 #[.agg #[.int .i64 b, .slice A cs.length c], .int .i64 v, .int .i64 n] w (HistPost (recF b cs v n) b (codeR b cs v n) w) := by
  obtain ⟨W0, hW0⟩ : ∃ W0, W0 = ((w).alloc (.cells #[Value.int .i64 b, Value.slice A cs.length c] 24)).alloc (.cells #[Value.int .i64 0, Value.slice none 0 0] 24) := ⟨_, rfl⟩
  have st0 : St w W0 [(w.heap.size, Obj.cells #[Value.int .i64 b, Value.slice A cs.length c] 24 (0, 0)), (w.heap.size + 1, Obj.cells #[Value.int .i64 0, Value.slice none 0 0] 24 (0, 0))] := by rw [hW0]; exact ((St.start w).alloc _ _ (by simp)).alloc _ _ (by simp)
  have hs0 : W0.heap.size = w.heap.size + 1 + 1 := by rw [hW0]; simp
  have hsz0 : w.heap.size + 1 + 1 ≤ W0.heap.size := by omega
  have HST0 := Lib.hid st0
  have HS0 := Lib.hid hs0
  have HC := Lib.hid (rcheck_any b A cs.length c cs W0 ((hr.below st0.below (Nat.le_refl _)).more (Nat.le_refl _) (by omega)) hn hcx)
  have HR := Lib.hid hr
  clear hr hcx
  clear st0 hs0
  go_enter Tryd.func21, Tryd.ntmps21
  go_wp2_with fail
  rw [← hW0]
  clear hW0
  go_wp2_with fail
  refine HC.out.mono ?_
  rintro e w1 ⟨rfl, hb1⟩
  have HST1 := Lib.hid (HST0.out.call hb1)
  have hsz1 := hb1.size
  clear hb1
  have k0_0 : w1.cell? ⟨w.heap.size, 0, none⟩ = some (Value.int .i64 b) := HST1.out.cell 0 0 rfl rfl
  have k0_1 : w1.cell? ⟨w.heap.size, 1, none⟩ = some (Value.slice A cs.length c) := HST1.out.cell 0 1 rfl rfl
  have l0_ : w.heap.size < w1.heap.size := HST1.out.lt 0 rfl
  have k1_0 : w1.cell? ⟨w.heap.size + 1, 0, none⟩ = some (Value.int .i64 0) := HST1.out.cell 1 0 rfl rfl
  have z1_0 : w1.frozen? ⟨w.heap.size + 1, 0, none⟩ = false := HST1.out.frozen 1 0 rfl
  have k1_1 : w1.cell? ⟨w.heap.size + 1, 1, none⟩ = some (Value.slice none 0 0) := HST1.out.cell 1 1 rfl rfl
  have z1_1 : w1.frozen? ⟨w.heap.size + 1, 1, none⟩ = false := HST1.out.frozen 1 1 rfl
  have l1_ : w.heap.size + 1 < w1.heap.size := HST1.out.lt 1 rfl
  by_cases hch : codeH b cs = 0
  · have hch' : (codeH b cs != 0) = false := by simp [hch]
    have hg := codeH_zero hch
    have HG := Lib.hid hg
    obtain ⟨hb2, hb8, hlen, hcs, _, htot⟩ := hg
    have htd := tot_bd cs (fun c hc => (hcs c hc).2)
    have HCS := Lib.hid hcs
    have HCH := Lib.hid hch
    clear hch hcs
    by_cases hin : v < 0 ∨ 1125899906842623 < v ∨ n < 0 ∨ 1125899906842624 < n
    · have HCC := Lib.hid (show codeR b cs v n = 9 by unfold codeR; rw [if_neg (by rw [HCH.out]; simp), if_pos hin])
      by_cases h1 : v < 0
      · have h1' : decide (v < 0) = true := by simpa using h1
        clear hin
        go_wp2
        refine bodyPost_ret (v := .tuple #[.agg #[.int .i64 0, .slice none 0 0], .int .i64 (9)]) (by simp [results, Tryd.results21, go_sem, k1_0, k1_1]) rfl (HistPost.none (by omega) HCC.out ?_)
        repeat (first | exact HST1.out.below | (refine Below.setCell ?_ (by dsimp only; omega) _))
      · have h1' : decide (v < 0) = false := by simpa using h1
        by_cases h2 : 1125899906842623 < v
        · have h2' : decide (1125899906842623 < v) = true := by simpa using h2
          clear hin
          go_wp2
          refine bodyPost_ret (v := .tuple #[.agg #[.int .i64 0, .slice none 0 0], .int .i64 (9)]) (by simp [results, Tryd.results21, go_sem, k1_0, k1_1]) rfl (HistPost.none (by omega) HCC.out ?_)
          repeat (first | exact HST1.out.below | (refine Below.setCell ?_ (by dsimp only; omega) _))
        · have h2' : decide (1125899906842623 < v) = false := by simpa using h2
          by_cases h3 : n < 0
          · have h3' : decide (n < 0) = true := by simpa using h3
            clear hin
            go_wp2
            refine bodyPost_ret (v := .tuple #[.agg #[.int .i64 0, .slice none 0 0], .int .i64 (9)]) (by simp [results, Tryd.results21, go_sem, k1_0, k1_1]) rfl (HistPost.none (by omega) HCC.out ?_)
            repeat (first | exact HST1.out.below | (refine Below.setCell ?_ (by dsimp only; omega) _))
          · have h3' : decide (n < 0) = false := by simpa using h3
            have h4' : decide (1125899906842624 < n) = true := by simp; omega
            clear hin
            go_wp2
            refine bodyPost_ret (v := .tuple #[.agg #[.int .i64 0, .slice none 0 0], .int .i64 (9)]) (by simp [results, Tryd.results21, go_sem, k1_0, k1_1]) rfl (HistPost.none (by omega) HCC.out ?_)
            repeat (first | exact HST1.out.below | (refine Below.setCell ?_ (by dsimp only; omega) _))
    · have h1' : decide (v < 0) = false := by simp; omega
      have h2' : decide (1125899906842623 < v) = false := by simp; omega
      have h3' : decide (n < 0) = false := by simp; omega
      have h4' : decide (1125899906842624 < n) = false := by simp; omega
      have hv0 : 0 ≤ v := by omega
      have hv1 : v ≤ 1125899906842623 := by omega
      have hn0 : 0 ≤ n := by omega
      have hn1 : n ≤ 1125899906842624 := by omega
      have hNIN := Lib.hid hin
      clear hin
      have HTO := Lib.hid (rtotal_any b A cs.length c cs w1 ((HR.out.below HST1.out.below (Nat.le_refl _)).more (Nat.le_refl _) HST1.out.below.size) (fun c hc => (HCS.out c hc).2) hlen)
      go_wp2_with fail
      refine HTO.out.mono ?_
      rintro e w2 ⟨rfl, hb2'⟩
      have HST2 := Lib.hid (HST1.out.call hb2')
      have hsz2 := hb2'.size
      clear k0_0 k0_1 l0_ k1_0 z1_0 k1_1 z1_1 l1_
      clear hb2'
      have k0_0 : w2.cell? ⟨w.heap.size, 0, none⟩ = some (Value.int .i64 b) := HST2.out.cell 0 0 rfl rfl
      have k0_1 : w2.cell? ⟨w.heap.size, 1, none⟩ = some (Value.slice A cs.length c) := HST2.out.cell 0 1 rfl rfl
      have l0_ : w.heap.size < w2.heap.size := HST2.out.lt 0 rfl
      have k1_0 : w2.cell? ⟨w.heap.size + 1, 0, none⟩ = some (Value.int .i64 0) := HST2.out.cell 1 0 rfl rfl
      have z1_0 : w2.frozen? ⟨w.heap.size + 1, 0, none⟩ = false := HST2.out.frozen 1 0 rfl
      have k1_1 : w2.cell? ⟨w.heap.size + 1, 1, none⟩ = some (Value.slice none 0 0) := HST2.out.cell 1 1 rfl rfl
      have z1_1 : w2.frozen? ⟨w.heap.size + 1, 1, none⟩ = false := HST2.out.frozen 1 1 rfl
      have l1_ : w.heap.size + 1 < w2.heap.size := HST2.out.lt 1 rfl
      by_cases hbig : 1125899906842624 < tot cs + n
      · have hbig' : decide (1125899906842624 < tot cs + n) = true := by simpa using hbig
        have HCC := Lib.hid (show codeR b cs v n = 3 by unfold codeR; rw [if_neg (by rw [HCH.out]; simp), if_neg hNIN.out, if_pos hbig])
        go_wp2
        refine bodyPost_ret (v := .tuple #[.agg #[.int .i64 0, .slice none 0 0], .int .i64 (3)]) (by simp [results, Tryd.results21, go_sem, k1_0, k1_1]) rfl (HistPost.none (by omega) HCC.out ?_)
        repeat (first | exact HST2.out.below | (refine Below.setCell ?_ (by dsimp only; omega) _))
      · have hbig' : decide (1125899906842624 < tot cs + n) = false := by simpa using hbig
        have HCC := Lib.hid (show codeR b cs v n = 0 by unfold codeR; rw [if_neg (by rw [HCH.out]; simp), if_neg hNIN.out, if_neg hbig])
        have hbk := bkt_within b v hb2 hb8 hv0 (by omega)
        have hmx := maxB_bd b hb2 hb8
        have hrd2 := (HR.out.below HST2.out.below (Nat.le_refl _)).more (Nat.le_refl _) HST2.out.below.size
        have HM := Lib.hid (more_any b (bkt b v) n A c cs w2.drew hrd2 (by omega) (by omega) (by omega) (fun c hc => by have := HCS.out c hc; omega))
        have HP := Lib.hid (fun W => (place_any b v W hb2 hb8 hv0 (by omega)).mono (fun _ _ h => And.intro h.1 h.2.symm))
        have HHI := Lib.hid (more_hist HG.out.hist (fun x => (sumAt_bd id cs x (fun c hc => by have := HCS.out c hc; omega)).1) (bkt b v) n (by omega))
        clear hrd2
        go_wp2
        refine wp_region_still_tail 6 mixed (by kernel_rfl) ?_
        simp only [List.take_succ_cons, List.take_zero, List.drop_succ_cons, List.drop_zero]
        repeat still_step
        still_call (HP.out _)
        repeat still_step
        refine wpStill_nil ?_
        change wpList _ _ _ _ _ w2.drew
        go_wp2_with fail
        have HST2' := Lib.hid HST2.out.drew
        refine HM.out.mono ?_
        rintro e w3 ⟨u, rfl, ⟨A2, c2, rfl, hlc, hcm, hA2, hrd⟩, hb3⟩
        have HST3 := Lib.hid (HST2'.out.call hb3)
        have hsz3 := hb3.size
        clear k0_0 k0_1 l0_ k1_0 z1_0 k1_1 z1_1 l1_
        have k0_0 : w3.cell? ⟨w.heap.size, 0, none⟩ = some (Value.int .i64 b) := HST3.out.cell 0 0 rfl rfl
        have k0_1 : w3.cell? ⟨w.heap.size, 1, none⟩ = some (Value.slice A cs.length c) := HST3.out.cell 0 1 rfl rfl
        have l0_ : w.heap.size < w3.heap.size := HST3.out.lt 0 rfl
        have k1_0 : w3.cell? ⟨w.heap.size + 1, 0, none⟩ = some (Value.int .i64 0) := HST3.out.cell 1 0 rfl rfl
        have z1_0 : w3.frozen? ⟨w.heap.size + 1, 0, none⟩ = false := HST3.out.frozen 1 0 rfl
        have k1_1 : w3.cell? ⟨w.heap.size + 1, 1, none⟩ = some (Value.slice none 0 0) := HST3.out.cell 1 1 rfl rfl
        have z1_1 : w3.frozen? ⟨w.heap.size + 1, 1, none⟩ = false := HST3.out.frozen 1 1 rfl
        have l1_ : w.heap.size + 1 < w3.heap.size := HST3.out.lt 1 rfl
        have HRD := Lib.hid hrd
        have hl5 : w.heap.size + 1 < w2.heap.size := HST2.out.lt 1 rfl
        clear hrd hb3 hA2 hcm hlc
        go_wp2
        refine bodyPost_ret (v := .tuple #[.agg #[.int .i64 b, .slice A2 (moreL (bkt b v) n cs).length c2], .int .i64 0]) (by simp [results, Tryd.results21, go_sem, k1_0, k1_1]) rfl (HistPost.some HCC.out HHI.out HRD.out (show w.heap.size ≤ w2.heap.size by omega) HST3.out.below ?_)
        repeat (first | exact Fr.refl _ _ | (refine Fr.setCell ?_ (fun _ => by show _ < w2.heap.size ∧ _; dsimp only; omega) _))
  · have hch' : (codeH b cs != 0) = true := by simp [hch]
    have HCC := Lib.hid (show codeR b cs v n = codeH b cs by unfold codeR; rw [if_pos hch])
    have HCH := Lib.hid hch
    clear hch
    go_wp2
    refine bodyPost_ret (v := .tuple #[.agg #[.int .i64 0, .slice none 0 0], .int .i64 (codeH b cs)]) (by simp [results, Tryd.results21, go_sem, k1_0, k1_1]) rfl (HistPost.none (HCH.out) HCC.out ?_)
    repeat (first | exact HST1.out.below | (refine Below.setCell ?_ (by dsimp only; omega) _))
end Go.Proofs.YtgmbgclhljobaaaDoor
