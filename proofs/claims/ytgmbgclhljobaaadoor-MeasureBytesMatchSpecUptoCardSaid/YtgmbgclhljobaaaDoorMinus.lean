/- Minus. -/
import Derived.Test.YtgmbgclhljobaaaDoorMerge
namespace Go.Proofs.YtgmbgclhljobaaaDoor
open Go Go.RowKit Go.Proofs Go.Maps

/-- what is left -/
def miF (cs1 cs2 : List (Int × Int)) : Int → Int := fun x => sumAt id cs1 x - sumAt id cs2 x
theorem miF_nil (cs1 : List (Int × Int)) : miF cs1 [] = sumAt id cs1 := by funext x; simp [miF, sumAt_nil]
theorem miF_snoc (cs1 cs2 : List (Int × Int)) (x m : Int) : upd (miF cs1 cs2) x (miF cs1 cs2 x - m) = miF cs1 (cs2 ++ [(x, m)]) := by
  funext y
  have h := congrFun (sumAt_snoc id cs2 x m) y
  unfold upd miF at *
  simp only [id] at h
  by_cases e : y = x
  · subst e; rw [if_pos rfl] at h ⊢; omega
  · rw [if_neg e] at h ⊢; omega
theorem miF_dom {b : Int} {cs1 cs2 : List (Int × Int)} (h1 : Good b cs1) (h2 : Good b cs2) {x : Int} (h : miF cs1 cs2 x ≠ 0) : 0 ≤ x ∧ x ≤ maxB b := by
  unfold miF at h
  have : sumAt id cs1 x ≠ 0 ∨ sumAt id cs2 x ≠ 0 := by omega
  rcases this with h | h
  · obtain ⟨c, hc, e⟩ := sumAt_ne _ _ _ h
    have := (h1.cells c hc).1
    simp only [id] at e
    rw [e] at this; exact this
  · obtain ⟨c, hc, e⟩ := sumAt_ne _ _ _ h
    have := (h2.cells c hc).1
    simp only [id] at e
    rw [e] at this; exact this
/-- the error of Minus -/
def codeN (b1 : Int) (cs1 : List (Int × Int)) (b2 : Int) (cs2 : List (Int × Int)) : Int := if codeB b1 cs1 b2 cs2 ≠ 0 then codeB b1 cs1 b2 cs2 else if cs2.any (fun c => decide (sumAt id cs1 c.1 < c.2)) then 9 else 0
theorem codeN_bad {b1 b2 : Int} {cs1 cs2 : List (Int × Int)} (h : codeB b1 cs1 b2 cs2 = 0) {x m : Int} (hx : (x, m) ∈ cs2) (hm : sumAt id cs1 x < m) : codeN b1 cs1 b2 cs2 = 9 := by
  unfold codeN
  rw [if_neg (by rw [h]; simp), if_pos (List.any_eq_true.2 ⟨(x, m), hx, by simpa using hm⟩)]
theorem codeN_good {b1 b2 : Int} {cs1 cs2 : List (Int × Int)} (h : codeB b1 cs1 b2 cs2 = 0) (hm : ∀ c ∈ cs2, c.2 ≤ sumAt id cs1 c.1) : codeN b1 cs1 b2 cs2 = 0 := by
  unfold codeN
  rw [if_neg (by rw [h]; simp), if_neg]
  intro h'
  obtain ⟨c, hc, e⟩ := List.any_eq_true.1 h'
  have := hm c hc
  simp at e; omega
/-- what the loop of Minus keeps -/
def MiRel (w wr : World) (bs : List (Nat × Obj)) (M : Nat) (cs1 cs2 : List (Int × Int)) (k : Nat) : Prop :=
  k ≤ cs2.length ∧ MapII wr M (cs1.length + k) (miF cs1 (cs2.take k)) ∧ St w wr bs ∧ M < wr.heap.size ∧ ∀ c ∈ cs2.take k, c.2 ≤ sumAt id cs1 c.1

set_option maxHeartbeats 2000000 in
set_option maxRecDepth 100000 in
theorem Minus_any (b1 b2 : Int) (A1 A2 : Option Addr) (c1 c2 : Nat) (cs1 cs2 : List (Int × Int)) (w : World) (hr1 : Rd w 0 w.heap.size 2 A1 cs1.length (cells2 cs1)) (hr2 : Rd w 0 w.heap.size 2 A2 cs2.length (cells2 cs2)) (hn1 : cs1.length < 9223372036854775807) (hn2 : cs2.length < 9223372036854775807) :
    Calls Tryd.prog 24 #[.agg #[.int .i64 b1, .slice A1 cs1.length c1], .agg #[.int .i64 b2, .slice A2 cs2.length c2]] w (HistPost (miF cs1 cs2) b1 (codeN b1 cs1 b2 cs2) w) := by
  obtain ⟨W0, hW0⟩ : ∃ W0, W0 = (((w).alloc (.cells #[Value.int .i64 b1, Value.slice A1 cs1.length c1] 24)).alloc (.cells #[Value.int .i64 b2, Value.slice A2 cs2.length c2] 24)).alloc (.cells #[Value.int .i64 0, Value.slice none 0 0] 24) := ⟨_, rfl⟩
  have st0 : St w W0 [(w.heap.size, Obj.cells #[Value.int .i64 b1, Value.slice A1 cs1.length c1] 24 (0, 0)), (w.heap.size + 1, Obj.cells #[Value.int .i64 b2, Value.slice A2 cs2.length c2] 24 (0, 0)), (w.heap.size + 1 + 1, Obj.cells #[Value.int .i64 0, Value.slice none 0 0] 24 (0, 0))] := by rw [hW0]; exact (((St.start w).alloc _ _ (by simp)).alloc _ _ (by simp)).alloc _ _ (by simp)
  have hs0 : W0.heap.size = w.heap.size + 1 + 1 + 1 := by rw [hW0]; simp
  have hsz0 : w.heap.size + 1 + 1 + 1 ≤ W0.heap.size := by omega
  have HST0 := Lib.hid st0
  have HS0 := Lib.hid hs0
  have HC := Lib.hid (checkBoth_any b1 b2 A1 A2 c1 c2 cs1 cs2 W0 (hr1.old st0.below) (hr2.old st0.below) hn1 hn2)
  have HR1 := Lib.hid hr1
  have HR2 := Lib.hid hr2
  clear hr1 hr2
  clear st0 hs0
  go_enter Tryd.func24, Tryd.ntmps24
  go_wp2_with fail
  rw [← hW0]
  clear hW0
  go_wp2_with fail
  refine HC.out.mono ?_
  rintro e w1 ⟨rfl, hb1'⟩
  have HST1 := Lib.hid (HST0.out.call hb1')
  have hsz1 := hb1'.size
  clear hb1'
  have k0_0 : w1.cell? ⟨w.heap.size, 0, none⟩ = some (Value.int .i64 b1) := HST1.out.cell 0 0 rfl rfl
  have k0_1 : w1.cell? ⟨w.heap.size, 1, none⟩ = some (Value.slice A1 cs1.length c1) := HST1.out.cell 0 1 rfl rfl
  have l0_ : w.heap.size < w1.heap.size := HST1.out.lt 0 rfl
  have k1_0 : w1.cell? ⟨w.heap.size + 1, 0, none⟩ = some (Value.int .i64 b2) := HST1.out.cell 1 0 rfl rfl
  have k1_1 : w1.cell? ⟨w.heap.size + 1, 1, none⟩ = some (Value.slice A2 cs2.length c2) := HST1.out.cell 1 1 rfl rfl
  have l1_ : w.heap.size + 1 < w1.heap.size := HST1.out.lt 1 rfl
  have k2_0 : w1.cell? ⟨w.heap.size + 1 + 1, 0, none⟩ = some (Value.int .i64 0) := HST1.out.cell 2 0 rfl rfl
  have z2_0 : w1.frozen? ⟨w.heap.size + 1 + 1, 0, none⟩ = false := HST1.out.frozen 2 0 rfl
  have k2_1 : w1.cell? ⟨w.heap.size + 1 + 1, 1, none⟩ = some (Value.slice none 0 0) := HST1.out.cell 2 1 rfl rfl
  have z2_1 : w1.frozen? ⟨w.heap.size + 1 + 1, 1, none⟩ = false := HST1.out.frozen 2 1 rfl
  have l2_ : w.heap.size + 1 + 1 < w1.heap.size := HST1.out.lt 2 rfl
  by_cases hch : codeB b1 cs1 b2 cs2 = 0
  · have hch' : (codeB b1 cs1 b2 cs2 != 0) = false := by simp [hch]
    obtain ⟨hg1, hg2, hbb⟩ := codeB_zero hch
    subst hbb
    have HCH := Lib.hid hch
    obtain ⟨hb2, hb8, hlen1, hcs1, _, htot1⟩ := id hg1
    obtain ⟨_, _, hlen2, hcs2, hso2, htot2⟩ := id hg2
    have htd1 := tot_bd cs1 (fun c hc => (hcs1 c hc).2)
    have htd2 := tot_bd cs2 (fun c hc => (hcs2 c hc).2)
    have hmx := maxB_bd b2 hb2 hb8
    have HG1 := Lib.hid hg1
    have HG2 := Lib.hid hg2
    have HCS1 := Lib.hid hcs1
    have HCS2 := Lib.hid hcs2
    have HSO2 := Lib.hid hso2
    clear hch hg1 hg2 hcs1 hcs2 hso2
    have HTA := Lib.hid (tallyOf_any b2 A1 c1 cs1 w1 (HR1.out.old HST1.out.below) HG1.out)
    go_wp2_with fail
    refine HTA.out.mono ?_
    rintro e w3 ⟨M, rfl, hM0, hM1, hmap, hb3⟩
    have HST2 := Lib.hid (HST1.out.call hb3)
    have hsz2 := hb3.size
    clear k0_0 k0_1 l0_ k1_0 k1_1 l1_ k2_0 z2_0 k2_1 z2_1 l2_
    clear hb3
    have k0_0 : w3.cell? ⟨w.heap.size, 0, none⟩ = some (Value.int .i64 b2) := HST2.out.cell 0 0 rfl rfl
    have k0_1 : w3.cell? ⟨w.heap.size, 1, none⟩ = some (Value.slice A1 cs1.length c1) := HST2.out.cell 0 1 rfl rfl
    have l0_ : w.heap.size < w3.heap.size := HST2.out.lt 0 rfl
    have k1_0 : w3.cell? ⟨w.heap.size + 1, 0, none⟩ = some (Value.int .i64 b2) := HST2.out.cell 1 0 rfl rfl
    have k1_1 : w3.cell? ⟨w.heap.size + 1, 1, none⟩ = some (Value.slice A2 cs2.length c2) := HST2.out.cell 1 1 rfl rfl
    have l1_ : w.heap.size + 1 < w3.heap.size := HST2.out.lt 1 rfl
    have k2_0 : w3.cell? ⟨w.heap.size + 1 + 1, 0, none⟩ = some (Value.int .i64 0) := HST2.out.cell 2 0 rfl rfl
    have z2_0 : w3.frozen? ⟨w.heap.size + 1 + 1, 0, none⟩ = false := HST2.out.frozen 2 0 rfl
    have k2_1 : w3.cell? ⟨w.heap.size + 1 + 1, 1, none⟩ = some (Value.slice none 0 0) := HST2.out.cell 2 1 rfl rfl
    have z2_1 : w3.frozen? ⟨w.heap.size + 1 + 1, 1, none⟩ = false := HST2.out.frozen 2 1 rfl
    have l2_ : w.heap.size + 1 + 1 < w3.heap.size := HST2.out.lt 2 rfl
    have HMAP := Lib.hid hmap
    clear hmap
    have hM2 : w.heap.size + 1 + 1 < M := by omega
    clear hM0
    go_wp2
    go_loopw [9, 22] (fun _ i wr => ∃ k : Nat, i = .int .i64 k ∧ MiRel w wr [(w.heap.size, Obj.cells #[Value.int .i64 b2, Value.slice A1 cs1.length c1] 24 (0, 0)), (w.heap.size + 1, Obj.cells #[Value.int .i64 b2, Value.slice A2 cs2.length c2] 24 (0, 0)), (w.heap.size + 1 + 1, Obj.cells #[Value.int .i64 0, Value.slice none 0 0] 24 (0, 0))] M cs1 cs2 k) (fun _ i _ => cs2.length - (intOf i).toNat)
    case atStart => exact ⟨0, rfl, Nat.zero_le _, by simpa [miF_nil] using HMAP.out, HST2.out, hM1, fun c hc => by simp at hc⟩
    case round =>
      obtain ⟨k, rfl, hrel⟩ := hrel
      obtain ⟨hk, hmap, hst, hMl, hok⟩ := id hrel
      have HOK := Lib.hid hok
      clear hok
      by_cases hlt : k < cs2.length
      · obtain ⟨bk, o, x, m, rfl, _, hbk, hx, q0, q1⟩ := (HR2.out.below hst.below (Nat.le_refl _)).at2 hlt
        have hcx := HCS2.out (x, m) (List.mem_of_getElem? hx)
        obtain ⟨⟨hx0', hx1'⟩, hm1, hm2⟩ := hcx
        simp only at hx0' hx1' hm1 hm2
        have hfx : miF cs1 (cs2.take k) x = sumAt id cs1 x := by unfold miF; rw [sumAt_fresh HSO2.out hx]; omega
        obtain ⟨hs1, hs2⟩ := sumAt_bd id cs1 x (fun c hc => by have := HCS1.out c hc; omega)
        have hne : bk ≠ wr.heap.size := by have := hst.below.size; omega
        have hbl : bk < wr.heap.size := by have := hst.below.size; omega
        obtain ⟨W2, hW2⟩ : ∃ W2, W2 = wr.alloc (.cells #[.int .i64 x, .int .i64 m] 63) := ⟨_, rfl⟩
        have hmW2 : MapII W2 M (cs1.length + k) (miF cs1 (cs2.take k)) := by
          obtain ⟨D, h1, h2⟩ := hmap
          exact ⟨D, by rw [hW2]; exact h1.alloc _, h2⟩
        have hwf : (Lit.int .i64 x).wf = true := wf_i64 (by omega) (by omega)
        have hlook := lookW_run hmW2 x hwf
        rw [hfx] at hlook
        rw [hW2] at hlook
        have HSTr := Lib.hid hst
        clear k0_0 k0_1 l0_ k1_0 k1_1 l1_ k2_0 z2_0 k2_1 z2_1 l2_
        have k0_0 : wr.cell? ⟨w.heap.size, 0, none⟩ = some (Value.int .i64 b2) := HSTr.out.cell 0 0 rfl rfl
        have k0_1 : wr.cell? ⟨w.heap.size, 1, none⟩ = some (Value.slice A1 cs1.length c1) := HSTr.out.cell 0 1 rfl rfl
        have l0_ : w.heap.size < wr.heap.size := HSTr.out.lt 0 rfl
        have k1_0 : wr.cell? ⟨w.heap.size + 1, 0, none⟩ = some (Value.int .i64 b2) := HSTr.out.cell 1 0 rfl rfl
        have k1_1 : wr.cell? ⟨w.heap.size + 1, 1, none⟩ = some (Value.slice (some ⟨bk, o, none⟩) cs2.length c2) := HSTr.out.cell 1 1 rfl rfl
        have l1_ : w.heap.size + 1 < wr.heap.size := HSTr.out.lt 1 rfl
        have k2_0 : wr.cell? ⟨w.heap.size + 1 + 1, 0, none⟩ = some (Value.int .i64 0) := HSTr.out.cell 2 0 rfl rfl
        have z2_0 : wr.frozen? ⟨w.heap.size + 1 + 1, 0, none⟩ = false := HSTr.out.frozen 2 0 rfl
        have k2_1 : wr.cell? ⟨w.heap.size + 1 + 1, 1, none⟩ = some (Value.slice none 0 0) := HSTr.out.cell 2 1 rfl rfl
        have z2_1 : wr.frozen? ⟨w.heap.size + 1 + 1, 1, none⟩ = false := HSTr.out.frozen 2 1 rfl
        have l2_ : w.heap.size + 1 + 1 < wr.heap.size := HSTr.out.lt 2 rfl
        by_cases hsm : sumAt id cs1 x < m
        · have hsm' : decide (sumAt id cs1 x < m) = true := by simpa using hsm
          have HCC := Lib.hid (codeN_bad HCH.out (List.mem_of_getElem? hx) hsm)
          clear hrel hx hmap hmW2 hst hwf hfx
          go_wp2
          refine bodyPost_ret (v := .tuple #[.agg #[.int .i64 0, .slice none 0 0], .int .i64 (9)]) (by simp [results, Tryd.results24, go_sem, k2_0, k2_1, l2_, Nat.ne_of_lt l2_]) rfl (HistPost.none (by omega) HCC.out ?_)
          repeat (first | exact HSTr.out.below | (refine Below.setCell ?_ (by dsimp only; omega) _) | (refine Below.alloc ?_ (by simp; omega) _))
        · have hsm' : decide (sumAt id cs1 x < m) = false := by simpa using hsm
          obtain ⟨hput, hpm, hpg⟩ := putW_run hmW2 (by omega) x (sumAt id cs1 x - m) hwf (wf_i64 (by omega) (by omega))
          have hnew : MiRel w (putW M x (sumAt id cs1 x - m) W2) [(w.heap.size, Obj.cells #[Value.int .i64 b2, Value.slice A1 cs1.length c1] 24 (0, 0)), (w.heap.size + 1, Obj.cells #[Value.int .i64 b2, Value.slice (some ⟨bk, o, none⟩) cs2.length c2] 24 (0, 0)), (w.heap.size + 1 + 1, Obj.cells #[Value.int .i64 0, Value.slice none 0 0] 24 (0, 0))] M cs1 cs2 (k + 1) := by
            refine ⟨by omega, ?_, ?_, ?_, ?_⟩
            · have := miF_snoc cs1 (cs2.take k) x m
              rw [hfx] at this
              rw [this] at hpm
              rw [List.take_add_one, hx]; exact hpm
            · exact (by rw [hW2]; exact hst.more _ : St w W2 _).grown hpg (by omega) (by simp; omega)
            · have h1 := hpg.size
              have h2 : W2.heap.size = wr.heap.size + 1 := by rw [hW2]; simp
              omega
            · intro c hc
              rw [List.take_add_one, hx] at hc
              rcases List.mem_append.1 hc with h | h
              · exact HOK.out c h
              · simp at h; subst h; simp only; omega
          rw [hW2] at hput
          have HNEW := Lib.hid hnew
          clear hrel hx hmap hmW2 hpm hpg hst hnew hwf hfx
          go_wp2
          go_roundw
          case rel => exact ⟨k + 1, by go_num, by rw [← hW2]; exact HNEW.out⟩
          case measure => simp [intOf]; omega
      · have htk : cs2.take k = cs2 := List.take_of_length_le (by omega)
        rw [htk] at hmap HOK
        have HCC := Lib.hid (codeN_good HCH.out HOK.out)
        have HH := Lib.hid (histogram_any M (cs1.length + k) b2 (miF cs1 cs2) wr hmap (by omega) (fun x hx => by
          have := miF_dom HG1.out HG2.out hx
          exact wf_i64 (by omega) (by omega)))
        have HST3 := Lib.hid hst
        clear hrel hmap htk hst
        clear k0_0 k0_1 l0_ k1_0 k1_1 l1_ k2_0 z2_0 k2_1 z2_1 l2_
        have k0_0 : wr.cell? ⟨w.heap.size, 0, none⟩ = some (Value.int .i64 b2) := HST3.out.cell 0 0 rfl rfl
        have k0_1 : wr.cell? ⟨w.heap.size, 1, none⟩ = some (Value.slice A1 cs1.length c1) := HST3.out.cell 0 1 rfl rfl
        have l0_ : w.heap.size < wr.heap.size := HST3.out.lt 0 rfl
        have k1_0 : wr.cell? ⟨w.heap.size + 1, 0, none⟩ = some (Value.int .i64 b2) := HST3.out.cell 1 0 rfl rfl
        have k1_1 : wr.cell? ⟨w.heap.size + 1, 1, none⟩ = some (Value.slice A2 cs2.length c2) := HST3.out.cell 1 1 rfl rfl
        have l1_ : w.heap.size + 1 < wr.heap.size := HST3.out.lt 1 rfl
        have k2_0 : wr.cell? ⟨w.heap.size + 1 + 1, 0, none⟩ = some (Value.int .i64 0) := HST3.out.cell 2 0 rfl rfl
        have z2_0 : wr.frozen? ⟨w.heap.size + 1 + 1, 0, none⟩ = false := HST3.out.frozen 2 0 rfl
        have k2_1 : wr.cell? ⟨w.heap.size + 1 + 1, 1, none⟩ = some (Value.slice none 0 0) := HST3.out.cell 2 1 rfl rfl
        have z2_1 : wr.frozen? ⟨w.heap.size + 1 + 1, 1, none⟩ = false := HST3.out.frozen 2 1 rfl
        have l2_ : w.heap.size + 1 + 1 < wr.heap.size := HST3.out.lt 2 rfl
        go_wp2_with fail
        refine HH.out.mono ?_
        rintro e w5 ⟨A', cs', rfl, hh, hrd, hcl, hb5⟩
        have HST4 := Lib.hid (HST3.out.call hb5)
        have hsz4 := hb5.size
        clear k0_0 k0_1 l0_ k1_0 k1_1 l1_ k2_0 z2_0 k2_1 z2_1 l2_
        clear hb5
        have k0_0 : w5.cell? ⟨w.heap.size, 0, none⟩ = some (Value.int .i64 b2) := HST4.out.cell 0 0 rfl rfl
        have k0_1 : w5.cell? ⟨w.heap.size, 1, none⟩ = some (Value.slice A1 cs1.length c1) := HST4.out.cell 0 1 rfl rfl
        have l0_ : w.heap.size < w5.heap.size := HST4.out.lt 0 rfl
        have k1_0 : w5.cell? ⟨w.heap.size + 1, 0, none⟩ = some (Value.int .i64 b2) := HST4.out.cell 1 0 rfl rfl
        have k1_1 : w5.cell? ⟨w.heap.size + 1, 1, none⟩ = some (Value.slice A2 cs2.length c2) := HST4.out.cell 1 1 rfl rfl
        have l1_ : w.heap.size + 1 < w5.heap.size := HST4.out.lt 1 rfl
        have k2_0 : w5.cell? ⟨w.heap.size + 1 + 1, 0, none⟩ = some (Value.int .i64 0) := HST4.out.cell 2 0 rfl rfl
        have z2_0 : w5.frozen? ⟨w.heap.size + 1 + 1, 0, none⟩ = false := HST4.out.frozen 2 0 rfl
        have k2_1 : w5.cell? ⟨w.heap.size + 1 + 1, 1, none⟩ = some (Value.slice none 0 0) := HST4.out.cell 2 1 rfl rfl
        have z2_1 : w5.frozen? ⟨w.heap.size + 1 + 1, 1, none⟩ = false := HST4.out.frozen 2 1 rfl
        have l2_ : w.heap.size + 1 + 1 < w5.heap.size := HST4.out.lt 2 rfl
        have HHI := Lib.hid hh
        have HRD := Lib.hid hrd
        have hl5 := HST3.out.lt 2 rfl
        clear hh hrd
        go_wp2
        refine bodyPost_ret (v := .tuple #[.agg #[.int .i64 b2, .slice A' cs'.length cs'.length], .int .i64 0]) (by simp [results, Tryd.results24, go_sem, k2_0, k2_1]) rfl (HistPost.some HCC.out HHI.out HRD.out (by omega) HST4.out.below ?_)
        repeat (first | exact Fr.refl _ _ | (refine Fr.setCell ?_ (fun _ => by dsimp only; omega) _))
  · have hch' : (codeB b1 cs1 b2 cs2 != 0) = true := by simp [hch]
    have HCC := Lib.hid (show codeN b1 cs1 b2 cs2 = codeB b1 cs1 b2 cs2 by unfold codeN; rw [if_pos hch])
    have HCH := Lib.hid hch
    clear hch
    go_wp2
    refine bodyPost_ret (v := .tuple #[.agg #[.int .i64 0, .slice none 0 0], .int .i64 (codeB b1 cs1 b2 cs2)]) (by simp [results, Tryd.results24, go_sem, k2_0, k2_1]) rfl (HistPost.none (HCH.out) HCC.out ?_)
    repeat (first | exact HST1.out.below | (refine Below.setCell ?_ (by dsimp only; omega) _))
end Go.Proofs.YtgmbgclhljobaaaDoor
