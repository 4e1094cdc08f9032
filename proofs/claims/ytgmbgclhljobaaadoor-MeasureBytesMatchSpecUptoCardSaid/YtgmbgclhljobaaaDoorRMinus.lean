/- The reference's in and Minus. -/
import Derived.Test.YtgmbgclhljobaaaDoorMinus
import Derived.StillTailTactics
import Derived.Deep.AppendLies
namespace Go.Proofs.YtgmbgclhljobaaaDoor
open Go Go.RowKit Go.Proofs Go.Maps

/-- the first k counts have another bucket -/
def NoKey (cs : List (Int × Int)) (k : Nat) (x : Int) : Prop := ∀ c ∈ cs.take k, c.1 ≠ x
theorem NoKey.next {cs : List (Int × Int)} {k : Nat} {x y m : Int} (h : NoKey cs k x) (hx : cs[k]? = some (y, m)) (hy : ¬ y = x) : NoKey cs (k + 1) x := by
  intro c hc
  rw [List.take_add_one, hx] at hc
  rcases List.mem_append.1 hc with h' | h'
  · exact h c h'
  · simp at h'; subst h'; exact hy
/-- what is left of the first j counts -/
def leftL (cs1 cs2 : List (Int × Int)) (j : Nat) : List (Int × Int) := ((cs1.take j).map fun c => (c.1, c.2 - sumAt id cs2 c.1)).filter fun c => decide (0 < c.2)
theorem leftL_length (cs1 cs2 : List (Int × Int)) (j : Nat) : (leftL cs1 cs2 j).length ≤ j := by
  unfold leftL
  refine Nat.le_trans (List.length_filter_le _ _) ?_
  simp; omega
theorem leftL_step (cs1 cs2 : List (Int × Int)) (j : Nat) {x m : Int} (hx : cs1[j]? = some (x, m)) : leftL cs1 cs2 (j + 1) = leftL cs1 cs2 j ++ if 0 < m - sumAt id cs2 x then [(x, m - sumAt id cs2 x)] else [] := by
  unfold leftL
  rw [List.take_add_one, hx]
  rw [List.map_append, List.filter_append]
  congr 1
  simp only [Option.toList_some, List.map_cons, List.map_nil, List.filter_cons, List.filter_nil]
  split <;> simp_all
theorem leftL_hist {b : Int} {cs1 cs2 : List (Int × Int)} (h1 : Good b cs1) (h2 : Good b cs2) : IsHist (miF cs1 cs2) (leftL cs1 cs2 cs1.length) := by
  have hh := h1.hist
  unfold leftL
  rw [List.take_length]
  refine ⟨?_, fun x n => ?_⟩
  · refine List.Pairwise.filter _ ?_
    rw [List.pairwise_map]
    exact hh.1
  · simp only [List.mem_filter, List.mem_map, decide_eq_true_eq, Prod.mk.injEq]
    constructor
    · rintro ⟨⟨⟨y, l⟩, hm, rfl, rfl⟩, hp⟩
      have := (hh.2 y l).1 hm
      refine ⟨?_, hp⟩
      unfold miF; rw [this.1]
    · rintro ⟨rfl, hp⟩
      have hs := (sumAt_bd id cs2 x (fun c hc => (h2.cells c hc).2)).1
      unfold miF at hp ⊢
      exact ⟨⟨(x, sumAt id cs1 x), (hh.2 x _).2 ⟨rfl, by omega⟩, rfl, rfl⟩, hp⟩
/-- what the second loop of the reference's Minus keeps -/
def RMiRel (w wr : World) (bs : List (Nat × Obj)) (O : Nat) (d : Int) (cs1 cs2 : List (Int × Int)) (j : Nat) : Prop :=
  j ≤ cs1.length ∧ ∃ v, St w wr (bs ++ [(O, Obj.cells #[Value.int .i64 d, v] 24 (0, 0))]) ∧ wr.ownsRow (O + 1) 63 2 v (leftL cs1 cs2 j).length (cells2 (leftL cs1 cs2 j))

attribute [local go_sem ↓] Go.wp_at_zero Go.wp_at_succ

set_option maxHeartbeats 1000000 in
set_option maxRecDepth 100000 in
theorem in_any (b x : Int) (A : Option Addr) (c : Nat) (cs : List (Int × Int)) (w : World) (hr : Rd w 0 w.heap.size 2 A cs.length (cells2 cs)) (hg : Good b cs) :
    Calls Tryd.prog 63 #[.agg #[.int .i64 b, .slice A cs.length c], .int .i64 x] w fun e w' => e = .returned (.int .i64 (sumAt id cs x)) ∧ Below w.heap.size w w' := by
  have hlen := hg.2.2.1
  have HH := Lib.hid hg.hist
  have HR := Lib.hid hr
  have HB := Lib.hid (show Below w.heap.size w (w.alloc (.cells #[.int .i64 b, .slice A cs.length c] 24)) from (Below.refl _ w).alloc (Nat.le_refl _) _)
  clear hr hg
  go_enter Tryd.func63, Tryd.ntmps63
  go_wp2
  go_loop [5] (fun i => ∃ k : Nat, k ≤ cs.length ∧ i = .int .i64 k ∧ NoKey cs k x) (fun i => cs.length - (intOf i).toNat)
  case atStart => exact ⟨0, Nat.zero_le _, rfl, fun c hc => by simp at hc⟩
  case round =>
    obtain ⟨k, hk, rfl, hno⟩ := hrel
    by_cases hlt : k < cs.length
    · obtain ⟨bk, o, y, m, rfl, _, hbk, hx, q0, q1⟩ := HR.out.at2 hlt
      have hne : bk ≠ w.heap.size := by omega
      have HX := Lib.hid hx
      have HNO := Lib.hid hno
      clear hx hno
      by_cases he : y = x
      · have he' : (y == x) = true := by simpa using he
        have HE := Lib.hid (show m = sumAt id cs x by
          have := (HH.out.2 y m).1 (List.mem_of_getElem? HX.out)
          rw [← he]; exact this.1.symm)
        clear he
        go_wp2
        go_ret
        exact ⟨congrArg (fun z => Ending.returned (.int .i64 z)) HE.out, HB.out⟩
      · have he' : (y == x) = false := by simpa using he
        have HE := Lib.hid he
        clear he
        go_wp2
        go_round
        case rel => exact ⟨k + 1, by omega, by go_num, HNO.out.next HX.out HE.out⟩
        case measure => simp [intOf]; omega
    · have htk : cs.take k = cs := List.take_of_length_le (by omega)
      have HE := Lib.hid (show 0 = sumAt id cs x by
        by_cases h0 : sumAt id cs x = 0
        · exact h0.symm
        · obtain ⟨d, hd, e⟩ := sumAt_ne _ _ _ h0
          unfold NoKey at hno
          rw [htk] at hno
          exact absurd e (hno d hd))
      clear htk hno
      go_wp2
      go_ret
      exact ⟨congrArg (fun z => Ending.returned (.int .i64 z)) HE.out, HB.out⟩

set_option maxHeartbeats 4000000 in
set_option maxRecDepth 100000 in
theorem RMinus_any (b1 b2 : Int) (A1 A2 : Option Addr) (c1 c2 : Nat) (cs1 cs2 : List (Int × Int)) (w : World) (hr1 : Rd w 0 w.heap.size 2 A1 cs1.length (cells2 cs1)) (hr2 : Rd w 0 w.heap.size 2 A2 cs2.length (cells2 cs2)) (hn1 : cs1.length < 9223372036854775807) (hn2 : cs2.length < 9223372036854775807) (hx1 : ∀ c ∈ cs1, c.1 ≤ 9223372036854775807) (hx2 : ∀ c ∈ cs2, c.1 ≤ 9223372036854775807) :
    Calls Tryd.prog 25 #[.agg #[.int .i64 b1, .slice A1 cs1.length c1], .agg #[.int .i64 b2, .slice A2 cs2.length c2]] w (HistPost (miF cs1 cs2) b1 (codeN b1 cs1 b2 cs2) w) := by
  obtain ⟨i0, hi0, hz0, hz1, hz2⟩ := info_parts Tryd.infoC
  obtain ⟨W0, hW0⟩ : ∃ W0, W0 = (((w).alloc (.cells #[Value.int .i64 b1, Value.slice A1 cs1.length c1] 24)).alloc (.cells #[Value.int .i64 b2, Value.slice A2 cs2.length c2] 24)).alloc (.cells #[Value.int .i64 0, Value.slice none 0 0] 24) := ⟨_, rfl⟩
  have st0 : St w W0 [(w.heap.size, Obj.cells #[Value.int .i64 b1, Value.slice A1 cs1.length c1] 24 (0, 0)), (w.heap.size + 1, Obj.cells #[Value.int .i64 b2, Value.slice A2 cs2.length c2] 24 (0, 0)), (w.heap.size + 1 + 1, Obj.cells #[Value.int .i64 0, Value.slice none 0 0] 24 (0, 0))] := by rw [hW0]; exact (((St.start w).alloc _ _ (by simp)).alloc _ _ (by simp)).alloc _ _ (by simp)
  have hs0 : W0.heap.size = w.heap.size + 1 + 1 + 1 := by rw [hW0]; simp
  have hsz0 : w.heap.size + 1 + 1 + 1 ≤ W0.heap.size := by omega
  have HST0 := Lib.hid st0
  have HS0 := Lib.hid hs0
  have HC := Lib.hid (pairFault_any b1 b2 A1 A2 c1 c2 cs1 cs2 W0 (hr1.old st0.below) (hr2.old st0.below) hn1 hn2 hx1 hx2)
  have HR1 := Lib.hid hr1
  have HR2 := Lib.hid hr2
  clear hr1 hr2 hx1 hx2
  clear st0 hs0
  go_enter Tryd.func25, Tryd.ntmps25
  go_wp2_with fail
  rw [← hW0]
  clear hW0
  go_wp2_with fail
  refine HC.out.mono ?_
  rintro e w1 ⟨rfl, hb1'⟩
  have HST1 := Lib.hid (HST0.out.call hb1')
  have hsz1 := hb1'.size
  clear hb1'
  have k0_0 : w1.cell? ⟨w.heap.size, 0, none⟩ = some (Value.int .i64 b1) := HST1.out.cell 0 0 rfl rfl
  have k0_1 : w1.cell? ⟨w.heap.size, 1, none⟩ = some (Value.slice A1 cs1.length c1) := HST1.out.cell 0 1 rfl rfl
  have l0_ : w.heap.size < w1.heap.size := HST1.out.lt 0 rfl
  have k1_0 : w1.cell? ⟨w.heap.size + 1, 0, none⟩ = some (Value.int .i64 b2) := HST1.out.cell 1 0 rfl rfl
  have k1_1 : w1.cell? ⟨w.heap.size + 1, 1, none⟩ = some (Value.slice A2 cs2.length c2) := HST1.out.cell 1 1 rfl rfl
  have l1_ : w.heap.size + 1 < w1.heap.size := HST1.out.lt 1 rfl
  have k2_0 : w1.cell? ⟨w.heap.size + 1 + 1, 0, none⟩ = some (Value.int .i64 0) := HST1.out.cell 2 0 rfl rfl
  have z2_0 : w1.frozen? ⟨w.heap.size + 1 + 1, 0, none⟩ = false := HST1.out.frozen 2 0 rfl
  have k2_1 : w1.cell? ⟨w.heap.size + 1 + 1, 1, none⟩ = some (Value.slice none 0 0) := HST1.out.cell 2 1 rfl rfl
  have z2_1 : w1.frozen? ⟨w.heap.size + 1 + 1, 1, none⟩ = false := HST1.out.frozen 2 1 rfl
  have l2_ : w.heap.size + 1 + 1 < w1.heap.size := HST1.out.lt 2 rfl
  by_cases hch : codeB b1 cs1 b2 cs2 = 0
  · have hch' : (codeB b1 cs1 b2 cs2 != 0) = false := by simp [hch]
    obtain ⟨hg1, hg2, hbb⟩ := codeB_zero hch
    subst hbb
    have HCH := Lib.hid hch
    obtain ⟨hb2, hb8, hlen1, hcs1, _, htot1⟩ := id hg1
    obtain ⟨_, _, hlen2, hcs2, _, htot2⟩ := id hg2
    have htd1 := tot_bd cs1 (fun c hc => (hcs1 c hc).2)
    have htd2 := tot_bd cs2 (fun c hc => (hcs2 c hc).2)
    have hmx := maxB_bd b2 hb2 hb8
    have HG1 := Lib.hid hg1
    have HG2 := Lib.hid hg2
    have HCS1 := Lib.hid hcs1
    have HCS2 := Lib.hid hcs2
    clear hch hg1 hg2 hcs1 hcs2
    have HSTa := Lib.hid (⟨w1, HST1.out⟩ : ∃ w0 : World, St w w0 [(w.heap.size, Obj.cells #[Value.int .i64 b2, Value.slice A1 cs1.length c1] 24 (0, 0)), (w.heap.size + 1, Obj.cells #[Value.int .i64 b2, Value.slice A2 cs2.length c2] 24 (0, 0)), (w.heap.size + 1 + 1, Obj.cells #[Value.int .i64 0, Value.slice none 0 0] 24 (0, 0))])
    go_wp2
    go_loopw [7] (fun i wr => ∃ k : Nat, i = .int .i64 k ∧ k ≤ cs2.length ∧ St w wr [(w.heap.size, Obj.cells #[Value.int .i64 b2, Value.slice A1 cs1.length c1] 24 (0, 0)), (w.heap.size + 1, Obj.cells #[Value.int .i64 b2, Value.slice A2 cs2.length c2] 24 (0, 0)), (w.heap.size + 1 + 1, Obj.cells #[Value.int .i64 0, Value.slice none 0 0] 24 (0, 0))] ∧ ∀ c ∈ cs2.take k, c.2 ≤ sumAt id cs1 c.1) (fun i _ => cs2.length - (intOf i).toNat)
    case atStart => exact ⟨0, rfl, Nat.zero_le _, HST1.out, fun c hc => by simp at hc⟩
    case round =>
      obtain ⟨k, rfl, hk, hst, hok⟩ := hrel
      have HOK := Lib.hid hok
      have HSTr := Lib.hid hst
      clear hok hst
      by_cases hlt : k < cs2.length
      · obtain ⟨bk, o, x, m, rfl, _, hbk, hx, q0, q1⟩ := (HR2.out.below HSTr.out.below (Nat.le_refl _)).at2 hlt
        have hcx := HCS2.out (x, m) (List.mem_of_getElem? hx)
        obtain ⟨⟨hx0', hx1'⟩, hm1, hm2⟩ := hcx
        simp only at hx0' hx1' hm1 hm2
        have hbl : bk < wr.heap.size := by have := HSTr.out.below.size; omega
        have HX := Lib.hid hx
        have hkk : (0 : Int) ≤ (k : Int) := by omega
        have hkn : (k : Int) < (cs2.length : Int) := by omega
        have HIN := Lib.hid (fun W' (hb : Below wr.heap.size wr W') => in_any b2 x A1 c1 cs1 W' (HR1.out.old (HSTr.out.old hb)) HG1.out)
        clear hx
        clear k0_0 k0_1 l0_ k1_0 k1_1 l1_ k2_0 z2_0 k2_1 z2_1 l2_
        have k0_0 : wr.cell? ⟨w.heap.size, 0, none⟩ = some (Value.int .i64 b2) := HSTr.out.cell 0 0 rfl rfl
        have k0_1 : wr.cell? ⟨w.heap.size, 1, none⟩ = some (Value.slice A1 cs1.length c1) := HSTr.out.cell 0 1 rfl rfl
        have l0_ : w.heap.size < wr.heap.size := HSTr.out.lt 0 rfl
        have k1_0 : wr.cell? ⟨w.heap.size + 1, 0, none⟩ = some (Value.int .i64 b2) := HSTr.out.cell 1 0 rfl rfl
        have k1_1 : wr.cell? ⟨w.heap.size + 1, 1, none⟩ = some (Value.slice (some ⟨bk, o, none⟩) cs2.length c2) := HSTr.out.cell 1 1 rfl rfl
        have l1_ : w.heap.size + 1 < wr.heap.size := HSTr.out.lt 1 rfl
        have k2_0 : wr.cell? ⟨w.heap.size + 1 + 1, 0, none⟩ = some (Value.int .i64 0) := HSTr.out.cell 2 0 rfl rfl
        have z2_0 : wr.frozen? ⟨w.heap.size + 1 + 1, 0, none⟩ = false := HSTr.out.frozen 2 0 rfl
        have k2_1 : wr.cell? ⟨w.heap.size + 1 + 1, 1, none⟩ = some (Value.slice none 0 0) := HSTr.out.cell 2 1 rfl rfl
        have z2_1 : wr.frozen? ⟨w.heap.size + 1 + 1, 1, none⟩ = false := HSTr.out.frozen 2 1 rfl
        have l2_ : w.heap.size + 1 + 1 < wr.heap.size := HSTr.out.lt 2 rfl
        go_wp2
        by_cases hsm : sumAt id cs1 x < m
        · have hsm' : decide (sumAt id cs1 x < m) = true := by simpa using hsm
          have HCC := Lib.hid (codeN_bad HCH.out (List.mem_of_getElem? HX.out) hsm)
          have HKS := Lib.hid (show ∀ w', Below wr.heap.size wr w' → w'.cell? ⟨w.heap.size, 0, none⟩ = some (Value.int .i64 b2) ∧ w'.cell? ⟨w.heap.size, 1, none⟩ = some (Value.slice A1 cs1.length c1) ∧ w'.cell? ⟨w.heap.size + 1, 0, none⟩ = some (Value.int .i64 b2) ∧ w'.cell? ⟨w.heap.size + 1, 1, none⟩ = some (Value.slice (some ⟨bk, o, none⟩) cs2.length c2) ∧ w'.cell? ⟨w.heap.size + 1 + 1, 0, none⟩ = some (Value.int .i64 0) ∧ w'.cell? ⟨w.heap.size + 1 + 1, 1, none⟩ = some (Value.slice none 0 0) ∧ w'.cell? ⟨bk, o + k * 2, none⟩ = some (Value.int .i64 x) ∧ w'.cell? ⟨bk, o + k * 2 + 1, none⟩ = some (Value.int .i64 m) ∧ Below wr.heap.size wr w' from fun w' hb => ⟨(HSTr.out.call hb).cell 0 0 rfl rfl, (HSTr.out.call hb).cell 0 1 rfl rfl, (HSTr.out.call hb).cell 1 0 rfl rfl, (HSTr.out.call hb).cell 1 1 rfl rfl, (HSTr.out.call hb).cell 2 0 rfl rfl, (HSTr.out.call hb).cell 2 1 rfl rfl, (hb.cell (p := ⟨bk, o + k * 2, none⟩) hbl).trans q0, (hb.cell (p := ⟨bk, o + k * 2 + 1, none⟩) hbl).trans q1, hb⟩)
          clear k0_0 k0_1 l0_ k1_0 k1_1 l1_ k2_0 z2_0 k2_1 z2_1 l2_
          have k0_0 : wr.cell? ⟨w.heap.size, 0, none⟩ = some (Value.int .i64 b2) := HSTr.out.cell 0 0 rfl rfl
          have k0_1 : wr.cell? ⟨w.heap.size, 1, none⟩ = some (Value.slice A1 cs1.length c1) := HSTr.out.cell 0 1 rfl rfl
          have l0_ : w.heap.size < wr.heap.size := HSTr.out.lt 0 rfl
          have k1_0 : wr.cell? ⟨w.heap.size + 1, 0, none⟩ = some (Value.int .i64 b2) := HSTr.out.cell 1 0 rfl rfl
          have k1_1 : wr.cell? ⟨w.heap.size + 1, 1, none⟩ = some (Value.slice (some ⟨bk, o, none⟩) cs2.length c2) := HSTr.out.cell 1 1 rfl rfl
          have l1_ : w.heap.size + 1 < wr.heap.size := HSTr.out.lt 1 rfl
          have k2_0 : wr.cell? ⟨w.heap.size + 1 + 1, 0, none⟩ = some (Value.int .i64 0) := HSTr.out.cell 2 0 rfl rfl
          have z2_0 : wr.frozen? ⟨w.heap.size + 1 + 1, 0, none⟩ = false := HSTr.out.frozen 2 0 rfl
          have k2_1 : wr.cell? ⟨w.heap.size + 1 + 1, 1, none⟩ = some (Value.slice none 0 0) := HSTr.out.cell 2 1 rfl rfl
          have z2_1 : wr.frozen? ⟨w.heap.size + 1 + 1, 1, none⟩ = false := HSTr.out.frozen 2 1 rfl
          have l2_ : w.heap.size + 1 + 1 < wr.heap.size := HSTr.out.lt 2 rfl
          go_region_held3 (fun w' => w'.cell? ⟨w.heap.size, 0, none⟩ = some (Value.int .i64 b2) ∧ w'.cell? ⟨w.heap.size, 1, none⟩ = some (Value.slice A1 cs1.length c1) ∧ w'.cell? ⟨w.heap.size + 1, 0, none⟩ = some (Value.int .i64 b2) ∧ w'.cell? ⟨w.heap.size + 1, 1, none⟩ = some (Value.slice (some ⟨bk, o, none⟩) cs2.length c2) ∧ w'.cell? ⟨w.heap.size + 1 + 1, 0, none⟩ = some (Value.int .i64 0) ∧ w'.cell? ⟨w.heap.size + 1 + 1, 1, none⟩ = some (Value.slice none 0 0) ∧ w'.cell? ⟨bk, o + k * 2, none⟩ = some (Value.int .i64 x) ∧ w'.cell? ⟨bk, o + k * 2 + 1, none⟩ = some (Value.int .i64 m) ∧ Below wr.heap.size wr w')
            (first
              | exact HKS.out _ (Below.refl _ wr).drew
              | (go_split_ands; refine HKS.out _ (below_next ?_ hbA); assumption))
            (first
              | (go_at_call 63; refine (HIN.out _ ?_).mono ?_; (go_split_ands; assumption); rintro e wA ⟨rfl, hbA⟩))
          have hbel5 : Below wr.heap.size wr wA := by go_split_ands; assumption
          have HST5 := Lib.hid (HSTr.out.call hbel5)
          have hsz5 := hbel5.size
          clear k0_0 k0_1 l0_ k1_0 k1_1 l1_ k2_0 z2_0 k2_1 z2_1 l2_
          have HBEL5 := Lib.hid hbel5
          clear hbel5
          have k0_0 : wA.cell? ⟨w.heap.size, 0, none⟩ = some (Value.int .i64 b2) := HST5.out.cell 0 0 rfl rfl
          have k0_1 : wA.cell? ⟨w.heap.size, 1, none⟩ = some (Value.slice A1 cs1.length c1) := HST5.out.cell 0 1 rfl rfl
          have l0_ : w.heap.size < wA.heap.size := HST5.out.lt 0 rfl
          have k1_0 : wA.cell? ⟨w.heap.size + 1, 0, none⟩ = some (Value.int .i64 b2) := HST5.out.cell 1 0 rfl rfl
          have k1_1 : wA.cell? ⟨w.heap.size + 1, 1, none⟩ = some (Value.slice (some ⟨bk, o, none⟩) cs2.length c2) := HST5.out.cell 1 1 rfl rfl
          have l1_ : w.heap.size + 1 < wA.heap.size := HST5.out.lt 1 rfl
          have k2_0 : wA.cell? ⟨w.heap.size + 1 + 1, 0, none⟩ = some (Value.int .i64 0) := HST5.out.cell 2 0 rfl rfl
          have z2_0 : wA.frozen? ⟨w.heap.size + 1 + 1, 0, none⟩ = false := HST5.out.frozen 2 0 rfl
          have k2_1 : wA.cell? ⟨w.heap.size + 1 + 1, 1, none⟩ = some (Value.slice none 0 0) := HST5.out.cell 2 1 rfl rfl
          have z2_1 : wA.frozen? ⟨w.heap.size + 1 + 1, 1, none⟩ = false := HST5.out.frozen 2 1 rfl
          have l2_ : w.heap.size + 1 + 1 < wA.heap.size := HST5.out.lt 2 rfl
          clear hbA HKS q0 q1
          go_wp2
          refine bodyPost_ret (v := .tuple #[.agg #[.int .i64 0, .slice none 0 0], .int .i64 (9)]) (by simp [results, Tryd.results25, go_sem, k2_0, k2_1]) rfl (HistPost.none (by omega) HCC.out ?_)
          repeat (first | exact HST5.out.below | (refine Below.setCell ?_ (by dsimp only; omega) _))
        · have hsm' : decide (sumAt id cs1 x < m) = false := by simpa using hsm
          have HKS := Lib.hid (show ∀ w', Below wr.heap.size wr w' → w'.cell? ⟨w.heap.size, 0, none⟩ = some (Value.int .i64 b2) ∧ w'.cell? ⟨w.heap.size, 1, none⟩ = some (Value.slice A1 cs1.length c1) ∧ w'.cell? ⟨w.heap.size + 1, 0, none⟩ = some (Value.int .i64 b2) ∧ w'.cell? ⟨w.heap.size + 1, 1, none⟩ = some (Value.slice (some ⟨bk, o, none⟩) cs2.length c2) ∧ w'.cell? ⟨w.heap.size + 1 + 1, 0, none⟩ = some (Value.int .i64 0) ∧ w'.cell? ⟨w.heap.size + 1 + 1, 1, none⟩ = some (Value.slice none 0 0) ∧ w'.cell? ⟨bk, o + k * 2, none⟩ = some (Value.int .i64 x) ∧ w'.cell? ⟨bk, o + k * 2 + 1, none⟩ = some (Value.int .i64 m) ∧ Below wr.heap.size wr w' from fun w' hb => ⟨(HSTr.out.call hb).cell 0 0 rfl rfl, (HSTr.out.call hb).cell 0 1 rfl rfl, (HSTr.out.call hb).cell 1 0 rfl rfl, (HSTr.out.call hb).cell 1 1 rfl rfl, (HSTr.out.call hb).cell 2 0 rfl rfl, (HSTr.out.call hb).cell 2 1 rfl rfl, (hb.cell (p := ⟨bk, o + k * 2, none⟩) hbl).trans q0, (hb.cell (p := ⟨bk, o + k * 2 + 1, none⟩) hbl).trans q1, hb⟩)
          clear k0_0 k0_1 l0_ k1_0 k1_1 l1_ k2_0 z2_0 k2_1 z2_1 l2_
          have k0_0 : wr.cell? ⟨w.heap.size, 0, none⟩ = some (Value.int .i64 b2) := HSTr.out.cell 0 0 rfl rfl
          have k0_1 : wr.cell? ⟨w.heap.size, 1, none⟩ = some (Value.slice A1 cs1.length c1) := HSTr.out.cell 0 1 rfl rfl
          have l0_ : w.heap.size < wr.heap.size := HSTr.out.lt 0 rfl
          have k1_0 : wr.cell? ⟨w.heap.size + 1, 0, none⟩ = some (Value.int .i64 b2) := HSTr.out.cell 1 0 rfl rfl
          have k1_1 : wr.cell? ⟨w.heap.size + 1, 1, none⟩ = some (Value.slice (some ⟨bk, o, none⟩) cs2.length c2) := HSTr.out.cell 1 1 rfl rfl
          have l1_ : w.heap.size + 1 < wr.heap.size := HSTr.out.lt 1 rfl
          have k2_0 : wr.cell? ⟨w.heap.size + 1 + 1, 0, none⟩ = some (Value.int .i64 0) := HSTr.out.cell 2 0 rfl rfl
          have z2_0 : wr.frozen? ⟨w.heap.size + 1 + 1, 0, none⟩ = false := HSTr.out.frozen 2 0 rfl
          have k2_1 : wr.cell? ⟨w.heap.size + 1 + 1, 1, none⟩ = some (Value.slice none 0 0) := HSTr.out.cell 2 1 rfl rfl
          have z2_1 : wr.frozen? ⟨w.heap.size + 1 + 1, 1, none⟩ = false := HSTr.out.frozen 2 1 rfl
          have l2_ : w.heap.size + 1 + 1 < wr.heap.size := HSTr.out.lt 2 rfl
          go_region_held3 (fun w' => w'.cell? ⟨w.heap.size, 0, none⟩ = some (Value.int .i64 b2) ∧ w'.cell? ⟨w.heap.size, 1, none⟩ = some (Value.slice A1 cs1.length c1) ∧ w'.cell? ⟨w.heap.size + 1, 0, none⟩ = some (Value.int .i64 b2) ∧ w'.cell? ⟨w.heap.size + 1, 1, none⟩ = some (Value.slice (some ⟨bk, o, none⟩) cs2.length c2) ∧ w'.cell? ⟨w.heap.size + 1 + 1, 0, none⟩ = some (Value.int .i64 0) ∧ w'.cell? ⟨w.heap.size + 1 + 1, 1, none⟩ = some (Value.slice none 0 0) ∧ w'.cell? ⟨bk, o + k * 2, none⟩ = some (Value.int .i64 x) ∧ w'.cell? ⟨bk, o + k * 2 + 1, none⟩ = some (Value.int .i64 m) ∧ Below wr.heap.size wr w')
            (first
              | exact HKS.out _ (Below.refl _ wr).drew
              | (go_split_ands; refine HKS.out _ (below_next ?_ hbA); assumption))
            (first
              | (go_at_call 63; refine (HIN.out _ ?_).mono ?_; (go_split_ands; assumption); rintro e wA ⟨rfl, hbA⟩))
          have hbel5 : Below wr.heap.size wr wA := by go_split_ands; assumption
          have HST5 := Lib.hid (HSTr.out.call hbel5)
          have hsz5 := hbel5.size
          clear k0_0 k0_1 l0_ k1_0 k1_1 l1_ k2_0 z2_0 k2_1 z2_1 l2_
          have HBEL5 := Lib.hid hbel5
          clear hbel5
          have k0_0 : wA.cell? ⟨w.heap.size, 0, none⟩ = some (Value.int .i64 b2) := HST5.out.cell 0 0 rfl rfl
          have k0_1 : wA.cell? ⟨w.heap.size, 1, none⟩ = some (Value.slice A1 cs1.length c1) := HST5.out.cell 0 1 rfl rfl
          have l0_ : w.heap.size < wA.heap.size := HST5.out.lt 0 rfl
          have k1_0 : wA.cell? ⟨w.heap.size + 1, 0, none⟩ = some (Value.int .i64 b2) := HST5.out.cell 1 0 rfl rfl
          have k1_1 : wA.cell? ⟨w.heap.size + 1, 1, none⟩ = some (Value.slice (some ⟨bk, o, none⟩) cs2.length c2) := HST5.out.cell 1 1 rfl rfl
          have l1_ : w.heap.size + 1 < wA.heap.size := HST5.out.lt 1 rfl
          have k2_0 : wA.cell? ⟨w.heap.size + 1 + 1, 0, none⟩ = some (Value.int .i64 0) := HST5.out.cell 2 0 rfl rfl
          have z2_0 : wA.frozen? ⟨w.heap.size + 1 + 1, 0, none⟩ = false := HST5.out.frozen 2 0 rfl
          have k2_1 : wA.cell? ⟨w.heap.size + 1 + 1, 1, none⟩ = some (Value.slice none 0 0) := HST5.out.cell 2 1 rfl rfl
          have z2_1 : wA.frozen? ⟨w.heap.size + 1 + 1, 1, none⟩ = false := HST5.out.frozen 2 1 rfl
          have l2_ : w.heap.size + 1 + 1 < wA.heap.size := HST5.out.lt 2 rfl
          clear hbA HKS q0 q1
          go_wp2
          go_roundw
          case rel =>
            refine ⟨k + 1, by go_num, by omega, HST5.out, ?_⟩
            intro c hc
            rw [List.take_add_one, HX.out] at hc
            rcases List.mem_append.1 hc with h | h
            · exact HOK.out c h
            · simp at h; subst h; simp only; omega
          case measure => simp [intOf]; omega
      · have htk : cs2.take k = cs2 := List.take_of_length_le (by omega)
        rw [htk] at HOK
        have HCC := Lib.hid (codeN_good HCH.out HOK.out)
        clear htk
        obtain ⟨w2, rfl⟩ : ∃ w2 : World, w2 = wr := ⟨_, rfl⟩
        have hl2 := HSTr.out.lt 2 rfl
        clear k0_0 k0_1 l0_ k1_0 k1_1 l1_ k2_0 z2_0 k2_1 z2_1 l2_
        have k0_0 : w2.cell? ⟨w.heap.size, 0, none⟩ = some (Value.int .i64 b2) := HSTr.out.cell 0 0 rfl rfl
        have k0_1 : w2.cell? ⟨w.heap.size, 1, none⟩ = some (Value.slice A1 cs1.length c1) := HSTr.out.cell 0 1 rfl rfl
        have l0_ : w.heap.size < w2.heap.size := HSTr.out.lt 0 rfl
        have k1_0 : w2.cell? ⟨w.heap.size + 1, 0, none⟩ = some (Value.int .i64 b2) := HSTr.out.cell 1 0 rfl rfl
        have k1_1 : w2.cell? ⟨w.heap.size + 1, 1, none⟩ = some (Value.slice A2 cs2.length c2) := HSTr.out.cell 1 1 rfl rfl
        have l1_ : w.heap.size + 1 < w2.heap.size := HSTr.out.lt 1 rfl
        have k2_0 : w2.cell? ⟨w.heap.size + 1 + 1, 0, none⟩ = some (Value.int .i64 0) := HSTr.out.cell 2 0 rfl rfl
        have z2_0 : w2.frozen? ⟨w.heap.size + 1 + 1, 0, none⟩ = false := HSTr.out.frozen 2 0 rfl
        have k2_1 : w2.cell? ⟨w.heap.size + 1 + 1, 1, none⟩ = some (Value.slice none 0 0) := HSTr.out.cell 2 1 rfl rfl
        have z2_1 : w2.frozen? ⟨w.heap.size + 1 + 1, 1, none⟩ = false := HSTr.out.frozen 2 1 rfl
        have l2_ : w.heap.size + 1 + 1 < w2.heap.size := HSTr.out.lt 2 rfl
        go_wp2
        go_loopw [9, 10] (fun i _ wr => ∃ j : Nat, i = .int .i64 j ∧ RMiRel w wr [(w.heap.size, Obj.cells #[Value.int .i64 b2, Value.slice A1 cs1.length c1] 24 (0, 0)), (w.heap.size + 1, Obj.cells #[Value.int .i64 b2, Value.slice A2 cs2.length c2] 24 (0, 0)), (w.heap.size + 1 + 1, Obj.cells #[Value.int .i64 0, Value.slice none 0 0] 24 (0, 0))] w2.heap.size b2 cs1 cs2 j) (fun i _ _ => cs1.length - (intOf i).toNat)
        case atStart => exact ⟨0, rfl, Nat.zero_le _, .slice none 0 0, HSTr.out.alloc _ _ rfl, ⟨by simp [cells2, leftL], .inl ⟨rfl, by simp [leftL]⟩⟩⟩
        case round =>
          obtain ⟨j, rfl, hj, v, hst, hown⟩ := hrel
          have HSTs := Lib.hid hst
          have HO := Lib.hid hown
          have hl4 := hst.lt 3 rfl
          have hll := leftL_length cs1 cs2 j
          clear hst hown
          by_cases hlt2 : j < cs1.length
          · obtain ⟨bk, o, x, m, rfl, _, hbk, hx, q0, q1⟩ := (HR1.out.below HSTs.out.below (Nat.le_refl _)).at2 hlt2
            have hcx := HCS1.out (x, m) (List.mem_of_getElem? hx)
            obtain ⟨⟨hx0', hx1'⟩, hm1, hm2⟩ := hcx
            simp only at hx0' hx1' hm1 hm2
            have hbl : bk < wr.heap.size := by have := HSTs.out.below.size; omega
            have HX := Lib.hid hx
            have hkk : (0 : Int) ≤ (j : Int) := by omega
            have hkn : (j : Int) < (cs1.length : Int) := by omega
            obtain ⟨hs1, hs2⟩ := sumAt_bd id cs2 x (fun c hc => by have := HCS2.out c hc; omega)
            have hwr : IntKind.i64.wrap (m - sumAt id cs2 x) = m - sumAt id cs2 x := IntWalk.i64_in _ (by omega)
            have HIN := Lib.hid (fun W' (hb : Below wr.heap.size wr W') => in_any b2 x A2 c2 cs2 W' (HR2.out.old (HSTs.out.old hb)) HG2.out)
            have hstep := leftL_step cs1 cs2 j hx
            have HSTEP := Lib.hid hstep
            clear hx hstep
            clear k0_0 k0_1 l0_ k1_0 k1_1 l1_ k2_0 z2_0 k2_1 z2_1 l2_
            have k0_0 : wr.cell? ⟨w.heap.size, 0, none⟩ = some (Value.int .i64 b2) := HSTs.out.cell 0 0 rfl rfl
            have k0_1 : wr.cell? ⟨w.heap.size, 1, none⟩ = some (Value.slice (some ⟨bk, o, none⟩) cs1.length c1) := HSTs.out.cell 0 1 rfl rfl
            have l0_ : w.heap.size < wr.heap.size := HSTs.out.lt 0 rfl
            have k1_0 : wr.cell? ⟨w.heap.size + 1, 0, none⟩ = some (Value.int .i64 b2) := HSTs.out.cell 1 0 rfl rfl
            have k1_1 : wr.cell? ⟨w.heap.size + 1, 1, none⟩ = some (Value.slice A2 cs2.length c2) := HSTs.out.cell 1 1 rfl rfl
            have l1_ : w.heap.size + 1 < wr.heap.size := HSTs.out.lt 1 rfl
            have k2_0 : wr.cell? ⟨w.heap.size + 1 + 1, 0, none⟩ = some (Value.int .i64 0) := HSTs.out.cell 2 0 rfl rfl
            have z2_0 : wr.frozen? ⟨w.heap.size + 1 + 1, 0, none⟩ = false := HSTs.out.frozen 2 0 rfl
            have k2_1 : wr.cell? ⟨w.heap.size + 1 + 1, 1, none⟩ = some (Value.slice none 0 0) := HSTs.out.cell 2 1 rfl rfl
            have z2_1 : wr.frozen? ⟨w.heap.size + 1 + 1, 1, none⟩ = false := HSTs.out.frozen 2 1 rfl
            have l2_ : w.heap.size + 1 + 1 < wr.heap.size := HSTs.out.lt 2 rfl
            have k3_0 : wr.cell? ⟨w2.heap.size, 0, none⟩ = some (Value.int .i64 b2) := HSTs.out.cell 3 0 rfl rfl
            have z3_0 : wr.frozen? ⟨w2.heap.size, 0, none⟩ = false := HSTs.out.frozen 3 0 rfl
            have k3_1 : wr.cell? ⟨w2.heap.size, 1, none⟩ = some (v) := HSTs.out.cell 3 1 rfl rfl
            have z3_1 : wr.frozen? ⟨w2.heap.size, 1, none⟩ = false := HSTs.out.frozen 3 1 rfl
            have l3_ : w2.heap.size < wr.heap.size := HSTs.out.lt 3 rfl
            go_wp2
            have HKS := Lib.hid (show ∀ w', Below wr.heap.size wr w' → w'.cell? ⟨w.heap.size, 0, none⟩ = some (Value.int .i64 b2) ∧ w'.cell? ⟨w.heap.size, 1, none⟩ = some (Value.slice (some ⟨bk, o, none⟩) cs1.length c1) ∧ w'.cell? ⟨w.heap.size + 1, 0, none⟩ = some (Value.int .i64 b2) ∧ w'.cell? ⟨w.heap.size + 1, 1, none⟩ = some (Value.slice A2 cs2.length c2) ∧ w'.cell? ⟨w.heap.size + 1 + 1, 0, none⟩ = some (Value.int .i64 0) ∧ w'.cell? ⟨w.heap.size + 1 + 1, 1, none⟩ = some (Value.slice none 0 0) ∧ w'.cell? ⟨w2.heap.size, 0, none⟩ = some (Value.int .i64 b2) ∧ w'.cell? ⟨w2.heap.size, 1, none⟩ = some (v) ∧ w'.cell? ⟨bk, o + j * 2, none⟩ = some (Value.int .i64 x) ∧ w'.cell? ⟨bk, o + j * 2 + 1, none⟩ = some (Value.int .i64 m) ∧ Below wr.heap.size wr w' from fun w' hb => ⟨(HSTs.out.call hb).cell 0 0 rfl rfl, (HSTs.out.call hb).cell 0 1 rfl rfl, (HSTs.out.call hb).cell 1 0 rfl rfl, (HSTs.out.call hb).cell 1 1 rfl rfl, (HSTs.out.call hb).cell 2 0 rfl rfl, (HSTs.out.call hb).cell 2 1 rfl rfl, (HSTs.out.call hb).cell 3 0 rfl rfl, (HSTs.out.call hb).cell 3 1 rfl rfl, (hb.cell (p := ⟨bk, o + j * 2, none⟩) hbl).trans q0, (hb.cell (p := ⟨bk, o + j * 2 + 1, none⟩) hbl).trans q1, hb⟩)
            clear k0_0 k0_1 l0_ k1_0 k1_1 l1_ k2_0 z2_0 k2_1 z2_1 l2_ k3_0 z3_0 k3_1 z3_1 l3_
            have k0_0 : wr.cell? ⟨w.heap.size, 0, none⟩ = some (Value.int .i64 b2) := HSTs.out.cell 0 0 rfl rfl
            have k0_1 : wr.cell? ⟨w.heap.size, 1, none⟩ = some (Value.slice (some ⟨bk, o, none⟩) cs1.length c1) := HSTs.out.cell 0 1 rfl rfl
            have l0_ : w.heap.size < wr.heap.size := HSTs.out.lt 0 rfl
            have k1_0 : wr.cell? ⟨w.heap.size + 1, 0, none⟩ = some (Value.int .i64 b2) := HSTs.out.cell 1 0 rfl rfl
            have k1_1 : wr.cell? ⟨w.heap.size + 1, 1, none⟩ = some (Value.slice A2 cs2.length c2) := HSTs.out.cell 1 1 rfl rfl
            have l1_ : w.heap.size + 1 < wr.heap.size := HSTs.out.lt 1 rfl
            have k2_0 : wr.cell? ⟨w.heap.size + 1 + 1, 0, none⟩ = some (Value.int .i64 0) := HSTs.out.cell 2 0 rfl rfl
            have z2_0 : wr.frozen? ⟨w.heap.size + 1 + 1, 0, none⟩ = false := HSTs.out.frozen 2 0 rfl
            have k2_1 : wr.cell? ⟨w.heap.size + 1 + 1, 1, none⟩ = some (Value.slice none 0 0) := HSTs.out.cell 2 1 rfl rfl
            have z2_1 : wr.frozen? ⟨w.heap.size + 1 + 1, 1, none⟩ = false := HSTs.out.frozen 2 1 rfl
            have l2_ : w.heap.size + 1 + 1 < wr.heap.size := HSTs.out.lt 2 rfl
            have k3_0 : wr.cell? ⟨w2.heap.size, 0, none⟩ = some (Value.int .i64 b2) := HSTs.out.cell 3 0 rfl rfl
            have z3_0 : wr.frozen? ⟨w2.heap.size, 0, none⟩ = false := HSTs.out.frozen 3 0 rfl
            have k3_1 : wr.cell? ⟨w2.heap.size, 1, none⟩ = some (v) := HSTs.out.cell 3 1 rfl rfl
            have z3_1 : wr.frozen? ⟨w2.heap.size, 1, none⟩ = false := HSTs.out.frozen 3 1 rfl
            have l3_ : w2.heap.size < wr.heap.size := HSTs.out.lt 3 rfl
            go_region_held3 (fun w' => w'.cell? ⟨w.heap.size, 0, none⟩ = some (Value.int .i64 b2) ∧ w'.cell? ⟨w.heap.size, 1, none⟩ = some (Value.slice (some ⟨bk, o, none⟩) cs1.length c1) ∧ w'.cell? ⟨w.heap.size + 1, 0, none⟩ = some (Value.int .i64 b2) ∧ w'.cell? ⟨w.heap.size + 1, 1, none⟩ = some (Value.slice A2 cs2.length c2) ∧ w'.cell? ⟨w.heap.size + 1 + 1, 0, none⟩ = some (Value.int .i64 0) ∧ w'.cell? ⟨w.heap.size + 1 + 1, 1, none⟩ = some (Value.slice none 0 0) ∧ w'.cell? ⟨w2.heap.size, 0, none⟩ = some (Value.int .i64 b2) ∧ w'.cell? ⟨w2.heap.size, 1, none⟩ = some (v) ∧ w'.cell? ⟨bk, o + j * 2, none⟩ = some (Value.int .i64 x) ∧ w'.cell? ⟨bk, o + j * 2 + 1, none⟩ = some (Value.int .i64 m) ∧ Below wr.heap.size wr w')
              (first
                | exact HKS.out _ (Below.refl _ wr).drew
                | (go_split_ands; refine HKS.out _ (below_next ?_ hbA); assumption))
              (first
                | (go_at_call 63; refine (HIN.out _ ?_).mono ?_; (go_split_ands; assumption); rintro e wA ⟨rfl, hbA⟩))
            have hbel7 : Below wr.heap.size wr wA := by go_split_ands; assumption
            have HST7 := Lib.hid (HSTs.out.call hbel7)
            have hsz7 := hbel7.size
            clear k0_0 k0_1 l0_ k1_0 k1_1 l1_ k2_0 z2_0 k2_1 z2_1 l2_ k3_0 z3_0 k3_1 z3_1 l3_
            have HBEL7 := Lib.hid hbel7
            clear hbel7
            have k0_0 : wA.cell? ⟨w.heap.size, 0, none⟩ = some (Value.int .i64 b2) := HST7.out.cell 0 0 rfl rfl
            have k0_1 : wA.cell? ⟨w.heap.size, 1, none⟩ = some (Value.slice (some ⟨bk, o, none⟩) cs1.length c1) := HST7.out.cell 0 1 rfl rfl
            have l0_ : w.heap.size < wA.heap.size := HST7.out.lt 0 rfl
            have k1_0 : wA.cell? ⟨w.heap.size + 1, 0, none⟩ = some (Value.int .i64 b2) := HST7.out.cell 1 0 rfl rfl
            have k1_1 : wA.cell? ⟨w.heap.size + 1, 1, none⟩ = some (Value.slice A2 cs2.length c2) := HST7.out.cell 1 1 rfl rfl
            have l1_ : w.heap.size + 1 < wA.heap.size := HST7.out.lt 1 rfl
            have k2_0 : wA.cell? ⟨w.heap.size + 1 + 1, 0, none⟩ = some (Value.int .i64 0) := HST7.out.cell 2 0 rfl rfl
            have z2_0 : wA.frozen? ⟨w.heap.size + 1 + 1, 0, none⟩ = false := HST7.out.frozen 2 0 rfl
            have k2_1 : wA.cell? ⟨w.heap.size + 1 + 1, 1, none⟩ = some (Value.slice none 0 0) := HST7.out.cell 2 1 rfl rfl
            have z2_1 : wA.frozen? ⟨w.heap.size + 1 + 1, 1, none⟩ = false := HST7.out.frozen 2 1 rfl
            have l2_ : w.heap.size + 1 + 1 < wA.heap.size := HST7.out.lt 2 rfl
            have k3_0 : wA.cell? ⟨w2.heap.size, 0, none⟩ = some (Value.int .i64 b2) := HST7.out.cell 3 0 rfl rfl
            have z3_0 : wA.frozen? ⟨w2.heap.size, 0, none⟩ = false := HST7.out.frozen 3 0 rfl
            have k3_1 : wA.cell? ⟨w2.heap.size, 1, none⟩ = some (v) := HST7.out.cell 3 1 rfl rfl
            have z3_1 : wA.frozen? ⟨w2.heap.size, 1, none⟩ = false := HST7.out.frozen 3 1 rfl
            have l3_ : w2.heap.size < wA.heap.size := HST7.out.lt 3 rfl
            have hblA : bk < wA.heap.size := by omega
            have q0' : wA.cell? ⟨bk, o + j * 2, none⟩ = some (.int .i64 x) := (HBEL7.out.cell (p := ⟨bk, o + j * 2, none⟩) hbl).trans q0
            have HOA := Lib.hid (ownsRow_fr HO.out (Fr.of_below HBEL7.out) (fun i hi => by have := (ownsRow_block HO.out hi).2; omega))
            clear hbA HKS q0 q1 hwr
            by_cases hpos : 0 < m - sumAt id cs2 x
            · have hpos' : decide (0 < m - sumAt id cs2 x) = true := by simpa using hpos
              rw [if_pos hpos] at HSTEP
              go_wp2
              have hszA : w2.heap.size + 1 ≤ wA.heap.size := by omega
              have hnO : v.ownBlock ≠ some w2.heap.size := fun h => by have := (ownsRow_block HOA.out h.symm).1; omega
              have hnB : v.ownBlock ≠ some bk := fun h => by have := (ownsRow_block HOA.out h.symm).1; have := HSTr.out.below.size; omega
              have hn0 : v.ownBlock ≠ some w.heap.size := fun h => by have := (ownsRow_block HOA.out h.symm).1; omega
              have HNEW := Lib.hid (show ∀ (g cap : Nat) (w4 : World), w4.ownsRow (w2.heap.size + 1) 63 2 (.slice (some ⟨g, 0, none⟩) ((leftL cs1 cs2 j).length + 1) cap) ((leftL cs1 cs2 j).length + 1) (cells2 (leftL cs1 cs2 j) ++ [.int .i64 x, .int .i64 (m - sumAt id cs2 x)]) → (wA.alloc (.cells #[.int .i64 x, .int .i64 (m - sumAt id cs2 x)] 63)).drew.grownBy w4 v.ownBlock → RMiRel w (w4.setCell ⟨w2.heap.size, 1, none⟩ (.slice (some ⟨g, 0, none⟩) ((leftL cs1 cs2 j).length + 1) cap)) [(w.heap.size, Obj.cells #[Value.int .i64 b2, Value.slice (some ⟨bk, o, none⟩) cs1.length c1] 24 (0, 0)), (w.heap.size + 1, Obj.cells #[Value.int .i64 b2, Value.slice A2 cs2.length c2] 24 (0, 0)), (w.heap.size + 1 + 1, Obj.cells #[Value.int .i64 0, Value.slice none 0 0] 24 (0, 0))] w2.heap.size b2 cs1 cs2 (j + 1) from fun g cap w4 ho hg => by
                refine ⟨by omega, _, St.setLast [(w.heap.size, Obj.cells #[Value.int .i64 b2, Value.slice (some ⟨bk, o, none⟩) cs1.length c1] 24 (0, 0)), (w.heap.size + 1, Obj.cells #[Value.int .i64 b2, Value.slice A2 cs2.length c2] 24 (0, 0)), (w.heap.size + 1 + 1, Obj.cells #[Value.int .i64 0, Value.slice none 0 0] 24 (0, 0))] 1 _ ((HST7.out.more _).drew.app ((HOA.out.alloc _).drew) hg (by simp; omega) (by omega)) (by simp; omega), ?_⟩
                rw [HSTEP.out, cells2_append]
                have := row_store ho (show w2.heap.size < w2.heap.size + 1 by omega) 1 (.slice (some ⟨g, 0, none⟩) ((leftL cs1 cs2 j).length + 1) cap)
                simpa [cells2] using this)
              go_region_law
                ((refine step_append_lies _ (by rfl) _ _ _ (by rfl) (w2.heap.size + 1) 63 i0 _ 2 16 Tryd.underlying22 hi0 hz0 hz1 hz2 rfl (by omega) v _ _ (by rfl) ((HOA.out.alloc _).drew)
                    ⟨wA.heap.size, 0, none⟩ 1 1 [.int .i64 x, .int .i64 (m - sumAt id cs2 x)] (by rfl) (by rfl) (World.news_of_block (cs := #[.int .i64 x, .int .i64 (m - sumAt id cs2 x)]) (t := 63) (fr := (0, 0)) (heap_alloc_new wA _)) (by simp [Value.oneCell'])
                    (by omega) (by unfold maxLen; omega) (by omega) (by simp; omega) (wA.heap.size + 1) (by simp) ?_; intro gg cap w4 hown' hgrow hat hlt'; have hz4 : w4.frozen? ⟨w2.heap.size, 1, none⟩ = false := (hgrow.frozen_far _ (by simp; omega) (Ne.symm hnO)).trans ((HST7.out.more _).drew.frozen 3 1 rfl); have hc4 : w4.cell? ⟨w2.heap.size, 1, none⟩ = some v := (hgrow.cell_far _ (by simp; omega) (Ne.symm hnO)).trans ((HST7.out.more _).drew.cell 3 1 rfl rfl)))
              all_goals (have HN := Lib.hid (HNEW.out gg cap w4 hown' hgrow); clear hown' hgrow hat hlt' hz4 hc4)
              all_goals go_wp2
              all_goals go_roundw
              all_goals first
                | exact ⟨j + 1, by go_num, HN.out⟩
                | (simp [intOf]; omega)
            · have hpos' : decide (0 < m - sumAt id cs2 x) = false := by simpa using hpos
              rw [if_neg hpos, List.append_nil] at HSTEP
              go_wp2
              go_roundw
              case rel => exact ⟨j + 1, by go_num, by omega, v, HST7.out, by rw [HSTEP.out]; exact HOA.out⟩
              case measure => simp [intOf]; omega
          · have htk : leftL cs1 cs2 j = leftL cs1 cs2 cs1.length := by rw [show j = cs1.length by omega]
            rw [htk] at HO
            obtain ⟨Ac, cc, rfl, _, _, _⟩ := ownsRow_shape HO.out
            have HH := Lib.hid (leftL_hist HG1.out HG2.out)
            have HRD2 := Lib.hid (Rd.of_own HO.out)
            clear htk
            clear k0_0 k0_1 l0_ k1_0 k1_1 l1_ k2_0 z2_0 k2_1 z2_1 l2_
            have k0_0 : wr.cell? ⟨w.heap.size, 0, none⟩ = some (Value.int .i64 b2) := HSTs.out.cell 0 0 rfl rfl
            have k0_1 : wr.cell? ⟨w.heap.size, 1, none⟩ = some (Value.slice A1 cs1.length c1) := HSTs.out.cell 0 1 rfl rfl
            have l0_ : w.heap.size < wr.heap.size := HSTs.out.lt 0 rfl
            have k1_0 : wr.cell? ⟨w.heap.size + 1, 0, none⟩ = some (Value.int .i64 b2) := HSTs.out.cell 1 0 rfl rfl
            have k1_1 : wr.cell? ⟨w.heap.size + 1, 1, none⟩ = some (Value.slice A2 cs2.length c2) := HSTs.out.cell 1 1 rfl rfl
            have l1_ : w.heap.size + 1 < wr.heap.size := HSTs.out.lt 1 rfl
            have k2_0 : wr.cell? ⟨w.heap.size + 1 + 1, 0, none⟩ = some (Value.int .i64 0) := HSTs.out.cell 2 0 rfl rfl
            have z2_0 : wr.frozen? ⟨w.heap.size + 1 + 1, 0, none⟩ = false := HSTs.out.frozen 2 0 rfl
            have k2_1 : wr.cell? ⟨w.heap.size + 1 + 1, 1, none⟩ = some (Value.slice none 0 0) := HSTs.out.cell 2 1 rfl rfl
            have z2_1 : wr.frozen? ⟨w.heap.size + 1 + 1, 1, none⟩ = false := HSTs.out.frozen 2 1 rfl
            have l2_ : w.heap.size + 1 + 1 < wr.heap.size := HSTs.out.lt 2 rfl
            have k3_0 : wr.cell? ⟨w2.heap.size, 0, none⟩ = some (Value.int .i64 b2) := HSTs.out.cell 3 0 rfl rfl
            have z3_0 : wr.frozen? ⟨w2.heap.size, 0, none⟩ = false := HSTs.out.frozen 3 0 rfl
            have k3_1 : wr.cell? ⟨w2.heap.size, 1, none⟩ = some (Value.slice Ac (leftL cs1 cs2 cs1.length).length cc) := HSTs.out.cell 3 1 rfl rfl
            have z3_1 : wr.frozen? ⟨w2.heap.size, 1, none⟩ = false := HSTs.out.frozen 3 1 rfl
            have l3_ : w2.heap.size < wr.heap.size := HSTs.out.lt 3 rfl
            go_wp2
            refine bodyPost_ret (v := .tuple #[.agg #[.int .i64 b2, .slice Ac (leftL cs1 cs2 cs1.length).length cc], .int .i64 0]) (by simp [results, Tryd.results25, go_sem, k2_0, k2_1, k3_0, k3_1]) rfl (HistPost.some HCC.out HH.out HRD2.out (by omega) HSTs.out.below ?_)
            repeat (first | exact Fr.refl _ _ | (refine Fr.setCell ?_ (fun _ => by dsimp only; omega) _))
  · have hch' : (codeB b1 cs1 b2 cs2 != 0) = true := by simp [hch]
    have HCC := Lib.hid (show codeN b1 cs1 b2 cs2 = codeB b1 cs1 b2 cs2 by unfold codeN; rw [if_pos hch])
    have HCH := Lib.hid hch
    clear hch
    go_wp2
    refine bodyPost_ret (v := .tuple #[.agg #[.int .i64 0, .slice none 0 0], .int .i64 (codeB b1 cs1 b2 cs2)]) (by simp [results, Tryd.results25, go_sem, k2_0, k2_1]) rfl (HistPost.none (HCH.out) HCC.out ?_)
    repeat (first | exact HST1.out.below | (refine Below.setCell ?_ (by dsimp only; omega) _))
end Go.Proofs.YtgmbgclhljobaaaDoor
