/- checkBoth, and the reference's pairFault. -/
import Derived.Test.YtgmbgclhljobaaaDoorRChk
import Derived.Test.YtgmbgclhljobaaaDoorSt
namespace Go.Proofs.YtgmbgclhljobaaaDoor
open Go Go.RowKit Go.Proofs Go.Maps

/-- the error of two histograms -/
def codeB (b1 : Int) (cs1 : List (Int × Int)) (b2 : Int) (cs2 : List (Int × Int)) : Int := if codeH b1 cs1 ≠ 0 then codeH b1 cs1 else if codeH b2 cs2 ≠ 0 then codeH b2 cs2 else if b1 = b2 then 0 else 2

set_option maxHeartbeats 1000000 in
set_option maxRecDepth 100000 in
theorem checkBoth_any (b1 b2 : Int) (A1 A2 : Option Addr) (c1 c2 : Nat) (cs1 cs2 : List (Int × Int)) (w : World) (hr1 : Rd w 0 w.heap.size 2 A1 cs1.length (cells2 cs1)) (hr2 : Rd w 0 w.heap.size 2 A2 cs2.length (cells2 cs2)) (hn1 : cs1.length < 9223372036854775807) (hn2 : cs2.length < 9223372036854775807) :
    Calls Tryd.prog 60 #[.agg #[.int .i64 b1, .slice A1 cs1.length c1], .agg #[.int .i64 b2, .slice A2 cs2.length c2]] w fun e w' => e = .returned (.int .i64 (codeB b1 cs1 b2 cs2)) ∧ Below w.heap.size w w' := by
  obtain ⟨W0, hW0⟩ : ∃ W0, W0 = ((w).alloc (.cells #[Value.int .i64 b1, Value.slice A1 cs1.length c1] 24)).alloc (.cells #[Value.int .i64 b2, Value.slice A2 cs2.length c2] 24) := ⟨_, rfl⟩
  have st0 : St w W0 [(w.heap.size, Obj.cells #[Value.int .i64 b1, Value.slice A1 cs1.length c1] 24 (0, 0)), (w.heap.size + 1, Obj.cells #[Value.int .i64 b2, Value.slice A2 cs2.length c2] 24 (0, 0))] := by rw [hW0]; exact ((St.start w).alloc _ _ (by simp)).alloc _ _ (by simp)
  have hs0 : W0.heap.size = w.heap.size + 1 + 1 := by rw [hW0]; simp
  have hsz0 : w.heap.size + 1 + 1 ≤ W0.heap.size := by omega
  have HST0 := Lib.hid st0
  have HS0 := Lib.hid hs0
  have HC1 := Lib.hid (check_any b1 A1 cs1.length c1 cs1 W0 ((hr1.below st0.below (Nat.le_refl _)).more (Nat.le_refl _) (by omega)) hn1)
  have HR2 := Lib.hid hr2
  clear hr1 hr2
  clear st0 hs0
  go_enter Tryd.func60, Tryd.ntmps60
  go_wp2_with fail
  rw [← hW0]
  clear hW0
  go_wp2_with fail
  refine HC1.out.mono ?_
  rintro e w1 ⟨rfl, hb1⟩
  have HST1 := Lib.hid (HST0.out.call hb1)
  have hsz1 := hb1.size
  clear hb1
  have k0_0 : w1.cell? ⟨w.heap.size, 0, none⟩ = some (Value.int .i64 b1) := HST1.out.cell 0 0 rfl rfl
  have k0_1 : w1.cell? ⟨w.heap.size, 1, none⟩ = some (Value.slice A1 cs1.length c1) := HST1.out.cell 0 1 rfl rfl
  have l0_ : w.heap.size < w1.heap.size := HST1.out.lt 0 rfl
  have k1_0 : w1.cell? ⟨w.heap.size + 1, 0, none⟩ = some (Value.int .i64 b2) := HST1.out.cell 1 0 rfl rfl
  have k1_1 : w1.cell? ⟨w.heap.size + 1, 1, none⟩ = some (Value.slice A2 cs2.length c2) := HST1.out.cell 1 1 rfl rfl
  have l1_ : w.heap.size + 1 < w1.heap.size := HST1.out.lt 1 rfl
  by_cases h1 : codeH b1 cs1 = 0
  · have h1' : (codeH b1 cs1 != 0) = false := by simp [h1]
    have H1 := Lib.hid h1
    clear h1
    have HC2 := Lib.hid (check_any b2 A2 cs2.length c2 cs2 w1 ((HR2.out.below HST1.out.below (Nat.le_refl _)).more (Nat.le_refl _) HST1.out.below.size) hn2 )
    go_wp2_with fail
    refine HC2.out.mono ?_
    rintro e w2 ⟨rfl, hb2⟩
    have HST2 := Lib.hid (HST1.out.call hb2)
    have hsz2 := hb2.size
    clear k0_0 k0_1 l0_ k1_0 k1_1 l1_
    clear hb2
    have k0_0 : w2.cell? ⟨w.heap.size, 0, none⟩ = some (Value.int .i64 b1) := HST2.out.cell 0 0 rfl rfl
    have k0_1 : w2.cell? ⟨w.heap.size, 1, none⟩ = some (Value.slice A1 cs1.length c1) := HST2.out.cell 0 1 rfl rfl
    have l0_ : w.heap.size < w2.heap.size := HST2.out.lt 0 rfl
    have k1_0 : w2.cell? ⟨w.heap.size + 1, 0, none⟩ = some (Value.int .i64 b2) := HST2.out.cell 1 0 rfl rfl
    have k1_1 : w2.cell? ⟨w.heap.size + 1, 1, none⟩ = some (Value.slice A2 cs2.length c2) := HST2.out.cell 1 1 rfl rfl
    have l1_ : w.heap.size + 1 < w2.heap.size := HST2.out.lt 1 rfl
    by_cases h2 : codeH b2 cs2 = 0
    · have h2' : (codeH b2 cs2 != 0) = false := by simp [h2]
      have H2 := Lib.hid h2
      clear h2
      by_cases h3 : b1 = b2
      · have h3' : (b1 != b2) = false := by simp [h3]
        have HCC := Lib.hid (show codeB b1 cs1 b2 cs2 = 0 by unfold codeB; rw [if_neg (by rw [H1.out]; simp), if_neg (by rw [H2.out]; simp), if_pos h3])
        clear h3
        go_wp2
        go_ret
        exact ⟨(congrArg (fun z => Ending.returned (.int .i64 z)) HCC.out).symm, HST2.out.below⟩
      · have h3' : (b1 != b2) = true := by simp [h3]
        have HCC := Lib.hid (show codeB b1 cs1 b2 cs2 = 2 by unfold codeB; rw [if_neg (by rw [H1.out]; simp), if_neg (by rw [H2.out]; simp), if_neg h3])
        clear h3
        go_wp2
        go_ret
        exact ⟨(congrArg (fun z => Ending.returned (.int .i64 z)) HCC.out).symm, HST2.out.below⟩
    · have h2' : (codeH b2 cs2 != 0) = true := by simp [h2]
      have HCC := Lib.hid (show codeB b1 cs1 b2 cs2 = codeH b2 cs2 by unfold codeB; rw [if_neg (by rw [H1.out]; simp), if_pos h2])
      clear h2
      go_wp2
      go_ret
      exact ⟨(congrArg (fun z => Ending.returned (.int .i64 z)) HCC.out).symm, HST2.out.below⟩
  · have h1' : (codeH b1 cs1 != 0) = true := by simp [h1]
    have HCC := Lib.hid (show codeB b1 cs1 b2 cs2 = codeH b1 cs1 by unfold codeB; rw [if_pos h1])
    clear h1
    go_wp2
    go_ret
    exact ⟨(congrArg (fun z => Ending.returned (.int .i64 z)) HCC.out).symm, HST1.out.below⟩

set_option maxHeartbeats 1000000 in
set_option maxRecDepth 100000 in
theorem pairFault_any (b1 b2 : Int) (A1 A2 : Option Addr) (c1 c2 : Nat) (cs1 cs2 : List (Int × Int)) (w : World) (hr1 : Rd w 0 w.heap.size 2 A1 cs1.length (cells2 cs1)) (hr2 : Rd w 0 w.heap.size 2 A2 cs2.length (cells2 cs2)) (hn1 : cs1.length < 9223372036854775807) (hn2 : cs2.length < 9223372036854775807) (hx1 : ∀ c ∈ cs1, c.1 ≤ 9223372036854775807) (hx2 : ∀ c ∈ cs2, c.1 ≤ 9223372036854775807) :
    Calls Tryd.prog 62 #[.agg #[.int .i64 b1, .slice A1 cs1.length c1], .agg #[.int .i64 b2, .slice A2 cs2.length c2]] w fun e w' => e = .returned (.int .i64 (codeB b1 cs1 b2 cs2)) ∧ Below w.heap.size w w' := by
  obtain ⟨W0, hW0⟩ : ∃ W0, W0 = ((w).alloc (.cells #[Value.int .i64 b1, Value.slice A1 cs1.length c1] 24)).alloc (.cells #[Value.int .i64 b2, Value.slice A2 cs2.length c2] 24) := ⟨_, rfl⟩
  have st0 : St w W0 [(w.heap.size, Obj.cells #[Value.int .i64 b1, Value.slice A1 cs1.length c1] 24 (0, 0)), (w.heap.size + 1, Obj.cells #[Value.int .i64 b2, Value.slice A2 cs2.length c2] 24 (0, 0))] := by rw [hW0]; exact ((St.start w).alloc _ _ (by simp)).alloc _ _ (by simp)
  have hs0 : W0.heap.size = w.heap.size + 1 + 1 := by rw [hW0]; simp
  have hsz0 : w.heap.size + 1 + 1 ≤ W0.heap.size := by omega
  have HST0 := Lib.hid st0
  have HS0 := Lib.hid hs0
  have HC1 := Lib.hid (rcheck_any b1 A1 cs1.length c1 cs1 W0 ((hr1.below st0.below (Nat.le_refl _)).more (Nat.le_refl _) (by omega)) hn1 hx1)
  have HR2 := Lib.hid hr2
  have HX2 := Lib.hid hx2
  clear hr1 hr2 hx1 hx2
  clear st0 hs0
  go_enter Tryd.func62, Tryd.ntmps62
  go_wp2_with fail
  rw [← hW0]
  clear hW0
  go_wp2_with fail
  refine HC1.out.mono ?_
  rintro e w1 ⟨rfl, hb1⟩
  have HST1 := Lib.hid (HST0.out.call hb1)
  have hsz1 := hb1.size
  clear hb1
  have k0_0 : w1.cell? ⟨w.heap.size, 0, none⟩ = some (Value.int .i64 b1) := HST1.out.cell 0 0 rfl rfl
  have k0_1 : w1.cell? ⟨w.heap.size, 1, none⟩ = some (Value.slice A1 cs1.length c1) := HST1.out.cell 0 1 rfl rfl
  have l0_ : w.heap.size < w1.heap.size := HST1.out.lt 0 rfl
  have k1_0 : w1.cell? ⟨w.heap.size + 1, 0, none⟩ = some (Value.int .i64 b2) := HST1.out.cell 1 0 rfl rfl
  have k1_1 : w1.cell? ⟨w.heap.size + 1, 1, none⟩ = some (Value.slice A2 cs2.length c2) := HST1.out.cell 1 1 rfl rfl
  have l1_ : w.heap.size + 1 < w1.heap.size := HST1.out.lt 1 rfl
  by_cases h1 : codeH b1 cs1 = 0
  · have h1' : (codeH b1 cs1 != 0) = false := by simp [h1]
    have H1 := Lib.hid h1
    clear h1
    have HC2 := Lib.hid (rcheck_any b2 A2 cs2.length c2 cs2 w1 ((HR2.out.below HST1.out.below (Nat.le_refl _)).more (Nat.le_refl _) HST1.out.below.size) hn2 HX2.out)
    go_wp2_with fail
    refine HC2.out.mono ?_
    rintro e w2 ⟨rfl, hb2⟩
    have HST2 := Lib.hid (HST1.out.call hb2)
    have hsz2 := hb2.size
    clear k0_0 k0_1 l0_ k1_0 k1_1 l1_
    clear hb2
    have k0_0 : w2.cell? ⟨w.heap.size, 0, none⟩ = some (Value.int .i64 b1) := HST2.out.cell 0 0 rfl rfl
    have k0_1 : w2.cell? ⟨w.heap.size, 1, none⟩ = some (Value.slice A1 cs1.length c1) := HST2.out.cell 0 1 rfl rfl
    have l0_ : w.heap.size < w2.heap.size := HST2.out.lt 0 rfl
    have k1_0 : w2.cell? ⟨w.heap.size + 1, 0, none⟩ = some (Value.int .i64 b2) := HST2.out.cell 1 0 rfl rfl
    have k1_1 : w2.cell? ⟨w.heap.size + 1, 1, none⟩ = some (Value.slice A2 cs2.length c2) := HST2.out.cell 1 1 rfl rfl
    have l1_ : w.heap.size + 1 < w2.heap.size := HST2.out.lt 1 rfl
    by_cases h2 : codeH b2 cs2 = 0
    · have h2' : (codeH b2 cs2 != 0) = false := by simp [h2]
      have H2 := Lib.hid h2
      clear h2
      by_cases h3 : b1 = b2
      · have h3' : (b1 != b2) = false := by simp [h3]
        have HCC := Lib.hid (show codeB b1 cs1 b2 cs2 = 0 by unfold codeB; rw [if_neg (by rw [H1.out]; simp), if_neg (by rw [H2.out]; simp), if_pos h3])
        clear h3
        go_wp2
        go_ret
        exact ⟨(congrArg (fun z => Ending.returned (.int .i64 z)) HCC.out).symm, HST2.out.below⟩
      · have h3' : (b1 != b2) = true := by simp [h3]
        have HCC := Lib.hid (show codeB b1 cs1 b2 cs2 = 2 by unfold codeB; rw [if_neg (by rw [H1.out]; simp), if_neg (by rw [H2.out]; simp), if_neg h3])
        clear h3
        go_wp2
        go_ret
        exact ⟨(congrArg (fun z => Ending.returned (.int .i64 z)) HCC.out).symm, HST2.out.below⟩
    · have h2' : (codeH b2 cs2 != 0) = true := by simp [h2]
      have HCC := Lib.hid (show codeB b1 cs1 b2 cs2 = codeH b2 cs2 by unfold codeB; rw [if_neg (by rw [H1.out]; simp), if_pos h2])
      clear h2
      go_wp2
      go_ret
      exact ⟨(congrArg (fun z => Ending.returned (.int .i64 z)) HCC.out).symm, HST2.out.below⟩
  · have h1' : (codeH b1 cs1 != 0) = true := by simp [h1]
    have HCC := Lib.hid (show codeB b1 cs1 b2 cs2 = codeH b1 cs1 by unfold codeB; rw [if_pos h1])
    clear h1
    go_wp2
    go_ret
    exact ⟨(congrArg (fun z => Ending.returned (.int .i64 z)) HCC.out).symm, HST1.out.below⟩
end Go.Proofs.YtgmbgclhljobaaaDoor
