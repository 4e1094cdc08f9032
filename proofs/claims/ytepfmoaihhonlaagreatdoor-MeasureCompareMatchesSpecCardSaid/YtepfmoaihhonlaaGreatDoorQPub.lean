/- Total, Below, Score of package measure and of its reference. Printed by gen_qpub.py. -/
import Derived.Test.YtepfmoaihhonlaaGreatDoorBelow
import Derived.Test.YtepfmoaihhonlaaGreatDoorG35
namespace Go.Proofs.YtepfmoaihhonlaaGreatDoor
open Go Go.RowKit Go.Proofs

def totV (b : Int) (cs : List (Int × Int)) : Int := if codeH b cs = 0 then tot cs else 0
def belC (b : Int) (cs : List (Int × Int)) (v : Int) : Int := if codeH b cs ≠ 0 then codeH b cs else if v < 0 then 9 else if 1125899906842623 < v then 9 else 0
def belV (b : Int) (cs : List (Int × Int)) (v : Int) : Int × Int := if belC b cs v = 0 then (leB b v cs, moB b v cs) else (0, 0)
def scoC (b : Int) (cs : List (Int × Int)) (v : Int) : Int := if codeH b cs ≠ 0 then codeH b cs else if v < 0 then 9 else if 281474976710655 < v then 9 else 0
def scoV (b : Int) (cs : List (Int × Int)) (v : Int) : Int × Int × Int := if scoC b cs v = 0 then (leB b v cs, leB b (4 * v) cs - leB b v cs, tot cs) else (0, 0, 0)

set_option maxHeartbeats 2000000 in
set_option maxRecDepth 100000 in
theorem mTotal_any (b : Int) (A : Option Addr) (c : Nat) (cs : List (Int × Int)) (w : World) (hr : Rd w 0 w.heap.size 2 A cs.length (cells2 cs)) (hl : cs.length < 9223372036854775807) :
    Calls Tryz.prog 36 #[.agg #[.int .i64 b, .slice A cs.length c]] w fun e w' => e = .returned (.tuple #[.int .i64 (totV b cs), .int .i64 (codeH b cs)]) ∧ Below w.heap.size w w' := by
  have HCK := Lib.hid (fun (W : World) (hb : Below w.heap.size w W) => check_any b A cs.length c cs W (hr.old hb) (by omega))
  obtain ⟨W0, hW0⟩ : ∃ W0, W0 = w.alloc (.cells #[.int .i64 b, .slice A cs.length c] 53) := ⟨_, rfl⟩
  have HST0 := Lib.hid (show St w W0 [(w.heap.size, .cells #[.int .i64 b, .slice A cs.length c] 53 (0, 0))] by rw [hW0]; exact (St.start w).alloc _ _ rfl)
  by_cases hc : codeH b cs = 0
  · have hg := codeH_zero hc
    have HV := Lib.hid (show (.tuple #[.int .i64 (totV b cs), .int .i64 (codeH b cs)] : Value) = .tuple #[.int .i64 (tot cs), .int .i64 0] by unfold totV; rw [if_pos hc, hc])
    have HTO := Lib.hid (fun (W : World) (hb : Below w.heap.size w W) => total_any b A cs.length c cs W (hr.old hb) (by have := hg.2.2.1; omega) (fun c hc => (hg.2.2.2.1 c hc).2) hg.2.2.1)
    rw [hc] at HCK
    clear hg hc hr
    go_enter Tryz.func36, Tryz.ntmps36
    go_wp2_with fail
    rw [← hW0]
    clear hW0
    (with_reducible refine (HCK.out W0 HST0.out.below).mono ?_)
    rintro e w1 ⟨rfl, hb1⟩
    have hST1 := HST0.out.call hb1
    have HST1 := Lib.hid hST1
    have k00 := hST1.cell 0 0 rfl rfl
    have k01 := hST1.cell 0 1 rfl rfl
    clear hb1 hST1
    go_wp2_with fail
    (with_reducible refine (HTO.out w1 HST1.out.below).mono ?_)
    rintro e w2 ⟨rfl, hb2⟩
    have HFIN := Lib.hid (below_next HST1.out.below hb2)
    clear hb2 k00 k01
    go_wp2
    go_ret2
    exact ⟨(congrArg Ending.returned HV.out).symm, HFIN.out⟩
  · have HV := Lib.hid (show (.tuple #[.int .i64 (totV b cs), .int .i64 (codeH b cs)] : Value) = .tuple #[.int .i64 0, .int .i64 (codeH b cs)] by
      unfold totV; rw [if_neg hc])
    obtain ⟨cc, hcc⟩ : ∃ cc, cc = codeH b cs := ⟨_, rfl⟩
    rw [← hcc] at HCK hc HV ⊢
    have t1 : (cc != 0) = true := by simpa using hc
    clear hcc hr
    go_enter Tryz.func36, Tryz.ntmps36
    go_wp2_with fail
    rw [← hW0]
    clear hW0
    (with_reducible refine (HCK.out W0 HST0.out.below).mono ?_)
    rintro e w1 ⟨rfl, hb1⟩
    have hST1 := HST0.out.call hb1
    have HST1 := Lib.hid hST1
    have k00 := hST1.cell 0 0 rfl rfl
    have k01 := hST1.cell 0 1 rfl rfl
    clear hb1 hST1
    have HFIN := Lib.hid HST1.out.below
    go_wp2
    go_ret2
    exact ⟨(congrArg Ending.returned HV.out).symm, HFIN.out⟩

set_option maxHeartbeats 2000000 in
set_option maxRecDepth 100000 in
theorem mBelow_any (b : Int) (A : Option Addr) (c : Nat) (cs : List (Int × Int)) (v : Int) (w : World) (hr : Rd w 0 w.heap.size 2 A cs.length (cells2 cs)) (hl : cs.length < 9223372036854775807) :
    Calls Tryz.prog 40 #[.agg #[.int .i64 b, .slice A cs.length c], .int .i64 v] w fun e w' => e = .returned (.tuple #[.int .i64 ((belV b cs v).1), .int .i64 ((belV b cs v).2), .int .i64 (belC b cs v)]) ∧ Below w.heap.size w w' := by
  have HCK := Lib.hid (fun (W : World) (hb : Below w.heap.size w W) => check_any b A cs.length c cs W (hr.old hb) (by omega))
  obtain ⟨W0, hW0⟩ : ∃ W0, W0 = w.alloc (.cells #[.int .i64 b, .slice A cs.length c] 53) := ⟨_, rfl⟩
  have HST0 := Lib.hid (show St w W0 [(w.heap.size, .cells #[.int .i64 b, .slice A cs.length c] 53 (0, 0))] by rw [hW0]; exact (St.start w).alloc _ _ rfl)
  by_cases hc : codeH b cs = 0
  · have hg := codeH_zero hc
    rw [hc] at HCK
    by_cases h0 : v < 0
    · have HV := Lib.hid (show (.tuple #[.int .i64 ((belV b cs v).1), .int .i64 ((belV b cs v).2), .int .i64 (belC b cs v)] : Value) = .tuple #[.int .i64 0, .int .i64 0, .int .i64 9] by
        have e : belC b cs v = 9 := by unfold belC; rw [if_neg (by omega), if_pos h0]
        unfold belV; rw [e]; rfl)
      have t1 : decide (v < 0) = true := decide_eq_true h0
      clear hg hc hr
      go_enter Tryz.func40, Tryz.ntmps40
      go_wp2_with fail
      rw [← hW0]
      clear hW0
      (with_reducible refine (HCK.out W0 HST0.out.below).mono ?_)
      rintro e w1 ⟨rfl, hb1⟩
      have hST1 := HST0.out.call hb1
      have HST1 := Lib.hid hST1
      have k00 := hST1.cell 0 0 rfl rfl
      have k01 := hST1.cell 0 1 rfl rfl
      clear hb1 hST1
      have HFIN := Lib.hid HST1.out.below
      go_wp2
      refine bodyPost_ret (v := .tuple #[.int .i64 0, .int .i64 0, .int .i64 9]) (by simp [results, Tryz.results40, go_sem]) rfl ⟨by rw [HV.out], HFIN.out⟩
    · by_cases h1 : 1125899906842623 < v
      · have HV := Lib.hid (show (.tuple #[.int .i64 ((belV b cs v).1), .int .i64 ((belV b cs v).2), .int .i64 (belC b cs v)] : Value) = .tuple #[.int .i64 0, .int .i64 0, .int .i64 9] by
          have e : belC b cs v = 9 := by unfold belC; rw [if_neg (by omega), if_neg h0, if_pos h1]
          unfold belV; rw [e]; rfl)
        have t1 : decide (v < 0) = false := decide_eq_false h0
        have t2 : decide (1125899906842623 < v) = true := decide_eq_true h1
        clear hg hc hr
        go_enter Tryz.func40, Tryz.ntmps40
        go_wp2_with fail
        rw [← hW0]
        clear hW0
        (with_reducible refine (HCK.out W0 HST0.out.below).mono ?_)
        rintro e w1 ⟨rfl, hb1⟩
        have hST1 := HST0.out.call hb1
        have HST1 := Lib.hid hST1
        have k00 := hST1.cell 0 0 rfl rfl
        have k01 := hST1.cell 0 1 rfl rfl
        clear hb1 hST1
        have HFIN := Lib.hid HST1.out.below
        go_wp2
        refine bodyPost_ret (v := .tuple #[.int .i64 0, .int .i64 0, .int .i64 9]) (by simp [results, Tryz.results40, go_sem]) rfl ⟨by rw [HV.out], HFIN.out⟩
      · have HV := Lib.hid (show (.tuple #[.int .i64 ((belV b cs v).1), .int .i64 ((belV b cs v).2), .int .i64 (belC b cs v)] : Value) = .tuple #[.int .i64 (leB b v cs), .int .i64 (moB b v cs), .int .i64 0] by
            have e : belC b cs v = 0 := by unfold belC; rw [if_neg (by omega), if_neg h0, if_neg h1]
            unfold belV; rw [if_pos e, e])
        have HBE := Lib.hid (fun (W : World) (hb : Below w.heap.size w W) => below_any b v A c cs W (hr.old hb) hg)
        have t1 : decide (v < 0) = false := decide_eq_false h0
        have t2 : decide (1125899906842623 < v) = false := decide_eq_false h1
        obtain ⟨le, hle⟩ : ∃ z, z = leB b v cs := ⟨_, rfl⟩
        obtain ⟨mo, hmo⟩ : ∃ z, z = moB b v cs := ⟨_, rfl⟩
        rw [← hle, ← hmo] at HBE HV
        clear hg hc hr hle hmo
        go_enter Tryz.func40, Tryz.ntmps40
        go_wp2_with fail
        rw [← hW0]
        clear hW0
        (with_reducible refine (HCK.out W0 HST0.out.below).mono ?_)
        rintro e w1 ⟨rfl, hb1⟩
        have hST1 := HST0.out.call hb1
        have HST1 := Lib.hid hST1
        have k00 := hST1.cell 0 0 rfl rfl
        have k01 := hST1.cell 0 1 rfl rfl
        clear hb1 hST1
        go_wp2_with fail
        (with_reducible refine (HBE.out w1 HST1.out.below).mono ?_)
        rintro e w2 ⟨rfl, hb2⟩
        have HFIN := Lib.hid (below_next HST1.out.below hb2)
        clear hb2 k00 k01
        go_wp2
        refine bodyPost_ret (v := .tuple #[.int .i64 le, .int .i64 mo, .int .i64 0]) (by simp [results, Tryz.results40, go_sem]) rfl ⟨by rw [HV.out], HFIN.out⟩
  · have HV := Lib.hid (show (.tuple #[.int .i64 ((belV b cs v).1), .int .i64 ((belV b cs v).2), .int .i64 (belC b cs v)] : Value) = .tuple #[.int .i64 0, .int .i64 0, .int .i64 (codeH b cs)] by
      have e : belC b cs v = codeH b cs := by unfold belC; rw [if_pos hc]
      unfold belV; rw [e, if_neg hc])
    obtain ⟨cc, hcc⟩ : ∃ cc, cc = codeH b cs := ⟨_, rfl⟩
    rw [← hcc] at HCK hc HV
    have t1 : (cc != 0) = true := by simpa using hc
    clear hcc hr
    go_enter Tryz.func40, Tryz.ntmps40
    go_wp2_with fail
    rw [← hW0]
    clear hW0
    (with_reducible refine (HCK.out W0 HST0.out.below).mono ?_)
    rintro e w1 ⟨rfl, hb1⟩
    have hST1 := HST0.out.call hb1
    have HST1 := Lib.hid hST1
    have k00 := hST1.cell 0 0 rfl rfl
    have k01 := hST1.cell 0 1 rfl rfl
    clear hb1 hST1
    have HFIN := Lib.hid HST1.out.below
    go_wp2
    refine bodyPost_ret (v := .tuple #[.int .i64 0, .int .i64 0, .int .i64 cc]) (by simp [results, Tryz.results40, go_sem]) rfl ⟨by rw [HV.out], HFIN.out⟩

set_option maxHeartbeats 2000000 in
set_option maxRecDepth 100000 in
theorem mScore_any (b : Int) (A : Option Addr) (c : Nat) (cs : List (Int × Int)) (v : Int) (w : World) (hr : Rd w 0 w.heap.size 2 A cs.length (cells2 cs)) (hl : cs.length < 9223372036854775807) :
    Calls Tryz.prog 33 #[.agg #[.int .i64 b, .slice A cs.length c], .int .i64 v] w fun e w' => e = .returned (.tuple #[.int .i64 ((scoV b cs v).1), .int .i64 ((scoV b cs v).2.1), .int .i64 ((scoV b cs v).2.2), .int .i64 (scoC b cs v)]) ∧ Below w.heap.size w w' := by
  have HCK := Lib.hid (fun (W : World) (hb : Below w.heap.size w W) => check_any b A cs.length c cs W (hr.old hb) (by omega))
  obtain ⟨W0, hW0⟩ : ∃ W0, W0 = w.alloc (.cells #[.int .i64 b, .slice A cs.length c] 53) := ⟨_, rfl⟩
  have HST0 := Lib.hid (show St w W0 [(w.heap.size, .cells #[.int .i64 b, .slice A cs.length c] 53 (0, 0))] by rw [hW0]; exact (St.start w).alloc _ _ rfl)
  by_cases hc : codeH b cs = 0
  · have hg := codeH_zero hc
    rw [hc] at HCK
    by_cases h0 : v < 0
    · have HV := Lib.hid (show (.tuple #[.int .i64 ((scoV b cs v).1), .int .i64 ((scoV b cs v).2.1), .int .i64 ((scoV b cs v).2.2), .int .i64 (scoC b cs v)] : Value) = .tuple #[.int .i64 0, .int .i64 0, .int .i64 0, .int .i64 9] by
        have e : scoC b cs v = 9 := by unfold scoC; rw [if_neg (by omega), if_pos h0]
        unfold scoV; rw [e]; rfl)
      have t1 : decide (v < 0) = true := decide_eq_true h0
      clear hg hc hr
      go_enter Tryz.func33, Tryz.ntmps33
      go_wp2_with fail
      rw [← hW0]
      clear hW0
      (with_reducible refine (HCK.out W0 HST0.out.below).mono ?_)
      rintro e w1 ⟨rfl, hb1⟩
      have hST1 := HST0.out.call hb1
      have HST1 := Lib.hid hST1
      have k00 := hST1.cell 0 0 rfl rfl
      have k01 := hST1.cell 0 1 rfl rfl
      clear hb1 hST1
      have HFIN := Lib.hid HST1.out.below
      go_wp2
      refine bodyPost_ret (v := .tuple #[.int .i64 0, .int .i64 0, .int .i64 0, .int .i64 9]) (by simp [results, Tryz.results33, go_sem]) rfl ⟨by rw [HV.out], HFIN.out⟩
    · by_cases h1 : 281474976710655 < v
      · have HV := Lib.hid (show (.tuple #[.int .i64 ((scoV b cs v).1), .int .i64 ((scoV b cs v).2.1), .int .i64 ((scoV b cs v).2.2), .int .i64 (scoC b cs v)] : Value) = .tuple #[.int .i64 0, .int .i64 0, .int .i64 0, .int .i64 9] by
          have e : scoC b cs v = 9 := by unfold scoC; rw [if_neg (by omega), if_neg h0, if_pos h1]
          unfold scoV; rw [e]; rfl)
        have t1 : decide (v < 0) = false := decide_eq_false h0
        have t2 : decide (281474976710655 < v) = true := decide_eq_true h1
        clear hg hc hr
        go_enter Tryz.func33, Tryz.ntmps33
        go_wp2_with fail
        rw [← hW0]
        clear hW0
        (with_reducible refine (HCK.out W0 HST0.out.below).mono ?_)
        rintro e w1 ⟨rfl, hb1⟩
        have hST1 := HST0.out.call hb1
        have HST1 := Lib.hid hST1
        have k00 := hST1.cell 0 0 rfl rfl
        have k01 := hST1.cell 0 1 rfl rfl
        clear hb1 hST1
        have HFIN := Lib.hid HST1.out.below
        go_wp2
        refine bodyPost_ret (v := .tuple #[.int .i64 0, .int .i64 0, .int .i64 0, .int .i64 9]) (by simp [results, Tryz.results33, go_sem]) rfl ⟨by rw [HV.out], HFIN.out⟩
      · have HV := Lib.hid (show (.tuple #[.int .i64 ((scoV b cs v).1), .int .i64 ((scoV b cs v).2.1), .int .i64 ((scoV b cs v).2.2), .int .i64 (scoC b cs v)] : Value) = .tuple #[.int .i64 (leB b v cs), .int .i64 (leB b (4 * v) cs - leB b v cs), .int .i64 (tot cs), .int .i64 0] by
            have e : scoC b cs v = 0 := by unfold scoC; rw [if_neg (by omega), if_neg h0, if_neg h1]
            unfold scoV; rw [if_pos e, e])
        have HBE := Lib.hid (fun (W : World) (hb : Below w.heap.size w W) => below_any b v A c cs W (hr.old hb) hg)
        have HBF := Lib.hid (fun (W : World) (hb : Below w.heap.size w W) => below_any b (4 * v) A c cs W (hr.old hb) hg)
        have HTO := Lib.hid (fun (W : World) (hb : Below w.heap.size w W) => total_any b A cs.length c cs W (hr.old hb) (by have := hg.2.2.1; omega) (fun c hc => (hg.2.2.2.1 c hc).2) hg.2.2.1)
        have l1 := belB_bd (v := v) hg
        have l2 := belB_bd (v := 4 * v) hg
        have l3 := hg.2.2.2.2.2
        have t1 : decide (v < 0) = false := decide_eq_false h0
        have t2 : decide (281474976710655 < v) = false := decide_eq_false h1
        obtain ⟨le, hle⟩ : ∃ z, z = leB b v cs := ⟨_, rfl⟩
        obtain ⟨mo, hmo⟩ : ∃ z, z = moB b v cs := ⟨_, rfl⟩
        obtain ⟨le4, hle4⟩ : ∃ z, z = leB b (4 * v) cs := ⟨_, rfl⟩
        obtain ⟨mo4, hmo4⟩ : ∃ z, z = moB b (4 * v) cs := ⟨_, rfl⟩
        obtain ⟨tt, htt⟩ : ∃ z, z = tot cs := ⟨_, rfl⟩
        rw [← hle, ← hmo] at HBE l1
        rw [← hle4, ← hmo4] at HBF l2
        rw [← hle, ← hle4, ← htt] at HV
        rw [← htt] at HTO l1 l2 l3
        clear hg hc hr hle hmo hle4 hmo4 htt
        go_enter Tryz.func33, Tryz.ntmps33
        go_wp2_with fail
        rw [← hW0]
        clear hW0
        (with_reducible refine (HCK.out W0 HST0.out.below).mono ?_)
        rintro e w1 ⟨rfl, hb1⟩
        have hST1 := HST0.out.call hb1
        have HST1 := Lib.hid hST1
        have k00 := hST1.cell 0 0 rfl rfl
        have k01 := hST1.cell 0 1 rfl rfl
        clear hb1 hST1
        go_wp2_with fail
        (with_reducible refine (HBE.out w1 HST1.out.below).mono ?_)
        rintro e w2 ⟨rfl, hb2⟩
        have hST2 := HST1.out.call hb2
        have HST2 := Lib.hid hST2
        have k00 := hST2.cell 0 0 rfl rfl
        have k01 := hST2.cell 0 1 rfl rfl
        clear hb2 hST2
        go_wp2_with fail
        (with_reducible refine (HBF.out w2 HST2.out.below).mono ?_)
        rintro e w3 ⟨rfl, hb3⟩
        have hST3 := HST2.out.call hb3
        have HST3 := Lib.hid hST3
        have k00 := hST3.cell 0 0 rfl rfl
        have k01 := hST3.cell 0 1 rfl rfl
        clear hb3 hST3
        go_wp2_with fail
        (with_reducible refine (HTO.out w3 HST3.out.below).mono ?_)
        rintro e w4 ⟨rfl, hb4⟩
        have HFIN := Lib.hid (below_next HST3.out.below hb4)
        clear hb4 k00 k01
        go_wp2
        refine bodyPost_ret (v := .tuple #[.int .i64 le, .int .i64 (le4 - le), .int .i64 tt, .int .i64 0]) (by simp [results, Tryz.results33, go_sem]) rfl ⟨by rw [HV.out], HFIN.out⟩
  · have HV := Lib.hid (show (.tuple #[.int .i64 ((scoV b cs v).1), .int .i64 ((scoV b cs v).2.1), .int .i64 ((scoV b cs v).2.2), .int .i64 (scoC b cs v)] : Value) = .tuple #[.int .i64 0, .int .i64 0, .int .i64 0, .int .i64 (codeH b cs)] by
      have e : scoC b cs v = codeH b cs := by unfold scoC; rw [if_pos hc]
      unfold scoV; rw [e, if_neg hc])
    obtain ⟨cc, hcc⟩ : ∃ cc, cc = codeH b cs := ⟨_, rfl⟩
    rw [← hcc] at HCK hc HV
    have t1 : (cc != 0) = true := by simpa using hc
    clear hcc hr
    go_enter Tryz.func33, Tryz.ntmps33
    go_wp2_with fail
    rw [← hW0]
    clear hW0
    (with_reducible refine (HCK.out W0 HST0.out.below).mono ?_)
    rintro e w1 ⟨rfl, hb1⟩
    have hST1 := HST0.out.call hb1
    have HST1 := Lib.hid hST1
    have k00 := hST1.cell 0 0 rfl rfl
    have k01 := hST1.cell 0 1 rfl rfl
    clear hb1 hST1
    have HFIN := Lib.hid HST1.out.below
    go_wp2
    refine bodyPost_ret (v := .tuple #[.int .i64 0, .int .i64 0, .int .i64 0, .int .i64 cc]) (by simp [results, Tryz.results33, go_sem]) rfl ⟨by rw [HV.out], HFIN.out⟩

set_option maxHeartbeats 2000000 in
set_option maxRecDepth 100000 in
theorem rTotal_any (b : Int) (A : Option Addr) (c : Nat) (cs : List (Int × Int)) (w : World) (hr : Rd w 0 w.heap.size 2 A cs.length (cells2 cs)) (hl : cs.length < 9223372036854775807) (hx : ∀ c ∈ cs, c.1 ≤ 9223372036854775807) :
    Calls Tryz.prog 37 #[.agg #[.int .i64 b, .slice A cs.length c]] w fun e w' => e = .returned (.tuple #[.int .i64 (totV b cs), .int .i64 (codeH b cs)]) ∧ Below w.heap.size w w' := by
  have HCK := Lib.hid (fun (W : World) (hb : Below w.heap.size w W) => rcheck_any b A cs.length c cs W (hr.old hb) (by omega) hx)
  obtain ⟨W0, hW0⟩ : ∃ W0, W0 = w.alloc (.cells #[.int .i64 b, .slice A cs.length c] 53) := ⟨_, rfl⟩
  have HST0 := Lib.hid (show St w W0 [(w.heap.size, .cells #[.int .i64 b, .slice A cs.length c] 53 (0, 0))] by rw [hW0]; exact (St.start w).alloc _ _ rfl)
  by_cases hc : codeH b cs = 0
  · have hg := codeH_zero hc
    have HV := Lib.hid (show (.tuple #[.int .i64 (totV b cs), .int .i64 (codeH b cs)] : Value) = .tuple #[.int .i64 (tot cs), .int .i64 0] by unfold totV; rw [if_pos hc, hc])
    have HTO := Lib.hid (fun (W : World) (hb : Below w.heap.size w W) => rtotal_any b A cs.length c cs W (hr.old hb) (fun c hc => (hg.2.2.2.1 c hc).2) hg.2.2.1)
    rw [hc] at HCK
    clear hg hc hr
    go_enter Tryz.func37, Tryz.ntmps37
    go_wp2_with fail
    rw [← hW0]
    clear hW0
    (with_reducible refine (HCK.out W0 HST0.out.below).mono ?_)
    rintro e w1 ⟨rfl, hb1⟩
    have hST1 := HST0.out.call hb1
    have HST1 := Lib.hid hST1
    have k00 := hST1.cell 0 0 rfl rfl
    have k01 := hST1.cell 0 1 rfl rfl
    clear hb1 hST1
    go_wp2_with fail
    (with_reducible refine (HTO.out w1 HST1.out.below).mono ?_)
    rintro e w2 ⟨rfl, hb2⟩
    have HFIN := Lib.hid (below_next HST1.out.below hb2)
    clear hb2 k00 k01
    go_wp2
    go_ret2
    exact ⟨(congrArg Ending.returned HV.out).symm, HFIN.out⟩
  · have HV := Lib.hid (show (.tuple #[.int .i64 (totV b cs), .int .i64 (codeH b cs)] : Value) = .tuple #[.int .i64 0, .int .i64 (codeH b cs)] by
      unfold totV; rw [if_neg hc])
    obtain ⟨cc, hcc⟩ : ∃ cc, cc = codeH b cs := ⟨_, rfl⟩
    rw [← hcc] at HCK hc HV ⊢
    have t1 : (cc != 0) = true := by simpa using hc
    clear hcc hr
    go_enter Tryz.func37, Tryz.ntmps37
    go_wp2_with fail
    rw [← hW0]
    clear hW0
    (with_reducible refine (HCK.out W0 HST0.out.below).mono ?_)
    rintro e w1 ⟨rfl, hb1⟩
    have hST1 := HST0.out.call hb1
    have HST1 := Lib.hid hST1
    have k00 := hST1.cell 0 0 rfl rfl
    have k01 := hST1.cell 0 1 rfl rfl
    clear hb1 hST1
    have HFIN := Lib.hid HST1.out.below
    go_wp2
    go_ret2
    exact ⟨(congrArg Ending.returned HV.out).symm, HFIN.out⟩

set_option maxHeartbeats 2000000 in
set_option maxRecDepth 100000 in
theorem rBelow_any (b : Int) (A : Option Addr) (c : Nat) (cs : List (Int × Int)) (v : Int) (w : World) (hr : Rd w 0 w.heap.size 2 A cs.length (cells2 cs)) (hl : cs.length < 9223372036854775807) (hx : ∀ c ∈ cs, c.1 ≤ 9223372036854775807) :
    Calls Tryz.prog 41 #[.agg #[.int .i64 b, .slice A cs.length c], .int .i64 v] w fun e w' => e = .returned (.tuple #[.int .i64 ((belV b cs v).1), .int .i64 ((belV b cs v).2), .int .i64 (belC b cs v)]) ∧ Below w.heap.size w w' := by
  have HCK := Lib.hid (fun (W : World) (hb : Below w.heap.size w W) => rcheck_any b A cs.length c cs W (hr.old hb) (by omega) hx)
  obtain ⟨W0, hW0⟩ : ∃ W0, W0 = w.alloc (.cells #[.int .i64 b, .slice A cs.length c] 53) := ⟨_, rfl⟩
  have HST0 := Lib.hid (show St w W0 [(w.heap.size, .cells #[.int .i64 b, .slice A cs.length c] 53 (0, 0))] by rw [hW0]; exact (St.start w).alloc _ _ rfl)
  by_cases hc : codeH b cs = 0
  · have hg := codeH_zero hc
    rw [hc] at HCK
    by_cases h0 : v < 0
    · have HV := Lib.hid (show (.tuple #[.int .i64 ((belV b cs v).1), .int .i64 ((belV b cs v).2), .int .i64 (belC b cs v)] : Value) = .tuple #[.int .i64 0, .int .i64 0, .int .i64 9] by
        have e : belC b cs v = 9 := by unfold belC; rw [if_neg (by omega), if_pos h0]
        unfold belV; rw [e]; rfl)
      have t1 : decide (v < 0) = true := decide_eq_true h0
      clear hg hc hr
      go_enter Tryz.func41, Tryz.ntmps41
      go_wp2_with fail
      rw [← hW0]
      clear hW0
      (with_reducible refine (HCK.out W0 HST0.out.below).mono ?_)
      rintro e w1 ⟨rfl, hb1⟩
      have hST1 := HST0.out.call hb1
      have HST1 := Lib.hid hST1
      have k00 := hST1.cell 0 0 rfl rfl
      have k01 := hST1.cell 0 1 rfl rfl
      clear hb1 hST1
      have HFIN := Lib.hid HST1.out.below
      go_wp2
      refine bodyPost_ret (v := .tuple #[.int .i64 0, .int .i64 0, .int .i64 9]) (by simp [results, Tryz.results41, go_sem]) rfl ⟨by rw [HV.out], HFIN.out⟩
    · by_cases h1 : 1125899906842623 < v
      · have HV := Lib.hid (show (.tuple #[.int .i64 ((belV b cs v).1), .int .i64 ((belV b cs v).2), .int .i64 (belC b cs v)] : Value) = .tuple #[.int .i64 0, .int .i64 0, .int .i64 9] by
          have e : belC b cs v = 9 := by unfold belC; rw [if_neg (by omega), if_neg h0, if_pos h1]
          unfold belV; rw [e]; rfl)
        have t1 : decide (v < 0) = false := decide_eq_false h0
        have t2 : decide (1125899906842623 < v) = true := decide_eq_true h1
        clear hg hc hr
        go_enter Tryz.func41, Tryz.ntmps41
        go_wp2_with fail
        rw [← hW0]
        clear hW0
        (with_reducible refine (HCK.out W0 HST0.out.below).mono ?_)
        rintro e w1 ⟨rfl, hb1⟩
        have hST1 := HST0.out.call hb1
        have HST1 := Lib.hid hST1
        have k00 := hST1.cell 0 0 rfl rfl
        have k01 := hST1.cell 0 1 rfl rfl
        clear hb1 hST1
        have HFIN := Lib.hid HST1.out.below
        go_wp2
        refine bodyPost_ret (v := .tuple #[.int .i64 0, .int .i64 0, .int .i64 9]) (by simp [results, Tryz.results41, go_sem]) rfl ⟨by rw [HV.out], HFIN.out⟩
      · have HV := Lib.hid (show (.tuple #[.int .i64 ((belV b cs v).1), .int .i64 ((belV b cs v).2), .int .i64 (belC b cs v)] : Value) = .tuple #[.int .i64 (leB b v cs), .int .i64 (moB b v cs), .int .i64 0] by
            have e : belC b cs v = 0 := by unfold belC; rw [if_neg (by omega), if_neg h0, if_neg h1]
            unfold belV; rw [if_pos e, e])
        have HBE := Lib.hid (fun (W : World) (hb : Below w.heap.size w W) => rbelow_any b v A c cs W (hr.old hb) hg)
        have t1 : decide (v < 0) = false := decide_eq_false h0
        have t2 : decide (1125899906842623 < v) = false := decide_eq_false h1
        obtain ⟨le, hle⟩ : ∃ z, z = leB b v cs := ⟨_, rfl⟩
        obtain ⟨mo, hmo⟩ : ∃ z, z = moB b v cs := ⟨_, rfl⟩
        rw [← hle, ← hmo] at HBE HV
        clear hg hc hr hle hmo
        go_enter Tryz.func41, Tryz.ntmps41
        go_wp2_with fail
        rw [← hW0]
        clear hW0
        (with_reducible refine (HCK.out W0 HST0.out.below).mono ?_)
        rintro e w1 ⟨rfl, hb1⟩
        have hST1 := HST0.out.call hb1
        have HST1 := Lib.hid hST1
        have k00 := hST1.cell 0 0 rfl rfl
        have k01 := hST1.cell 0 1 rfl rfl
        clear hb1 hST1
        go_wp2_with fail
        (with_reducible refine (HBE.out w1 HST1.out.below).mono ?_)
        rintro e w2 ⟨rfl, hb2⟩
        have HFIN := Lib.hid (below_next HST1.out.below hb2)
        clear hb2 k00 k01
        go_wp2
        refine bodyPost_ret (v := .tuple #[.int .i64 le, .int .i64 mo, .int .i64 0]) (by simp [results, Tryz.results41, go_sem]) rfl ⟨by rw [HV.out], HFIN.out⟩
  · have HV := Lib.hid (show (.tuple #[.int .i64 ((belV b cs v).1), .int .i64 ((belV b cs v).2), .int .i64 (belC b cs v)] : Value) = .tuple #[.int .i64 0, .int .i64 0, .int .i64 (codeH b cs)] by
      have e : belC b cs v = codeH b cs := by unfold belC; rw [if_pos hc]
      unfold belV; rw [e, if_neg hc])
    obtain ⟨cc, hcc⟩ : ∃ cc, cc = codeH b cs := ⟨_, rfl⟩
    rw [← hcc] at HCK hc HV
    have t1 : (cc != 0) = true := by simpa using hc
    clear hcc hr
    go_enter Tryz.func41, Tryz.ntmps41
    go_wp2_with fail
    rw [← hW0]
    clear hW0
    (with_reducible refine (HCK.out W0 HST0.out.below).mono ?_)
    rintro e w1 ⟨rfl, hb1⟩
    have hST1 := HST0.out.call hb1
    have HST1 := Lib.hid hST1
    have k00 := hST1.cell 0 0 rfl rfl
    have k01 := hST1.cell 0 1 rfl rfl
    clear hb1 hST1
    have HFIN := Lib.hid HST1.out.below
    go_wp2
    refine bodyPost_ret (v := .tuple #[.int .i64 0, .int .i64 0, .int .i64 cc]) (by simp [results, Tryz.results41, go_sem]) rfl ⟨by rw [HV.out], HFIN.out⟩

set_option maxHeartbeats 2000000 in
set_option maxRecDepth 100000 in
theorem rScore_any (b : Int) (A : Option Addr) (c : Nat) (cs : List (Int × Int)) (v : Int) (w : World) (hr : Rd w 0 w.heap.size 2 A cs.length (cells2 cs)) (hl : cs.length < 9223372036854775807) (hx : ∀ c ∈ cs, c.1 ≤ 9223372036854775807) :
    Calls Tryz.prog 34 #[.agg #[.int .i64 b, .slice A cs.length c], .int .i64 v] w fun e w' => e = .returned (.tuple #[.int .i64 ((scoV b cs v).1), .int .i64 ((scoV b cs v).2.1), .int .i64 ((scoV b cs v).2.2), .int .i64 (scoC b cs v)]) ∧ Below w.heap.size w w' := by
  have HCK := Lib.hid (fun (W : World) (hb : Below w.heap.size w W) => rcheck_any b A cs.length c cs W (hr.old hb) (by omega) hx)
  obtain ⟨W0, hW0⟩ : ∃ W0, W0 = w.alloc (.cells #[.int .i64 b, .slice A cs.length c] 53) := ⟨_, rfl⟩
  have HST0 := Lib.hid (show St w W0 [(w.heap.size, .cells #[.int .i64 b, .slice A cs.length c] 53 (0, 0))] by rw [hW0]; exact (St.start w).alloc _ _ rfl)
  by_cases hc : codeH b cs = 0
  · have hg := codeH_zero hc
    rw [hc] at HCK
    by_cases h0 : v < 0
    · have HV := Lib.hid (show (.tuple #[.int .i64 ((scoV b cs v).1), .int .i64 ((scoV b cs v).2.1), .int .i64 ((scoV b cs v).2.2), .int .i64 (scoC b cs v)] : Value) = .tuple #[.int .i64 0, .int .i64 0, .int .i64 0, .int .i64 9] by
        have e : scoC b cs v = 9 := by unfold scoC; rw [if_neg (by omega), if_pos h0]
        unfold scoV; rw [e]; rfl)
      have t1 : decide (v < 0) = true := decide_eq_true h0
      clear hg hc hr
      go_enter Tryz.func34, Tryz.ntmps34
      go_wp2_with fail
      rw [← hW0]
      clear hW0
      (with_reducible refine (HCK.out W0 HST0.out.below).mono ?_)
      rintro e w1 ⟨rfl, hb1⟩
      have hST1 := HST0.out.call hb1
      have HST1 := Lib.hid hST1
      have k00 := hST1.cell 0 0 rfl rfl
      have k01 := hST1.cell 0 1 rfl rfl
      clear hb1 hST1
      have HFIN := Lib.hid HST1.out.below
      go_wp2
      refine bodyPost_ret (v := .tuple #[.int .i64 0, .int .i64 0, .int .i64 0, .int .i64 9]) (by simp [results, Tryz.results34, go_sem]) rfl ⟨by rw [HV.out], HFIN.out⟩
    · by_cases h1 : 281474976710655 < v
      · have HV := Lib.hid (show (.tuple #[.int .i64 ((scoV b cs v).1), .int .i64 ((scoV b cs v).2.1), .int .i64 ((scoV b cs v).2.2), .int .i64 (scoC b cs v)] : Value) = .tuple #[.int .i64 0, .int .i64 0, .int .i64 0, .int .i64 9] by
          have e : scoC b cs v = 9 := by unfold scoC; rw [if_neg (by omega), if_neg h0, if_pos h1]
          unfold scoV; rw [e]; rfl)
        have t1 : decide (v < 0) = false := decide_eq_false h0
        have t2 : decide (281474976710655 < v) = true := decide_eq_true h1
        clear hg hc hr
        go_enter Tryz.func34, Tryz.ntmps34
        go_wp2_with fail
        rw [← hW0]
        clear hW0
        (with_reducible refine (HCK.out W0 HST0.out.below).mono ?_)
        rintro e w1 ⟨rfl, hb1⟩
        have hST1 := HST0.out.call hb1
        have HST1 := Lib.hid hST1
        have k00 := hST1.cell 0 0 rfl rfl
        have k01 := hST1.cell 0 1 rfl rfl
        clear hb1 hST1
        have HFIN := Lib.hid HST1.out.below
        go_wp2
        refine bodyPost_ret (v := .tuple #[.int .i64 0, .int .i64 0, .int .i64 0, .int .i64 9]) (by simp [results, Tryz.results34, go_sem]) rfl ⟨by rw [HV.out], HFIN.out⟩
      · have HV := Lib.hid (show (.tuple #[.int .i64 ((scoV b cs v).1), .int .i64 ((scoV b cs v).2.1), .int .i64 ((scoV b cs v).2.2), .int .i64 (scoC b cs v)] : Value) = .tuple #[.int .i64 (leB b v cs), .int .i64 (leB b (4 * v) cs - leB b v cs), .int .i64 (tot cs), .int .i64 0] by
            have e : scoC b cs v = 0 := by unfold scoC; rw [if_neg (by omega), if_neg h0, if_neg h1]
            unfold scoV; rw [if_pos e, e])
        have HBE := Lib.hid (fun (W : World) (hb : Below w.heap.size w W) => rbelow_any b v A c cs W (hr.old hb) hg)
        have HBF := Lib.hid (fun (W : World) (hb : Below w.heap.size w W) => rbelow_any b (4 * v) A c cs W (hr.old hb) hg)
        have HTO := Lib.hid (fun (W : World) (hb : Below w.heap.size w W) => rtotal_any b A cs.length c cs W (hr.old hb) (fun c hc => (hg.2.2.2.1 c hc).2) hg.2.2.1)
        have l1 := belB_bd (v := v) hg
        have l2 := belB_bd (v := 4 * v) hg
        have l3 := hg.2.2.2.2.2
        have t1 : decide (v < 0) = false := decide_eq_false h0
        have t2 : decide (281474976710655 < v) = false := decide_eq_false h1
        obtain ⟨le, hle⟩ : ∃ z, z = leB b v cs := ⟨_, rfl⟩
        obtain ⟨mo, hmo⟩ : ∃ z, z = moB b v cs := ⟨_, rfl⟩
        obtain ⟨le4, hle4⟩ : ∃ z, z = leB b (4 * v) cs := ⟨_, rfl⟩
        obtain ⟨mo4, hmo4⟩ : ∃ z, z = moB b (4 * v) cs := ⟨_, rfl⟩
        obtain ⟨tt, htt⟩ : ∃ z, z = tot cs := ⟨_, rfl⟩
        rw [← hle, ← hmo] at HBE l1
        rw [← hle4, ← hmo4] at HBF l2
        rw [← hle, ← hle4, ← htt] at HV
        rw [← htt] at HTO l1 l2 l3
        clear hg hc hr hle hmo hle4 hmo4 htt
        go_enter Tryz.func34, Tryz.ntmps34
        go_wp2_with fail
        rw [← hW0]
        clear hW0
        (with_reducible refine (HCK.out W0 HST0.out.below).mono ?_)
        rintro e w1 ⟨rfl, hb1⟩
        have hST1 := HST0.out.call hb1
        have HST1 := Lib.hid hST1
        have k00 := hST1.cell 0 0 rfl rfl
        have k01 := hST1.cell 0 1 rfl rfl
        clear hb1 hST1
        go_wp2_with fail
        (with_reducible refine (HBE.out w1 HST1.out.below).mono ?_)
        rintro e w2 ⟨rfl, hb2⟩
        have hST2 := HST1.out.call hb2
        have HST2 := Lib.hid hST2
        have k00 := hST2.cell 0 0 rfl rfl
        have k01 := hST2.cell 0 1 rfl rfl
        clear hb2 hST2
        go_wp2_with fail
        (with_reducible refine (HBF.out w2 HST2.out.below).mono ?_)
        rintro e w3 ⟨rfl, hb3⟩
        have hST3 := HST2.out.call hb3
        have HST3 := Lib.hid hST3
        have k00 := hST3.cell 0 0 rfl rfl
        have k01 := hST3.cell 0 1 rfl rfl
        clear hb3 hST3
        go_wp2_with fail
        (with_reducible refine (HTO.out w3 HST3.out.below).mono ?_)
        rintro e w4 ⟨rfl, hb4⟩
        have HFIN := Lib.hid (below_next HST3.out.below hb4)
        clear hb4 k00 k01
        go_wp2
        refine bodyPost_ret (v := .tuple #[.int .i64 le, .int .i64 (le4 - le), .int .i64 tt, .int .i64 0]) (by simp [results, Tryz.results34, go_sem]) rfl ⟨by rw [HV.out], HFIN.out⟩
  · have HV := Lib.hid (show (.tuple #[.int .i64 ((scoV b cs v).1), .int .i64 ((scoV b cs v).2.1), .int .i64 ((scoV b cs v).2.2), .int .i64 (scoC b cs v)] : Value) = .tuple #[.int .i64 0, .int .i64 0, .int .i64 0, .int .i64 (codeH b cs)] by
      have e : scoC b cs v = codeH b cs := by unfold scoC; rw [if_pos hc]
      unfold scoV; rw [e, if_neg hc])
    obtain ⟨cc, hcc⟩ : ∃ cc, cc = codeH b cs := ⟨_, rfl⟩
    rw [← hcc] at HCK hc HV
    have t1 : (cc != 0) = true := by simpa using hc
    clear hcc hr
    go_enter Tryz.func34, Tryz.ntmps34
    go_wp2_with fail
    rw [← hW0]
    clear hW0
    (with_reducible refine (HCK.out W0 HST0.out.below).mono ?_)
    rintro e w1 ⟨rfl, hb1⟩
    have hST1 := HST0.out.call hb1
    have HST1 := Lib.hid hST1
    have k00 := hST1.cell 0 0 rfl rfl
    have k01 := hST1.cell 0 1 rfl rfl
    clear hb1 hST1
    have HFIN := Lib.hid HST1.out.below
    go_wp2
    refine bodyPost_ret (v := .tuple #[.int .i64 0, .int .i64 0, .int .i64 0, .int .i64 cc]) (by simp [results, Tryz.results34, go_sem]) rfl ⟨by rw [HV.out], HFIN.out⟩
end Go.Proofs.YtepfmoaihhonlaaGreatDoor
