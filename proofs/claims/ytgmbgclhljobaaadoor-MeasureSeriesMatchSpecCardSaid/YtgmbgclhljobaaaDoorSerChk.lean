/- CheckSeries and bitsOf, of the program and of the reference. -/
import Derived.Test.YtgmbgclhljobaaaDoorSer
import Derived.Test.YtgmbgclhljobaaaDoorRChk
import Derived.Test.YtgmbgclhljobaaaDoorSum
namespace Go.Proofs.YtgmbgclhljobaaaDoor
open Go Go.RowKit Go.Proofs

def b0L (l : List Hg) : Int := (l.headD default).b
def codeCell (b0 : Int) (h : Hg) : Int := if codeH h.b h.cs ≠ 0 then codeH h.b h.cs else if h.b ≠ b0 then 2 else 0
def badW (W : Int) : Prop := W < 1 ∨ 1000000000000 < W
instance (W : Int) : Decidable (badW W) := by unfold badW; infer_instance
/-- what CheckSeries returns -/
def codeSer (W : Int) (l : List Hg) : Int := if badW W then 9 else if 2000 < l.length then 3 else ((l.find? (fun h => codeCell (b0L l) h != 0)).map (codeCell (b0L l))).getD 0
theorem codeSer_at {W : Int} {l : List Hg} {k : Nat} {s : Hg} (hW : ¬ badW W) (hn : ¬ 2000 < l.length) (hs : l[k]? = some s) (ho : ∀ x ∈ l.take k, codeCell (b0L l) x = 0) (hb : codeCell (b0L l) s ≠ 0) : codeSer W l = codeCell (b0L l) s := by
  unfold codeSer; rw [if_neg hW, if_neg hn]
  have hk := (List.getElem?_eq_some_iff.1 hs)
  have e : l = l.take k ++ s :: l.drop (k + 1) := by
    conv => lhs; rw [← List.take_append_drop k l, List.drop_eq_getElem_cons hk.1, hk.2]
  have h1 : (l.take k).find? (fun s => codeCell (b0L l) s != 0) = none := by
    rw [List.find?_eq_none]; intro x hx; simp [ho x hx]
  have h2 : l.find? (fun s => codeCell (b0L l) s != 0) = some s := by
    conv => lhs; arg 2; rw [e]
    rw [List.find?_append, h1]
    simp [hb]
  rw [h2]; rfl
theorem codeSer_end {W : Int} {l : List Hg} (hW : ¬ badW W) (hn : ¬ 2000 < l.length) (ho : ∀ x ∈ l, codeCell (b0L l) x = 0) : codeSer W l = 0 := by
  unfold codeSer; rw [if_neg hW, if_neg hn]
  have h1 : l.find? (fun s => codeCell (b0L l) s != 0) = none := by
    rw [List.find?_eq_none]; intro x hx; simp [ho x hx]
  rw [h1]; rfl
theorem codeSer_zero {W : Int} {l : List Hg} (h : codeSer W l = 0) : ¬ badW W ∧ l.length ≤ 2000 ∧ ∀ x ∈ l, Good x.b x.cs ∧ x.b = b0L l := by
  unfold codeSer at h
  split at h
  · omega
  · rename_i hW
    split at h
    · omega
    · refine ⟨hW, by omega, fun s hs => ?_⟩
      cases hf : l.find? (fun s => codeCell (b0L l) s != 0) with
      | some x =>
        rw [hf] at h
        have := List.find?_some hf
        simp at this h
        exact absurd h this
      | none =>
        rw [List.find?_eq_none] at hf
        have := hf s hs
        simp at this
        unfold codeCell at this
        split at this
        · rename_i h1; exact absurd this h1
        · rename_i h1
          split at this
          · omega
          · rename_i h2
            exact ⟨codeH_zero (by omega), by omega⟩
theorem b0L_get {l : List Hg} {s : Hg} (h : l[0]? = some s) : b0L l = s.b := by
  cases l with
  | nil => simp at h
  | cons x l => simp at h; subst h; rfl
def bitsL (l : List Hg) : Int := if l.length = 0 then 8 else b0L l

set_option maxHeartbeats 2000000 in
set_option maxRecDepth 100000 in
theorem CheckSeries_any (W : Int) (A : Option Addr) (c : Nat) (l : List Hg) (w : World) (hr : HgR w w.heap.size A l.length l) (hn : l.length < 9223372036854775807) (hcs : ∀ h ∈ l, h.cs.length < 9223372036854775807 ∧ ∀ q ∈ h.cs, q.1 ≤ 9223372036854775807) :
    Calls Tryd.prog 31 #[.agg #[.int .i64 W, .slice A l.length c]] w fun e w' => e = .returned (.int .i64 (codeSer W l)) ∧ Below w.heap.size w w' := by
  have HR := Lib.hid hr
  have HCS := Lib.hid hcs
  clear hr hcs
  obtain ⟨W0, hW0⟩ : ∃ W0, W0 = w.alloc (.cells #[.int .i64 W, .slice A l.length c] 49) := ⟨_, rfl⟩
  have HST0 := Lib.hid (show St w W0 [(w.heap.size, .cells #[.int .i64 W, .slice A l.length c] 49 (0, 0))] by rw [hW0]; exact (St.start w).alloc _ _ rfl)
  by_cases hb : badW W
  · have HC := Lib.hid (show codeSer W l = 9 by unfold codeSer; rw [if_pos hb])
    by_cases d1 : W < 1
    · have d1' : decide (W < 1) = true := by simpa using d1
      go_enter Tryd.func31, Tryd.ntmps31
      go_wp2
      go_ret
      exact ⟨by rw [HC.out]; rfl, (Below.refl _ w).alloc (Nat.le_refl _) _⟩
    · have d1' : decide (W < 1) = false := by simpa using d1
      have d2' : decide (1000000000000 < W) = true := by unfold badW at hb; simp; omega
      go_enter Tryd.func31, Tryd.ntmps31
      go_wp2
      go_ret
      exact ⟨by rw [HC.out]; rfl, (Below.refl _ w).alloc (Nat.le_refl _) _⟩
  · have d1' : decide (W < 1) = false := by unfold badW at hb; simp; omega
    have d2' : decide (1000000000000 < W) = false := by unfold badW at hb; simp; omega
    by_cases h2 : 2000 < l.length
    · have HC := Lib.hid (show codeSer W l = 3 by unfold codeSer; rw [if_neg hb, if_pos h2])
      go_enter Tryd.func31, Tryd.ntmps31
      go_wp2
      go_ret
      exact ⟨by rw [HC.out]; rfl, (Below.refl _ w).alloc (Nat.le_refl _) _⟩
    · go_enter Tryd.func31, Tryd.ntmps31
      go_wp2
      rw [← hW0]
      clear hW0
      go_loopw [4, 5, 23] (fun _ _ i wr => ∃ k : Nat, k ≤ l.length ∧ i = .int .i64 k ∧ (∀ s ∈ l.take k, codeCell (b0L l) s = 0) ∧ Below W0.heap.size W0 wr) (fun _ _ i _ => l.length - (intOf i).toNat)
      case atStart => exact ⟨0, Nat.zero_le _, rfl, by simp, Below.refl _ _⟩
      case round =>
        obtain ⟨k, hk, rfl, hok, hbw⟩ := hrel
        have HOK := Lib.hid hok
        have HBW := Lib.hid hbw
        have hsw := hbw.size
        have hsz0 := HST0.out.lt 0 rfl
        have k0 : wr.cell? ⟨w.heap.size, 0, none⟩ = some (.int .i64 W) := (HST0.out.call hbw).cell 0 0 rfl rfl
        have k1 : wr.cell? ⟨w.heap.size, 1, none⟩ = some (.slice A l.length c) := (HST0.out.call hbw).cell 0 1 rfl rfl
        have HBO := Lib.hid (HST0.out.old hbw)
        clear hok hbw
        by_cases hlt : k < l.length
        · have hr' := HR.out.old HBO.out
          obtain ⟨bk, o, ⟨sb, sA, sc, cs⟩, rfl, hbk, hs, c0, c1, hrd⟩ := hr'.at hlt
          obtain ⟨bk', o', s0, e, hbk0, hs0, c00, _, _⟩ := hr'.at (show 0 < l.length by omega)
          cases e
          simp only [Nat.zero_mul, Nat.add_zero] at c00
          rw [← b0L_get hs0] at c00
          simp only at c0 c1 hrd
          obtain ⟨hn1, hx1⟩ := HCS.out _ (List.mem_of_getElem? hs)
          simp only at hn1 hx1
          have HS := Lib.hid hs
          have HX := Lib.hid hx1
          have HRD := Lib.hid hrd
          have hbkw : bk < w.heap.size := by
            obtain ⟨b1, o1, e1, _, h1, _⟩ := HR.out.1.2 (by omega)
            cases e1; exact h1
          clear hr' hs hs0 hx1 hrd
          have hne : bk ≠ wr.heap.size := by omega
          obtain ⟨W2, hW2⟩ : ∃ W2, W2 = wr.alloc (.cells #[.int .i64 sb, .slice sA cs.length sc] 24) := ⟨_, rfl⟩
          have hbW2 : Below wr.heap.size wr W2 := by rw [hW2]; exact (Below.refl _ wr).alloc (Nat.le_refl _) _
          have HST2 := Lib.hid (show St wr W2 [(wr.heap.size, .cells #[.int .i64 sb, .slice sA cs.length sc] 24 (0, 0))] by rw [hW2]; exact (St.start wr).alloc _ _ rfl)
          go_wp2_with fail
          rw [← hW2]
          clear hW2
          refine (check_any sb sA cs.length sc cs W2 (HRD.out.old hbW2) hn1).mono ?_
          rintro e w1 ⟨rfl, hb1⟩
          have HB1 := Lib.hid (show Below W0.heap.size W0 w1 from below_next HBW.out (below_next hbW2 hb1))
          have hs1 : wr.heap.size ≤ w1.heap.size := (below_next hbW2 hb1).size
          have j1 : w1.cell? ⟨w.heap.size, 1, none⟩ = some (.slice (some ⟨bk, o, none⟩) l.length c) := (HST0.out.call HB1.out).cell 0 1 rfl rfl
          have q0 : w1.cell? ⟨bk, o + k * 2, none⟩ = some (.int .i64 sb) := ((below_next hbW2 hb1).cell (p := ⟨bk, o + k * 2, none⟩) (by omega)).trans c0
          have q00 : w1.cell? ⟨bk, o, none⟩ = some (.int .i64 (b0L l)) := ((below_next hbW2 hb1).cell (p := ⟨bk, o, none⟩) (by omega)).trans c00
          have m0 : w1.cell? ⟨wr.heap.size, 0, none⟩ = some (.int .i64 sb) := (HST2.out.call hb1).cell 0 0 rfl rfl
          clear hb1 k0 k1 c0 c1 c00
          by_cases hc : codeH sb cs = 0
          · by_cases he : sb = b0L l
            · have te : (sb != b0L l) = false := by simp [he]
              have te' : (sb == b0L l) = true := by simp [he]
              have HN := Lib.hid (show codeCell (b0L l) ⟨sb, sA, sc, cs⟩ = 0 by unfold codeCell; rw [if_neg (not_not_intro hc), if_neg (not_not_intro he)])
              rw [hc]
              clear he
              go_wp2
              go_quiet (fail)
              go_wp2
              go_roundw
              case rel => exact ⟨k + 1, by omega, by go_num, fun s hs => by
                            rw [List.take_add_one, HS.out] at hs
                            simp only [Option.toList_some, List.mem_append, List.mem_singleton] at hs
                            rcases hs with hs | rfl
                            · exact HOK.out s hs
                            · exact HN.out, by first | exact HB1.out | exact below_drewN HB1.out _⟩
              case measure => simp [intOf]; omega
            · have te : (sb != b0L l) = true := by simpa using he
              have te' : (sb == b0L l) = false := by simpa using he
              have HC := Lib.hid (show codeSer W l = 2 by
                have e2 : codeCell (b0L l) ⟨sb, sA, sc, cs⟩ = 2 := by unfold codeCell; rw [if_neg (not_not_intro hc), if_pos he]
                rw [codeSer_at hb h2 HS.out HOK.out (by rw [e2]; omega), e2])
              rw [hc]
              clear he
              go_wp2
              go_quiet (fail)
              go_wp2
              go_ret
              exact ⟨by rw [HC.out]; rfl, by first | exact HST0.out.old HB1.out | exact below_drewN (HST0.out.old HB1.out) _⟩
          · have HC := Lib.hid (show codeSer W l = codeH sb cs by
              have e2 : codeCell (b0L l) ⟨sb, sA, sc, cs⟩ = codeH sb cs := by unfold codeCell; rw [if_pos hc]
              rw [codeSer_at hb h2 HS.out HOK.out (by rw [e2]; exact hc), e2])
            generalize codeH sb cs = cd at *
            have tc : (cd == 0) = false := by simpa using hc
            have tc' : (cd != 0) = true := by simpa using hc
            go_wp2
            go_ret
            exact ⟨by rw [HC.out]; rfl, HST0.out.old HB1.out⟩
        · have HC := Lib.hid (show codeSer W l = 0 from codeSer_end hb h2 (by have := HOK.out; rwa [List.take_of_length_le (by omega)] at this))
          go_wp2
          go_ret
          exact ⟨by rw [HC.out]; rfl, HBO.out⟩

set_option maxHeartbeats 2000000 in
set_option maxRecDepth 100000 in
theorem RCheckSeries_any (W : Int) (A : Option Addr) (c : Nat) (l : List Hg) (w : World) (hr : HgR w w.heap.size A l.length l) (hn : l.length < 9223372036854775807) (hcs : ∀ h ∈ l, h.cs.length < 9223372036854775807 ∧ ∀ q ∈ h.cs, q.1 ≤ 9223372036854775807) :
    Calls Tryd.prog 32 #[.agg #[.int .i64 W, .slice A l.length c]] w fun e w' => e = .returned (.int .i64 (codeSer W l)) ∧ Below w.heap.size w w' := by
  have HR := Lib.hid hr
  have HCS := Lib.hid hcs
  clear hr hcs
  obtain ⟨W0, hW0⟩ : ∃ W0, W0 = w.alloc (.cells #[.int .i64 W, .slice A l.length c] 49) := ⟨_, rfl⟩
  have HST0 := Lib.hid (show St w W0 [(w.heap.size, .cells #[.int .i64 W, .slice A l.length c] 49 (0, 0))] by rw [hW0]; exact (St.start w).alloc _ _ rfl)
  by_cases hb : badW W
  · have HC := Lib.hid (show codeSer W l = 9 by unfold codeSer; rw [if_pos hb])
    by_cases d1 : W < 1
    · have d1' : decide (W < 1) = true := by simpa using d1
      go_enter Tryd.func32, Tryd.ntmps32
      go_wp2
      go_ret
      exact ⟨by rw [HC.out]; rfl, (Below.refl _ w).alloc (Nat.le_refl _) _⟩
    · have d1' : decide (W < 1) = false := by simpa using d1
      have d2' : decide (1000000000000 < W) = true := by unfold badW at hb; simp; omega
      go_enter Tryd.func32, Tryd.ntmps32
      go_wp2
      go_ret
      exact ⟨by rw [HC.out]; rfl, (Below.refl _ w).alloc (Nat.le_refl _) _⟩
  · have d1' : decide (W < 1) = false := by unfold badW at hb; simp; omega
    have d2' : decide (1000000000000 < W) = false := by unfold badW at hb; simp; omega
    by_cases h2 : 2000 < l.length
    · have HC := Lib.hid (show codeSer W l = 3 by unfold codeSer; rw [if_neg hb, if_pos h2])
      go_enter Tryd.func32, Tryd.ntmps32
      go_wp2
      go_ret
      exact ⟨by rw [HC.out]; rfl, (Below.refl _ w).alloc (Nat.le_refl _) _⟩
    · go_enter Tryd.func32, Tryd.ntmps32
      go_wp2
      rw [← hW0]
      clear hW0
      go_loopw [3, 4] (fun i _ wr => ∃ k : Nat, k ≤ l.length ∧ i = .int .i64 k ∧ (∀ s ∈ l.take k, codeCell (b0L l) s = 0) ∧ Below W0.heap.size W0 wr) (fun i _ _ => l.length - (intOf i).toNat)
      case atStart => exact ⟨0, Nat.zero_le _, rfl, by simp, Below.refl _ _⟩
      case round =>
        obtain ⟨k, hk, rfl, hok, hbw⟩ := hrel
        have HOK := Lib.hid hok
        have HBW := Lib.hid hbw
        have hsw := hbw.size
        have hsz0 := HST0.out.lt 0 rfl
        have k0 : wr.cell? ⟨w.heap.size, 0, none⟩ = some (.int .i64 W) := (HST0.out.call hbw).cell 0 0 rfl rfl
        have k1 : wr.cell? ⟨w.heap.size, 1, none⟩ = some (.slice A l.length c) := (HST0.out.call hbw).cell 0 1 rfl rfl
        have HBO := Lib.hid (HST0.out.old hbw)
        clear hok hbw
        by_cases hlt : k < l.length
        · have hr' := HR.out.old HBO.out
          obtain ⟨bk, o, ⟨sb, sA, sc, cs⟩, rfl, hbk, hs, c0, c1, hrd⟩ := hr'.at hlt
          obtain ⟨bk', o', s0, e, hbk0, hs0, c00, _, _⟩ := hr'.at (show 0 < l.length by omega)
          cases e
          simp only [Nat.zero_mul, Nat.add_zero] at c00
          rw [← b0L_get hs0] at c00
          simp only at c0 c1 hrd
          obtain ⟨hn1, hx1⟩ := HCS.out _ (List.mem_of_getElem? hs)
          simp only at hn1 hx1
          have HS := Lib.hid hs
          have HX := Lib.hid hx1
          have HRD := Lib.hid hrd
          have hbkw : bk < w.heap.size := by
            obtain ⟨b1, o1, e1, _, h1, _⟩ := HR.out.1.2 (by omega)
            cases e1; exact h1
          clear hr' hs hs0 hx1 hrd
          have hne : bk ≠ wr.heap.size := by omega
          skip
          go_wp2_with fail
          skip
          refine (rcheck_any sb sA cs.length sc cs wr HRD.out hn1 HX.out).mono ?_
          rintro e w1 ⟨rfl, hb1⟩
          have HB1 := Lib.hid (show Below W0.heap.size W0 w1 from below_next HBW.out (hb1))
          have hs1 : wr.heap.size ≤ w1.heap.size := (hb1).size
          have j1 : w1.cell? ⟨w.heap.size, 1, none⟩ = some (.slice (some ⟨bk, o, none⟩) l.length c) := (HST0.out.call HB1.out).cell 0 1 rfl rfl
          have q0 : w1.cell? ⟨bk, o + k * 2, none⟩ = some (.int .i64 sb) := ((hb1).cell (p := ⟨bk, o + k * 2, none⟩) (by omega)).trans c0
          have q00 : w1.cell? ⟨bk, o, none⟩ = some (.int .i64 (b0L l)) := ((hb1).cell (p := ⟨bk, o, none⟩) (by omega)).trans c00
          skip
          clear hb1 k0 k1 c0 c1 c00
          by_cases hc : codeH sb cs = 0
          · by_cases he : sb = b0L l
            · have te : (sb != b0L l) = false := by simp [he]
              have te' : (sb == b0L l) = true := by simp [he]
              have HN := Lib.hid (show codeCell (b0L l) ⟨sb, sA, sc, cs⟩ = 0 by unfold codeCell; rw [if_neg (not_not_intro hc), if_neg (not_not_intro he)])
              rw [hc]
              clear he
              go_wp2
              go_quiet (fail)
              go_wp2
              go_roundw
              case rel => exact ⟨k + 1, by omega, by go_num, fun s hs => by
                            rw [List.take_add_one, HS.out] at hs
                            simp only [Option.toList_some, List.mem_append, List.mem_singleton] at hs
                            rcases hs with hs | rfl
                            · exact HOK.out s hs
                            · exact HN.out, by first | exact HB1.out | exact below_drewN HB1.out _⟩
              case measure => simp [intOf]; omega
            · have te : (sb != b0L l) = true := by simpa using he
              have te' : (sb == b0L l) = false := by simpa using he
              have HC := Lib.hid (show codeSer W l = 2 by
                have e2 : codeCell (b0L l) ⟨sb, sA, sc, cs⟩ = 2 := by unfold codeCell; rw [if_neg (not_not_intro hc), if_pos he]
                rw [codeSer_at hb h2 HS.out HOK.out (by rw [e2]; omega), e2])
              rw [hc]
              clear he
              go_wp2
              go_quiet (fail)
              go_wp2
              go_ret
              exact ⟨by rw [HC.out]; rfl, by first | exact HST0.out.old HB1.out | exact below_drewN (HST0.out.old HB1.out) _⟩
          · have HC := Lib.hid (show codeSer W l = codeH sb cs by
              have e2 : codeCell (b0L l) ⟨sb, sA, sc, cs⟩ = codeH sb cs := by unfold codeCell; rw [if_pos hc]
              rw [codeSer_at hb h2 HS.out HOK.out (by rw [e2]; exact hc), e2])
            generalize codeH sb cs = cd at *
            have tc : (cd == 0) = false := by simpa using hc
            have tc' : (cd != 0) = true := by simpa using hc
            go_wp2
            go_ret
            exact ⟨by rw [HC.out]; rfl, HST0.out.old HB1.out⟩
        · have HC := Lib.hid (show codeSer W l = 0 from codeSer_end hb h2 (by have := HOK.out; rwa [List.take_of_length_le (by omega)] at this))
          go_wp2
          go_ret
          exact ⟨by rw [HC.out]; rfl, HBO.out⟩

theorem bitsOf_any (W : Int) (A : Option Addr) (c : Nat) (l : List Hg) (w : World) (hr : HgR w w.heap.size A l.length l) :
    Calls Tryd.prog 73 #[.agg #[.int .i64 W, .slice A l.length c]] w fun e w' => e = .returned (.int .i64 (bitsL l)) ∧ Below w.heap.size w w' := by
  by_cases h0 : l.length = 0
  · have HC := Lib.hid (show bitsL l = 8 by unfold bitsL; rw [if_pos h0])
    rw [h0]
    clear hr h0
    go_enter Tryd.func73, Tryd.ntmps73
    go_wp2
    go_ret
    exact ⟨by rw [HC.out]; rfl, (Below.refl _ w).alloc (Nat.le_refl _) _⟩
  · have HC := Lib.hid (show bitsL l = b0L l by unfold bitsL; rw [if_neg h0])
    obtain ⟨bk, o, s0, rfl, hbk, hs0, c00, _, _⟩ := hr.at (show 0 < l.length by omega)
    simp only [Nat.zero_mul, Nat.add_zero] at c00
    rw [← b0L_get hs0] at c00
    clear hr hs0
    have hne : bk ≠ w.heap.size := by omega
    generalize l.length = n at *
    generalize b0L l = b0 at *
    have t0 : ((n : Int) == 0) = false := by simp; omega
    have t1 : (0 : Int) < (n : Int) := by omega
    have t2 : 0 < n := by omega
    go_enter Tryd.func73, Tryd.ntmps73
    go_wp2
    go_ret
    exact ⟨by rw [HC.out]; rfl, (Below.refl _ w).alloc (Nat.le_refl _) _⟩

theorem RbitsOf_any (W : Int) (A : Option Addr) (c : Nat) (l : List Hg) (w : World) (hr : HgR w w.heap.size A l.length l) :
    Calls Tryd.prog 74 #[.agg #[.int .i64 W, .slice A l.length c]] w fun e w' => e = .returned (.int .i64 (bitsL l)) ∧ Below w.heap.size w w' := by
  by_cases h0 : l.length = 0
  · have HC := Lib.hid (show bitsL l = 8 by unfold bitsL; rw [if_pos h0])
    rw [h0]
    clear hr h0
    go_enter Tryd.func74, Tryd.ntmps74
    go_wp2
    go_ret
    exact ⟨by rw [HC.out]; rfl, (Below.refl _ w).alloc (Nat.le_refl _) _⟩
  · have HC := Lib.hid (show bitsL l = b0L l by unfold bitsL; rw [if_neg h0])
    obtain ⟨bk, o, s0, rfl, hbk, hs0, c00, _, _⟩ := hr.at (show 0 < l.length by omega)
    simp only [Nat.zero_mul, Nat.add_zero] at c00
    rw [← b0L_get hs0] at c00
    clear hr hs0
    have hne : bk ≠ w.heap.size := by omega
    generalize l.length = n at *
    generalize b0L l = b0 at *
    have t0 : ((n : Int) == 0) = false := by simp; omega
    have t1 : (0 : Int) < (n : Int) := by omega
    have t2 : 0 < n := by omega
    go_enter Tryd.func74, Tryd.ntmps74
    go_wp2
    go_ret
    exact ⟨by rw [HC.out]; rfl, (Below.refl _ w).alloc (Nat.le_refl _) _⟩
end Go.Proofs.YtgmbgclhljobaaaDoor
