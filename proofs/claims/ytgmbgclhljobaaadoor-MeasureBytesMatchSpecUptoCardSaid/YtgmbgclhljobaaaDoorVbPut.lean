/- put, and the reference's number. -/
import Derived.Test.YtgmbgclhljobaaaDoorVb
namespace Go.Proofs.YtgmbgclhljobaaaDoor
open Go Go.RowKit Go.Proofs Go.Maps

def VbRel (w wr : World) (base : Nat) (bs : List UInt8) (n : Nat) (v : Value) (m : Nat) : Prop :=
  ∃ f pre, 1 ≤ f ∧ f ≤ 10 ∧ m < 128 ^ f ∧ pre ++ vbF f m = vb n ∧ wr.ownsRow base 5 1 v (bs ++ pre).length (Lib.byteCells (bs ++ pre)) ∧ U8Fr base w wr

set_option maxHeartbeats 1000000 in
set_option maxRecDepth 100000 in
theorem putN_any (base n : Nat) (bs : List UInt8) (v : Value) (w : World) (hown : w.ownsRow base 5 1 v bs.length (Lib.byteCells bs)) (hbase : base ≤ w.heap.size) (hn : n ≤ 9223372036854775807) (hl : bs.length ≤ 100000000000) :
    Calls Tryd.prog 64 #[v, .int .i64 n] w fun e w' => ∃ v', e = .returned v' ∧ w'.ownsRow base 5 1 v' (bs ++ vb n).length (Lib.byteCells (bs ++ vb n)) ∧ U8Fr base w w' := by
  obtain ⟨i0, hi0, hz0, hz1, hz2⟩ := info_parts Tryd.info8
  have HO := Lib.hid hown
  have hvl := vb_length n
  clear hown
  go_enter Tryd.func64, Tryd.ntmps64
  go_wp2
  go_loopw [0, 1] (fun v i wr => ∃ m : Nat, i = .int .i64 m ∧ m ≤ n ∧ VbRel w wr base bs n v m) (fun _ i _ => (intOf i).toNat)
  case atStart => exact ⟨n, rfl, Nat.le_refl _, 10, [], by omega, Nat.le_refl _, by omega, rfl, by simpa using HO.out, U8Fr.refl _ _⟩
  case round =>
    obtain ⟨m, rfl, hm, f, pre, hf1, hf, hmf, hpre, hown, hfr⟩ := hrel
    have hpl : pre.length ≤ 10 := by have := congrArg List.length hpre; simp at this; omega
    have HOW := Lib.hid hown
    have HFR := Lib.hid hfr
    have HPRE := Lib.hid hpre
    have hszr := hfr.size
    clear hown hfr hpre
    by_cases hlt : 127 < m
    · have hlt' : decide ((127 : Int) < ↑m) = true := by simp; omega
      obtain ⟨u, hu⟩ : ∃ u : Int, u = bits .or .u8 ((m : Int) % 256) 128 := ⟨_, rfl⟩
      have HU := Lib.hid (show u = ((UInt8.ofNat (128 + m % 128)).toNat : Int) by
        rw [hu]
        have h1 := or128 (m % 256) (by omega)
        rw [show ((m : Int) % 256) = ((m % 256 : Nat) : Int) by omega, h1]
        simp; omega)
      have HUU := Lib.hid hu
      clear hu
      go_wp2_with (at_builtin; refine wpList_append_own _ rfl (.tmp 9) (.tmp 13) 42 rfl base 5 i0 _ 1 1 Tryd.underlying42 hi0 hz0 hz1 hz2 rfl (by decide) _ _ _ rfl (HOW.out.alloc _) ⟨wr.heap.size, 0, none⟩ 1 1 [.int .u8 (bits .or .u8 ((m : Int) % 256) 128)] rfl rfl (cell_one_new _ _ _) (by simp [Value.oneCell']) ?c3 ?c4 ?c5 ?_)
      case c3 => simp only [List.length_append]; unfold maxLen; omega
      case c4 => simp only [List.length_append]; omega
      case c5 => simp; omega
      intro v' w2 hown' hgrow _
      have hnew : VbRel w w2 base bs n v' (m / 128) := by
        cases f with
        | zero => simp at hmf; omega
        | succ f =>
          refine ⟨f, pre ++ [UInt8.ofNat (128 + m % 128)], by
            rcases Nat.eq_zero_or_pos f with h0 | h0
            · subst h0; simp at hmf; omega
            · exact h0, by omega, by rw [Nat.pow_succ] at hmf; omega, ?_, ?_, ?_⟩
          · rw [List.append_assoc, ← HPRE.out]
            congr 1
            rw [vbF, if_neg (by omega)]; rfl
          · rw [← HUU.out, HU.out] at hown'
            rw [← List.append_assoc, byteCells_append, List.length_append]
            simpa [Lib.byteCells] using hown'
          · exact (HFR.out.alloc _).app (HOW.out.alloc _) hgrow
      have HN := Lib.hid hnew
      clear hown' hgrow hnew
      go_wp2
      go_roundw
      case rel => exact ⟨m / 128, by first | rfl | go_num | (simp; done), by omega, HN.out⟩
      case measure => simp [intOf]; omega
    · have hlt' : decide ((127 : Int) < ↑m) = false := by simp; omega
      go_wp2_with (at_builtin; refine wpList_append_own _ rfl (.tmp 15) (.tmp 18) 42 rfl base 5 i0 _ 1 1 Tryd.underlying42 hi0 hz0 hz1 hz2 rfl (by decide) _ _ _ rfl (HOW.out.alloc _) ⟨wr.heap.size, 0, none⟩ 1 1 [.int .u8 m] rfl rfl (cell_one_new _ _ _) (by simp [Value.oneCell']) ?d3 ?d4 ?d5 ?_)
      case d3 => simp only [List.length_append]; unfold maxLen; omega
      case d4 => simp only [List.length_append]; omega
      case d5 => simp; omega
      intro v' w2 hown' hgrow _
      have hfin : w2.ownsRow base 5 1 v' (bs ++ vb n).length (Lib.byteCells (bs ++ vb n)) := by
        cases f with
        | zero => omega
        | succ f =>
          rw [← HPRE.out, vbF, if_pos (by omega), ← List.append_assoc, byteCells_append, List.length_append]
          have e : (m : Int) % 256 = m := by omega
          simpa [Lib.byteCells, e] using hown'
      have HF := Lib.hid hfin
      have HG := Lib.hid ((HFR.out.alloc _).app (HOW.out.alloc _) hgrow)
      clear hown' hgrow hfin
      go_wp2
      go_ret
      exact ⟨_, rfl, HF.out, HG.out⟩

set_option maxHeartbeats 1000000 in
set_option maxRecDepth 100000 in
theorem number_any (base n : Nat) (bs : List UInt8) (v : Value) (w : World) (hown : w.ownsRow base 5 1 v bs.length (Lib.byteCells bs)) (hbase : base ≤ w.heap.size) (hn : n ≤ 9223372036854775807) (hl : bs.length ≤ 100000000000) :
    Calls Tryd.prog 66 #[v, .int .i64 n] w fun e w' => ∃ v', e = .returned v' ∧ w'.ownsRow base 5 1 v' (bs ++ vb n).length (Lib.byteCells (bs ++ vb n)) ∧ U8Fr base w w' := by
  obtain ⟨i0, hi0, hz0, hz1, hz2⟩ := info_parts Tryd.info8
  have HO := Lib.hid hown
  have hvl := vb_length n
  clear hown
  go_enter Tryd.func66, Tryd.ntmps66
  go_wp2
  go_loopw [0, 1] (fun v i wr => ∃ m : Nat, i = .int .i64 m ∧ m ≤ n ∧ VbRel w wr base bs n v m) (fun _ i _ => (intOf i).toNat)
  case atStart => exact ⟨n, rfl, Nat.le_refl _, 10, [], by omega, Nat.le_refl _, by omega, rfl, by simpa using HO.out, U8Fr.refl _ _⟩
  case round =>
    obtain ⟨m, rfl, hm, f, pre, hf1, hf, hmf, hpre, hown, hfr⟩ := hrel
    have hpl : pre.length ≤ 10 := by have := congrArg List.length hpre; simp at this; omega
    have HOW := Lib.hid hown
    have HFR := Lib.hid hfr
    have HPRE := Lib.hid hpre
    have hszr := hfr.size
    clear hown hfr hpre
    by_cases hlt : 128 ≤ m
    · have hlt' : decide ((128 : Int) ≤ ↑m) = true := by simp; omega
      obtain ⟨u, hu⟩ : ∃ u : Int, u = 128 + (m : Int) % 128 := ⟨_, rfl⟩
      have HU := Lib.hid (show u = ((UInt8.ofNat (128 + m % 128)).toNat : Int) by
        rw [hu]
        simp; omega)
      have HUU := Lib.hid hu
      clear hu
      go_wp2_with (at_builtin; refine wpList_append_own _ rfl (.tmp 7) (.tmp 12) 42 rfl base 5 i0 _ 1 1 Tryd.underlying42 hi0 hz0 hz1 hz2 rfl (by decide) _ _ _ rfl (HOW.out.alloc _) ⟨wr.heap.size, 0, none⟩ 1 1 [.int .u8 (128 + (m : Int) % 128)] rfl rfl (cell_one_new _ _ _) (by simp [Value.oneCell']) ?c3 ?c4 ?c5 ?_)
      case c3 => simp only [List.length_append]; unfold maxLen; omega
      case c4 => simp only [List.length_append]; omega
      case c5 => simp; omega
      intro v' w2 hown' hgrow _
      have hnew : VbRel w w2 base bs n v' (m / 128) := by
        cases f with
        | zero => simp at hmf; omega
        | succ f =>
          refine ⟨f, pre ++ [UInt8.ofNat (128 + m % 128)], by
            rcases Nat.eq_zero_or_pos f with h0 | h0
            · subst h0; simp at hmf; omega
            · exact h0, by omega, by rw [Nat.pow_succ] at hmf; omega, ?_, ?_, ?_⟩
          · rw [List.append_assoc, ← HPRE.out]
            congr 1
            rw [vbF, if_neg (by omega)]; rfl
          · rw [← HUU.out, HU.out] at hown'
            rw [← List.append_assoc, byteCells_append, List.length_append]
            simpa [Lib.byteCells] using hown'
          · exact (HFR.out.alloc _).app (HOW.out.alloc _) hgrow
      have HN := Lib.hid hnew
      clear hown' hgrow hnew
      go_wp2
      go_roundw
      case rel => exact ⟨m / 128, by first | rfl | go_num | (simp; done), by omega, HN.out⟩
      case measure => simp [intOf]; omega
    · have hlt' : decide ((128 : Int) ≤ ↑m) = false := by simp; omega
      go_wp2_with (at_builtin; refine wpList_append_own _ rfl (.tmp 16) (.tmp 19) 42 rfl base 5 i0 _ 1 1 Tryd.underlying42 hi0 hz0 hz1 hz2 rfl (by decide) _ _ _ rfl (HOW.out.alloc _) ⟨wr.heap.size, 0, none⟩ 1 1 [.int .u8 m] rfl rfl (cell_one_new _ _ _) (by simp [Value.oneCell']) ?d3 ?d4 ?d5 ?_)
      case d3 => simp only [List.length_append]; unfold maxLen; omega
      case d4 => simp only [List.length_append]; omega
      case d5 => simp; omega
      intro v' w2 hown' hgrow _
      have hfin : w2.ownsRow base 5 1 v' (bs ++ vb n).length (Lib.byteCells (bs ++ vb n)) := by
        cases f with
        | zero => omega
        | succ f =>
          rw [← HPRE.out, vbF, if_pos (by omega), ← List.append_assoc, byteCells_append, List.length_append]
          have e : (m : Int) % 256 = m := by omega
          simpa [Lib.byteCells, e] using hown'
      have HF := Lib.hid hfin
      have HG := Lib.hid ((HFR.out.alloc _).app (HOW.out.alloc _) hgrow)
      clear hown' hgrow hfin
      go_wp2
      go_ret
      exact ⟨_, rfl, HF.out, HG.out⟩
end Go.Proofs.YtgmbgclhljobaaaDoor
