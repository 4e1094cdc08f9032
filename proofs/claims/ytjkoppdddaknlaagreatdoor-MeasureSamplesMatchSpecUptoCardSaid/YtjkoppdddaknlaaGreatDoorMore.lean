/- The reference's 'more': a histogram with n values more in a bucket. -/
import Derived.Test.YtjkoppdddaknlaaGreatDoorG29
namespace Go.Proofs.YtjkoppdddaknlaaGreatDoor
open Go Go.RowKit Go.Proofs Go.Maps
/-- what the loop of 'more' keeps -/
def MoreRel (w wr : World) (b k n : Int) (A : Option Addr) (c : Nat) (cs : List (Int × Int)) (i : Nat) : Prop :=
  i ≤ cs.length ∧ Below w.heap.size w wr ∧ w.heap.size + 1 + 1 + 1 ≤ wr.heap.size ∧
    wr.heap[w.heap.size]? = some (.cells #[.int .i64 b, .slice A cs.length c] 61 (0, 0)) ∧
    wr.heap[w.heap.size + 1]? = some (.cells #[.int .i64 0, .slice none 0 0] 61 (0, 0)) ∧
    ∃ v, wr.heap[w.heap.size + 1 + 1]? = some (.cells #[.int .i64 b, v] 61 (0, 0)) ∧
      wr.ownsRow (w.heap.size + 1 + 1 + 1) 83 2 v (moreSt k n (cs.take i)).2.length (cells2 (moreSt k n (cs.take i)).2)

/-- one more element appended, then stored back into the field -/
theorem MoreRel.next' {w wr w2 : World} {b k n : Int} {A : Option Addr} {c : Nat} {cs : List (Int × Int)} {i : Nat} {v : Value} {g cap : Nat} {l : List (Int × Int)} {x : Int × Int}
    (hrel : MoreRel w wr b k n A c cs i) (hi : i + 1 ≤ cs.length) (hst : (moreSt k n (cs.take (i + 1))).2 = l ++ [x])
    (hfr : Fr (fun j => j = w.heap.size + 1 + 1 ∨ w.heap.size + 1 + 1 + 1 ≤ j) wr w2) (hbx : w2.heap[w.heap.size + 1 + 1]? = some (.cells #[.int .i64 b, v] 61 (0, 0)))
    (hown : w2.ownsRow (w.heap.size + 1 + 1 + 1) 83 2 (.slice (some ⟨g, 0, none⟩) (l.length + 1) cap) (l.length + 1) (cells2 l ++ [.int .i64 x.1, .int .i64 x.2])) :
    MoreRel w (w2.setCell ⟨w.heap.size + 1 + 1, 1, none⟩ (.slice (some ⟨g, 0, none⟩) (l.length + 1) cap)) b k n A c cs (i + 1) := by
  obtain ⟨_, h2, h3, h4, h5, _⟩ := hrel
  have hf : Fr (fun j => j = w.heap.size + 1 + 1 ∨ w.heap.size + 1 + 1 + 1 ≤ j) wr (w2.setCell ⟨w.heap.size + 1 + 1, 1, none⟩ (.slice (some ⟨g, 0, none⟩) (l.length + 1) cap)) := hfr.setCell (fun _ => .inl rfl) _
  refine ⟨hi, h2.trans (hf.below (by omega) (fun j hj => by omega)), Nat.le_trans h3 hf.size, (hf.block _ (by omega) (by omega)).trans h4, (hf.block _ (by omega) (by omega)).trans h5, _, box_store hbx 1 _, ?_⟩
  rw [hst]
  have e : cells2 (l ++ [x]) = cells2 l ++ [.int .i64 x.1, .int .i64 x.2] := by simp [cells2]
  rw [e, List.length_append]
  exact row_store hown (by omega) 1 _

theorem MoreRel.next {w wr w2 : World} {b k n : Int} {A : Option Addr} {c : Nat} {cs : List (Int × Int)} {i : Nat} {v : Value} {g cap : Nat} {l : List (Int × Int)} {x : Int × Int}
    (hrel : MoreRel w wr b k n A c cs i) (hi : i + 1 ≤ cs.length) (hst : (moreSt k n (cs.take (i + 1))).2 = l ++ [x])
    (hfr : Fr (fun j => w.heap.size + 1 + 1 + 1 ≤ j) wr w2) (hbx : w2.heap[w.heap.size + 1 + 1]? = some (.cells #[.int .i64 b, v] 61 (0, 0)))
    (hown : w2.ownsRow (w.heap.size + 1 + 1 + 1) 83 2 (.slice (some ⟨g, 0, none⟩) (l.length + 1) cap) (l.length + 1) (cells2 l ++ [.int .i64 x.1, .int .i64 x.2])) :
    MoreRel w (w2.setCell ⟨w.heap.size + 1 + 1, 1, none⟩ (.slice (some ⟨g, 0, none⟩) (l.length + 1) cap)) b k n A c cs (i + 1) :=
  hrel.next' hi hst (hfr.mono (fun _j _ hj => .inr hj)) hbx hown

set_option maxHeartbeats 2000000 in
set_option maxRecDepth 100000 in
theorem more_any (b k n : Int) (A : Option Addr) (c : Nat) (cs : List (Int × Int)) (w : World) (hr : Rd w 0 w.heap.size 2 A cs.length (cells2 cs)) (hl : cs.length ≤ 10000000) (hn : 0 ≤ n) (hn' : n ≤ 1125899906842624) (hcs : ∀ c ∈ cs, 0 ≤ c.2 ∧ c.2 ≤ 1125899906842624 * 2) :
    Calls Tryz.prog 28 #[.agg #[.int .i64 b, .slice A cs.length c], .int .i64 k, .int .i64 n] w fun e w' => ∃ v, e = .returned v ∧ HistV w' w.heap.size v b (moreL k n cs) ∧ Below w.heap.size w w' := by
  obtain ⟨i0, hi0, hz0, hz1, hz2⟩ := info_parts Tryz.infoC
  have HR := Lib.hid hr
  have HC := Lib.hid hcs
  clear hr hcs
  have hn0 : (n == 0) = true ∨ (n == 0) = false := by cases h : (n == 0) <;> simp
  go_enter Tryz.func28, Tryz.ntmps28
  go_wp2
  go_loopw [8, 9, 10] (fun d i _ wr => ∃ j : Nat, d = .bool (moreSt k n (cs.take j)).1 ∧ i = .int .i64 j ∧ MoreRel w wr b k n A c cs j) (fun _ i _ _ => cs.length - (intOf i).toNat)
  case atStart =>
    refine ⟨0, ?_, rfl, Nat.zero_le _, (((Below.refl _ w).alloc (Nat.le_refl _) _).alloc (by simp) _).alloc (by simp; omega) _, by simp, ?_, ?_, .slice none 0 0, ?_, ⟨by simp [moreSt, cells2], .inl ⟨rfl, by simp [moreSt]⟩⟩⟩
    · simp [moreSt]
    · exact (Below.heap_alloc _ _ _ (by simp; omega)).trans ((Below.heap_alloc _ _ _ (by simp)).trans (alloc_at _ _ _ rfl))
    · exact (Below.heap_alloc _ _ _ (by simp)).trans (alloc_at _ _ _ (by simp))
    · exact alloc_at _ _ _ (by simp)
  case round =>
    obtain ⟨j, rfl, rfl, hrel⟩ := hrel
    obtain ⟨hj, hbw, hsz, hb0, hb1, v, hb2, hown⟩ := id hrel
    have e1 : wr.cell? ⟨w.heap.size, 1, none⟩ = some (.slice A cs.length c) := by rw [cellsAt hb0]; rfl
    have e2 : wr.cell? ⟨w.heap.size + 1 + 1, 1, none⟩ = some v := by rw [cellsAt hb2]; rfl
    have hN2 : w.heap.size + 1 + 1 < wr.heap.size := by omega
    have hN0 : w.heap.size < wr.heap.size := by omega
    have HREL := Lib.hid hrel
    have HB2 := Lib.hid hb2
    have HO := Lib.hid hown
    have hml := moreSt_length k n (cs.take j)
    rw [List.length_take] at hml
    have HML := Lib.hid hml
    clear hrel hb0 hb2 hown hml
    by_cases hlt : j < cs.length
    · obtain ⟨bk, o, x, m, rfl, _, hbk, hx, c0, c1⟩ := (HR.out.below hbw (Nat.le_refl _)).at2 hlt
      have hxm := HC.out (x, m) (List.mem_of_getElem? hx)
      have hst := moreSt_take k n cs j (x, m) hx
      have HST := Lib.hid hst
      clear hx hst hb1
      simp only at hxm
      generalize hmS : moreSt k n (cs.take j) = st at *
      obtain ⟨d, l⟩ := st
      clear hmS
      have hbl : bk < wr.heap.size := by omega
      cases d with
      | true =>
        have hstep : moreSt k n (cs.take (j + 1)) = (true, l ++ [(x, m)]) := by rw [HST.out]; simp [stepM]
        have HSTEP := Lib.hid hstep
        clear hstep HST
        go_wp2_with (at_builtin; refine wpList_append_own _ rfl (.tmp 54) (.tmp 56) 59 rfl (w.heap.size + 1 + 1 + 1) 83 i0 _ 2 16 Tryz.underlying59 hi0 hz0 hz1 hz2 rfl (by decide) v _ _ rfl ((HO.out.alloc _).alloc _) ⟨wr.heap.size + 1, 0, none⟩ 1 1 [.int .i64 x, .int .i64 m] rfl rfl ?c0x0 (by simp [Value.oneCell']) ?c3x0 ?c4x0 ?c5x0 ?_)
        case c3x0 => have := HML.out; unfold maxLen; omega
        case c4x0 => have := HML.out; omega
        case c5x0 => first | omega | (simp; omega)
        intro v' w2 hown' hgrow _
        obtain ⟨g, cap, rfl, hgb, hgne, hbx', hfr, hsz2⟩ := app_after (H := w.heap.size + 1 + 1) (HO.out.alloc _) ((Below.heap_alloc _ _ _ (by omega)).trans HB2.out) (by omega) hown' hgrow
        have hfr2 : Fr (fun i => w.heap.size + 1 + 1 + 1 ≤ i) wr w2 := Fr.trans ((Fr.refl _ wr).alloc _) hfr (fun i _ hi => (ownsRow_block HO.out hi).1)
        have e3 : w2.cell? ⟨w.heap.size + 1 + 1, 1, none⟩ = some v := by rw [cellsAt hbx']; rfl
        have z3 : w2.frozen? ⟨w.heap.size + 1 + 1, 1, none⟩ = false := frozenAt hbx' 1
        have HN := Lib.hid (HREL.out.next (by omega) (congrArg Prod.snd HSTEP.out) hfr2 hbx' hown')
        clear hown' hgrow hfr hfr2 hbx' e1 e2 c0 c1
        go_wp2
        go_roundw
        case rel => exact ⟨j + 1, by rw [HSTEP.out], by go_num, HN.out⟩
        case measure => simp [intOf]; omega
      | false =>
        by_cases hk : k ≤ x
        · have hk' : decide (k ≤ x) = true := by simpa using hk
          by_cases he : x = k
          · have hpad : True := trivial
            have hstep : moreSt k n (cs.take (j + 1)) = (true, l ++ [(x, m + n)]) := by rw [HST.out]; simp [stepM, he]
            have HSTEP := Lib.hid hstep
            have he' : (x == k) = true := by simpa using he
            clear hstep HST he
            go_wp2_with (at_builtin; refine wpList_append_own _ rfl (.tmp 54) (.tmp 56) 59 rfl (w.heap.size + 1 + 1 + 1) 83 i0 _ 2 16 Tryz.underlying59 hi0 hz0 hz1 hz2 rfl (by decide) v _ _ rfl ((HO.out.alloc _).alloc _) ⟨wr.heap.size + 1, 0, none⟩ 1 1 [.int .i64 x, .int .i64 (m + n)] rfl rfl ?c0x1 (by simp [Value.oneCell']) ?c3x1 ?c4x1 ?c5x1 ?_)
            case c3x1 => have := HML.out; unfold maxLen; omega
            case c4x1 => have := HML.out; omega
            case c5x1 => first | omega | (simp; omega)
            intro v' w2 hown' hgrow _
            obtain ⟨g, cap, rfl, hgb, hgne, hbx', hfr, hsz2⟩ := app_after (H := w.heap.size + 1 + 1) (HO.out.alloc _) ((Below.heap_alloc _ _ _ (by omega)).trans HB2.out) (by omega) hown' hgrow
            have hfr2 : Fr (fun i => w.heap.size + 1 + 1 + 1 ≤ i) wr w2 := Fr.trans ((Fr.refl _ wr).alloc _) hfr (fun i _ hi => (ownsRow_block HO.out hi).1)
            have e3 : w2.cell? ⟨w.heap.size + 1 + 1, 1, none⟩ = some v := by rw [cellsAt hbx']; rfl
            have z3 : w2.frozen? ⟨w.heap.size + 1 + 1, 1, none⟩ = false := frozenAt hbx' 1
            have HN := Lib.hid (HREL.out.next (by omega) (congrArg Prod.snd HSTEP.out) hfr2 hbx' hown')
            clear hown' hgrow hfr hfr2 hbx' e1 e2 c0 c1
            go_wp2
            go_roundw
            case rel => exact ⟨j + 1, by rw [HSTEP.out], by go_num, HN.out⟩
            case measure => simp [intOf]; omega
          · have hpad : True := trivial
            have hstep : moreSt k n (cs.take (j + 1)) = (true, l ++ [(k, n)] ++ [(x, m)]) := by rw [HST.out]; simp [stepM, hk, he]
            have HSTEP := Lib.hid hstep
            have he' : (x == k) = false := by simpa using he
            clear hstep HST he
            go_wp2_with (at_builtin; refine wpList_append_own _ rfl (.tmp 46) (.tmp 50) 59 rfl (w.heap.size + 1 + 1 + 1) 83 i0 _ 2 16 Tryz.underlying59 hi0 hz0 hz1 hz2 rfl (by decide) v _ _ rfl ((HO.out.alloc _).alloc _) ⟨wr.heap.size + 1, 0, none⟩ 1 1 [.int .i64 k, .int .i64 n] rfl rfl ?c0x2 (by simp [Value.oneCell']) ?c3x2 ?c4x2 ?c5x2 ?_)
            case c3x2 => have := HML.out; unfold maxLen; omega
            case c4x2 => have := HML.out; omega
            case c5x2 => first | omega | (simp; omega)
            intro v' w2 hown' hgrow _
            obtain ⟨g, cap, rfl, hgb, hgne, hbx', hfr, hsz2⟩ := app_after (H := w.heap.size + 1 + 1) (HO.out.alloc (.cells #[.int .i64 x, .int .i64 m] 83)) ((Below.heap_alloc _ _ _ (by omega)).trans HB2.out) (by omega) hown' hgrow
            simp only [World.size_alloc] at hsz2
            have hfr2 : Fr (fun i => w.heap.size + 1 + 1 + 1 ≤ i) wr w2 := Fr.trans ((Fr.refl _ wr).alloc _) hfr (fun i _ hi => (ownsRow_block HO.out hi).1)
            have hcb : w2.heap[wr.heap.size]? = some (.cells #[.int .i64 x, .int .i64 m] 83 (0, 0)) := by
              rw [hfr.block _ (by simp) (fun hi => by have := (ownsRow_block HO.out hi).2; omega)]
              exact alloc_at _ _ _ rfl
            have e3 : w2.cell? ⟨w.heap.size + 1 + 1, 1, none⟩ = some v := by rw [cellsAt hbx']; rfl
            have z3 : w2.frozen? ⟨w.heap.size + 1 + 1, 1, none⟩ = false := frozenAt hbx' 1
            have q0 : w2.cell? ⟨wr.heap.size, 0, none⟩ = some (.int .i64 x) := by rw [cellsAt hcb]; rfl
            have q1 : w2.cell? ⟨wr.heap.size, 1, none⟩ = some (.int .i64 m) := by rw [cellsAt hcb]; rfl
            have HBX := Lib.hid (box_store hbx' 1 (.slice (some ⟨g, 0, none⟩) (l.length + 1) cap))
            have HOW := Lib.hid (row_store hown' (show w.heap.size + 1 + 1 < w.heap.size + 1 + 1 + 1 by omega) 1 (.slice (some ⟨g, 0, none⟩) (l.length + 1) cap))
            have HFR := Lib.hid hfr2
            have hnw : wr.heap.size ≠ w.heap.size + 1 + 1 := by omega
            clear hown' hgrow hfr hfr2 hbx' e1 e2 c0 c1 hcb
            go_wp2_with (at_builtin; refine wpList_append_own _ rfl (.tmp 54) (.tmp 56) 59 rfl (w.heap.size + 1 + 1 + 1) 83 i0 _ 2 16 Tryz.underlying59 hi0 hz0 hz1 hz2 rfl (by decide) (.slice (some ⟨g, 0, none⟩) (l.length + 1) cap) _ _ rfl (HOW.out.alloc _) ⟨w2.heap.size, 0, none⟩ 1 1 [.int .i64 x, .int .i64 m] rfl rfl ?c0x3 (by simp [Value.oneCell']) ?c3x3 ?c4x3 ?c5x3 ?_)
            case c0x3 => have := cell_two_new (w2.setCell ⟨w.heap.size + 1 + 1, 1, none⟩ (.slice (some ⟨g, 0, none⟩) (l.length + 1) cap)) (.int .i64 x) (.int .i64 m) 83; simpa using this
            case c3x3 => have := HML.out; unfold maxLen; omega
            case c4x3 => have := HML.out; omega
            case c5x3 => first | omega | (simp; omega)
            intro v' w4 hown4 hgrow4 _
            obtain ⟨g4, cap4, rfl, hgb4, hgne4, hbx4, hfr4, hsz4⟩ := app_after (H := w.heap.size + 1 + 1) HOW.out HBX.out (by omega) hown4 hgrow4
            have hfr5 : Fr (fun i => i = w.heap.size + 1 + 1 ∨ w.heap.size + 1 + 1 + 1 ≤ i) wr w4 := by
              refine Fr.trans ((HFR.out.mono (fun i _ hi => .inr hi)).setCell (p := ⟨w.heap.size + 1 + 1, 1, none⟩) (fun _ => .inl rfl) _) hfr4 (fun i _ hi => .inr (ownsRow_block HOW.out hi).1)
            have e5 : w4.cell? ⟨w.heap.size + 1 + 1, 1, none⟩ = some (.slice (some ⟨g, 0, none⟩) (l.length + 1) cap) := by rw [cellsAt hbx4]; rfl
            have z5 : w4.frozen? ⟨w.heap.size + 1 + 1, 1, none⟩ = false := frozenAt hbx4 1
            have hll : (l ++ [(k, n)]).length = l.length + 1 := by simp
            have hown5 : w4.ownsRow (w.heap.size + 1 + 1 + 1) 83 2 (.slice (some ⟨g4, 0, none⟩) ((l ++ [(k, n)]).length + 1) cap4) ((l ++ [(k, n)]).length + 1) (cells2 (l ++ [(k, n)]) ++ [.int .i64 x, .int .i64 m]) := by
              rw [hll, cells2_append]; simpa [cells2] using hown4
            have hmr := HREL.out.next' (by omega) (congrArg Prod.snd HSTEP.out) hfr5 hbx4 hown5
            rw [hll] at hmr
            have HN := Lib.hid hmr
            clear hown4 hown5 hgrow4 hfr4 hfr5 hbx4 hmr hll e3 z3 q0 q1
            go_wp2
            go_roundw
            case rel => exact ⟨j + 1, by rw [HSTEP.out], by go_num, HN.out⟩
            case measure => simp [intOf]; omega
        · have hk' : decide (k ≤ x) = false := by simpa using hk
          have hstep : moreSt k n (cs.take (j + 1)) = (false, l ++ [(x, m)]) := by rw [HST.out]; simp [stepM]; omega
          have HSTEP := Lib.hid hstep
          clear hstep HST
          go_wp2_with (at_builtin; refine wpList_append_own _ rfl (.tmp 54) (.tmp 56) 59 rfl (w.heap.size + 1 + 1 + 1) 83 i0 _ 2 16 Tryz.underlying59 hi0 hz0 hz1 hz2 rfl (by decide) v _ _ rfl ((HO.out.alloc _).alloc _) ⟨wr.heap.size + 1, 0, none⟩ 1 1 [.int .i64 x, .int .i64 m] rfl rfl ?c0x4 (by simp [Value.oneCell']) ?c3x4 ?c4x4 ?c5x4 ?_)
          case c3x4 => have := HML.out; unfold maxLen; omega
          case c4x4 => have := HML.out; omega
          case c5x4 => first | omega | (simp; omega)
          intro v' w2 hown' hgrow _
          obtain ⟨g, cap, rfl, hgb, hgne, hbx', hfr, hsz2⟩ := app_after (H := w.heap.size + 1 + 1) (HO.out.alloc _) ((Below.heap_alloc _ _ _ (by omega)).trans HB2.out) (by omega) hown' hgrow
          have hfr2 : Fr (fun i => w.heap.size + 1 + 1 + 1 ≤ i) wr w2 := Fr.trans ((Fr.refl _ wr).alloc _) hfr (fun i _ hi => (ownsRow_block HO.out hi).1)
          have e3 : w2.cell? ⟨w.heap.size + 1 + 1, 1, none⟩ = some v := by rw [cellsAt hbx']; rfl
          have z3 : w2.frozen? ⟨w.heap.size + 1 + 1, 1, none⟩ = false := frozenAt hbx' 1
          have HN := Lib.hid (HREL.out.next (by omega) (congrArg Prod.snd HSTEP.out) hfr2 hbx' hown')
          clear hown' hgrow hfr hfr2 hbx' e1 e2 c0 c1
          go_wp2
          go_roundw
          case rel => exact ⟨j + 1, by rw [HSTEP.out], by go_num, HN.out⟩
          case measure => simp [intOf]; omega
    · have htk : cs.take j = cs := List.take_of_length_le (by omega)
      rw [htk] at HO HML ⊢
      have r0 : wr.cell? ⟨w.heap.size + 1, 0, none⟩ = some (.int .i64 0) := by rw [cellsAt hb1]; rfl
      have r1 : wr.cell? ⟨w.heap.size + 1, 1, none⟩ = some (.slice none 0 0) := by rw [cellsAt hb1]; rfl
      have y0 : wr.frozen? ⟨w.heap.size + 1, 0, none⟩ = false := frozenAt hb1 0
      have y1 : wr.frozen? ⟨w.heap.size + 1, 1, none⟩ = false := frozenAt hb1 1
      have o0 : wr.cell? ⟨w.heap.size + 1 + 1, 0, none⟩ = some (.int .i64 b) := by rw [cellsAt HB2.out]; rfl
      have hN1 : w.heap.size + 1 < wr.heap.size := by omega
      have HB1 := Lib.hid hb1
      have hML : moreL k n cs = finM k n (moreSt k n cs) := rfl
      have HMF := Lib.hid hML
      clear htk hb1 hML
      generalize moreSt k n cs = st at *
      obtain ⟨d, l⟩ := st
      have fin : ∀ (W : World) (V : Value) (len : Nat), (∃ wx, Fr (fun i => w.heap.size ≤ i ∧ i < w.heap.size + 1 + 1 + 1) wx W ∧ wx.ownsRow (w.heap.size + 1 + 1 + 1) 83 2 V len (cells2 (moreL k n cs)) ∧ Below w.heap.size w wx ∧ w.heap.size ≤ wx.heap.size) → ∃ v, Ending.returned (Value.agg #[Value.int .i64 b, V]) = .returned v ∧ HistV W w.heap.size v b (moreL k n cs) ∧ Below w.heap.size w W := by
        rintro W V len ⟨wx, hfx, hox, hbx, hsx⟩
        have hox' := ownsRow_fr hox hfx (fun i hi => by have := (ownsRow_block hox hi).1; omega)
        obtain ⟨A', cap', rfl, hnc', hcm', hA'⟩ := ownsRow_shape hox'
        have hlen : len = (moreL k n cs).length := by have := hox'.1; rw [cells2_length] at this; omega
        subst hlen
        exact ⟨_, rfl, ⟨A', cap', rfl, hnc', hcm', hA', (Rd.of_own hox').more (by omega) (Nat.le_refl _)⟩, hbx.trans (hfx.below hsx (fun i hi => by omega))⟩
      have FIN := Lib.hid fin
      clear fin
      cases d with
      | true =>
        obtain ⟨A', cap', rfl, _, _, _⟩ := ownsRow_shape HO.out
        go_wp2
        refine bodyPost_ret (v := .agg #[.int .i64 b, .slice A' l.length cap']) (by simp [results, Tryz.results28, go_sem, r0, r1]) rfl (FIN.out _ _ l.length ⟨wr, ?_, by rw [HMF.out]; exact HO.out, hbw, by omega⟩)
        repeat (first | exact Fr.refl _ _ | (refine Fr.setCell ?_ (fun _ => by dsimp only; omega) _))
      | false =>
        go_wp2_with (at_builtin; refine wpList_append_own _ rfl (.tmp 62) (.tmp 66) 59 rfl (w.heap.size + 1 + 1 + 1) 83 i0 _ 2 16 Tryz.underlying59 hi0 hz0 hz1 hz2 rfl (by decide) v _ _ rfl (HO.out.alloc _) ⟨wr.heap.size, 0, none⟩ 1 1 [.int .i64 k, .int .i64 n] rfl rfl (cell_two_new _ _ _ _) (by simp [Value.oneCell']) ?c3z ?c4z ?c5z ?_)
        case c3z => have := HML.out; unfold maxLen; omega
        case c4z => have := HML.out; omega
        case c5z => first | omega | (simp; omega)
        intro v' w2 hown' hgrow _
        obtain ⟨g, cap, rfl, hgb, hgne, hbx', hfr, hsz2⟩ := app_after (H := w.heap.size + 1 + 1) HO.out HB2.out (by omega) hown' hgrow
        have hrb : w2.heap[w.heap.size + 1]? = some (.cells #[.int .i64 0, .slice none 0 0] 61 (0, 0)) := by
          rw [hfr.block _ (by omega) (fun hi => by have := (ownsRow_block HO.out hi).1; omega)]
          exact HB1.out
        have r0' : w2.cell? ⟨w.heap.size + 1, 0, none⟩ = some (.int .i64 0) := by rw [cellsAt hrb]; rfl
        have r1' : w2.cell? ⟨w.heap.size + 1, 1, none⟩ = some (.slice none 0 0) := by rw [cellsAt hrb]; rfl
        have y0' : w2.frozen? ⟨w.heap.size + 1, 0, none⟩ = false := frozenAt hrb 0
        have y1' : w2.frozen? ⟨w.heap.size + 1, 1, none⟩ = false := frozenAt hrb 1
        have e3 : w2.cell? ⟨w.heap.size + 1 + 1, 1, none⟩ = some v := by rw [cellsAt hbx']; rfl
        have o3 : w2.cell? ⟨w.heap.size + 1 + 1, 0, none⟩ = some (.int .i64 b) := by rw [cellsAt hbx']; rfl
        have z3 : w2.frozen? ⟨w.heap.size + 1 + 1, 1, none⟩ = false := frozenAt hbx' 1
        have hbw2 : Below w.heap.size w w2 := hbw.trans (hfr.below (by omega) (fun i hi hv => by have := (ownsRow_block HO.out hv).1; omega))
        have hown2 : w2.ownsRow (w.heap.size + 1 + 1 + 1) 83 2 (.slice (some ⟨g, 0, none⟩) (l.length + 1) cap) (l.length + 1) (cells2 (moreL k n cs)) := by
          rw [HMF.out]
          simp only [finM, Bool.false_eq_true, if_false, cells2_append]
          simpa [cells2] using hown'
        have HB := Lib.hid hbw2
        have HW := Lib.hid hown2
        have hsb := hbw.size
        clear hown' hgrow hfr hbx' hrb r0 r1 y0 y1 e1 e2 o0 hbw2 hown2
        go_wp2
        refine bodyPost_ret (v := .agg #[.int .i64 b, .slice (some ⟨g, 0, none⟩) (l.length + 1) cap]) (by simp [results, Tryz.results28, go_sem, r0', r1']) rfl (FIN.out _ _ (l.length + 1) ⟨w2, ?_, HW.out, HB.out, by omega⟩)
        repeat (first | exact Fr.refl _ _ | (refine Fr.setCell ?_ (fun _ => by dsimp only; omega) _))
end Go.Proofs.YtjkoppdddaknlaaGreatDoor
