import Derived.Test.YtfeicfohahfhiaaGreatDoorG31
import Derived.Test.YtfeicfohahfhiaaGreatDoorG1
import Derived.Test.YtfeicfohahfhiaaGreatDoorG28
import Derived.Test.YtfeicfohahfhiaaGreatDoorG3
import Derived.Deep.RegionHeld3
/- Package dynamometerref0: Ratio. -/
namespace Go.Proofs.YtfeicfohahfhiaaGreatDoor
open Go Go.RowKit Go.Proofs

theorem below_reallocR {B : Nat} {w x : World} {Z Y : Obj} (h : Below B w (x.alloc Z)) (hB : B ≤ x.heap.size) : Below B w (x.alloc Y) := ⟨h.os, h.tape, h.output, by simpa using h.size, fun k hk => by
  have := h.block k hk
  rw [Below.heap_alloc _ _ _ (by omega)] at this ⊢
  exact this⟩
def RBox (w : World) (B : Nat) : Prop := w.heap[B]? = some (.cells #[.string ⟨#[]⟩, .string ⟨#[]⟩] 23 (0, 0))
theorem RBox.on {w w' : World} {B : Nat} (h : RBox w B) (hb : Below w.heap.size w w') : RBox w' B := (hb.block B (heap_lt h)).trans h
theorem RBox.facts {w : World} {B : Nat} (h : RBox w B) : w.cell? ⟨B, 0, none⟩ = some (.string ⟨#[]⟩) ∧ w.cell? ⟨B, 1, none⟩ = some (.string ⟨#[]⟩) ∧ w.frozen? ⟨B, 0, none⟩ = false ∧ w.frozen? ⟨B, 1, none⟩ = false ∧ B < w.heap.size :=
  ⟨by rw [cellsAt h]; rfl, by rw [cellsAt h]; rfl, frozenAt h 0, frozenAt h 1, heap_lt h⟩
def RatAt (w : World) (B : Nat) (p : List UInt8 × List UInt8) : Prop := w.heap[B]? = some (.cells #[.string ⟨p.1.toArray⟩, .string ⟨p.2.toArray⟩] 23 (0, 0))
theorem ratAt_set {w : World} {B : Nat} (h : RBox w B) (p : List UInt8 × List UInt8) : RatAt ((w.setCell ⟨B, 0, none⟩ (.string ⟨p.1.toArray⟩)).setCell ⟨B, 1, none⟩ (.string ⟨p.2.toArray⟩)) B p := by
  unfold RatAt
  simp [World.setCell, Array.getElem?_modify, show w.heap[B]? = _ from h]
theorem strLen (L : List UInt8) : (⟨L.toArray⟩ : ByteArray).size = L.length := by simp [ByteArray.size]

set_option maxHeartbeats 8000000 in
set_option maxRecDepth 100000 in
theorem rRatio_any (u : Value) (q : Rat) (m : Int) (w : World) (hq : FracR w u q) (hs : frS q = false) (hz : Sz 100000 q) (htab : Tab w.heap.size w) :
    Calls Tryz.prog 59 #[u, .int .i64 m] w fun e w' => (∃ b, e = .returned (.tuple #[ratOf (ratQ q), .bool b])) ∧ Below w.heap.size w w' := by
  obtain ⟨A1, c1, l1, A2, c2, l2, rfl, h1, h2⟩ := hq
  rw [hs]
  have hl1 := h1.len hz.1
  have hl2 := h2.len hz.2
  obtain ⟨W0, hW0⟩ : ∃ W0, W0 = (w.alloc (.cells #[.bool false, .slice A1 l1.length c1, .slice A2 l2.length c2] 56)).alloc (.cells #[.string ⟨#[]⟩, .string ⟨#[]⟩] 23) := ⟨_, rfl⟩
  have HST0 := Lib.hid (show St w W0 [(w.heap.size, .cells #[.bool false, .slice A1 l1.length c1, .slice A2 l2.length c2] 56 (0, 0)), (w.heap.size + 1, .cells #[.string ⟨#[]⟩, .string ⟨#[]⟩] 23 (0, 0))] by
    rw [hW0]
    simpa using ((St.start w).alloc _ _ rfl).alloc _ _ rfl)
  have HSW := Lib.hid (show W0.heap.size = w.heap.size + 2 by rw [hW0]; simp)
  have HTX1 := Lib.hid (show ∀ X, Below W0.heap.size W0 X → Calls Tryz.prog 86 #[.slice A1 l1.length c1] X fun e w' => e = .returned (.string ⟨(ratQ q).1.toArray⟩) ∧ Below X.heap.size X w' from fun X hX => rText_any A1 c1 l1 _ X (h1.on (HST0.out.old hX)) (by omega) ((htab.on (HST0.out.old hX)).mono (HST0.out.old hX).size))
  have HTX2 := Lib.hid (show ∀ X, Below W0.heap.size W0 X → Calls Tryz.prog 86 #[.slice A2 l2.length c2] X fun e w' => e = .returned (.string ⟨(ratQ q).2.toArray⟩) ∧ Below X.heap.size X w' from fun X hX => rText_any A2 c2 l2 _ X (h2.on (HST0.out.old hX)) (by omega) ((htab.on (HST0.out.old hX)).mono (HST0.out.old hX).size))
  have HKS := Lib.hid (show ∀ X, Below W0.heap.size W0 X → Below W0.heap.size W0 X ∧ X.cell? ⟨w.heap.size, 1, none⟩ = some (.slice A1 l1.length c1) ∧ X.cell? ⟨w.heap.size, 2, none⟩ = some (.slice A2 l2.length c2) from fun X hX => ⟨hX, (HST0.out.call hX).cell 0 1 rfl rfl, (HST0.out.call hX).cell 0 2 rfl rfl⟩)
  clear h1 h2 hz hs htab
  obtain ⟨P, hP⟩ : ∃ P, P = ratQ q := ⟨_, rfl⟩
  rw [← hP] at HTX1 HTX2 ⊢
  clear hP
  obtain ⟨L1, L2⟩ := P
  simp only at HTX1 HTX2
  go_enter Tryz.func59, Tryz.ntmps59
  go_upto_region 1 with fail
  rw [← hW0]
  clear hW0
  obtain ⟨f0, f1, f2⟩ := HKS.out W0 (Below.refl _ W0)
  go_cut [6] from 8 (fun v wx => ∃ B, v = .pointer (some ⟨B, 0, none⟩) ∧ RatAt wx B (L1, L2) ∧ W0.heap.size ≤ B ∧ Below W0.heap.size W0 wx)
  case first =>
    go_region_held3 (fun X => Below W0.heap.size W0 X ∧ X.cell? ⟨w.heap.size, 1, none⟩ = some (.slice A1 l1.length c1) ∧ X.cell? ⟨w.heap.size, 2, none⟩ = some (.slice A2 l2.length c2))
      (first
        | exact HKS.out _ (Below.refl _ W0).drew
        | exact HKS.out _ ((Below.refl _ W0).alloc (Nat.le_refl _) _).drew
        | (go_split_ands; refine HKS.out _ (below_next ?_ hb1); assumption)
        | (go_split_ands; refine HKS.out _ (below_next ?_ hb2); assumption)
        | (go_split_ands; refine HKS.out _ (below_next ?_ ((Below.refl _ _).alloc (Nat.le_refl _) _)); assumption)
        | (go_split_ands; refine HKS.out _ (below_reallocR (Z := .cells #[.string ⟨#[]⟩, .string ⟨#[]⟩] 23) ?_ (by omega)); assumption)
        | (go_split_ands; exact HKS.out _ ((Below.setCell (by assumption) (by show W0.heap.size ≤ _; first | exact Nat.le_refl _ | (dsimp only; omega) | omega) _).setCell (by show W0.heap.size ≤ _; first | exact Nat.le_refl _ | (dsimp only; omega) | omega) _)))
      (first
        | (go_at_call 86; (with_reducible refine (HTX1.out _ ?_).mono ?_); (go_split_ands; assumption); rintro e w1 ⟨rfl, hb1⟩; have s1 : W0.heap.size ≤ w1.heap.size := (by first | exact hb1.size | exact Nat.le_trans (Nat.le_of_lt (by simp)) hb1.size))
        | (go_at_call 86; (with_reducible refine (HTX2.out _ ?_).mono ?_); (go_split_ands; assumption); rintro e w2 ⟨rfl, hb2⟩; have s2 : w1.heap.size ≤ w2.heap.size := (by first | exact hb2.size | exact Nat.le_trans (Nat.le_of_lt (by simp)) hb2.size); (first | (have HBX := RBox.on (alloc_at w1 _ _ rfl : RBox (w1.alloc (.cells #[.string ⟨#[]⟩, .string ⟨#[]⟩] 23)) w1.heap.size) hb2) | (have HBX := RBox.on (RBox.on (show RBox ((W0.alloc (.cells #[.string ⟨#[]⟩, .string ⟨#[]⟩] 23)).drew) W0.heap.size from alloc_at W0 _ _ rfl) hb1) hb2) | have HBX := True.intro); (try obtain ⟨p0, p1, z0, z1, hlt⟩ := HBX.facts)))
    all_goals go_wp2_with fail
    all_goals go_meet
    all_goals first
      | exact ⟨_, rfl, ratAt_set HBX (L1, L2), by omega, by go_split_ands; assumption⟩
      | exact ⟨_, rfl, alloc_at _ _ _ rfl, by omega, by go_split_ands; assumption⟩
  case rest =>
    obtain ⟨B, rfl, hRA, hBle, hbc⟩ := hcut
    have hB0 := heap_lt hRA
    have g3 : wc.cell? ⟨B, 0, none⟩ = some (.string ⟨L1.toArray⟩) := by rw [cellsAt hRA]; rfl
    have g4 : wc.cell? ⟨B, 1, none⟩ = some (.string ⟨L2.toArray⟩) := by rw [cellsAt hRA]; rfl
    have hST := HST0.out.call hbc
    have g0 := hST.cell 0 0 rfl rfl
    have r0 := hST.cell 1 0 rfl rfl
    have r1 := hST.cell 1 1 rfl rfl
    have z0 := hST.frozen 1 0 rfl
    have z1 := hST.frozen 1 1 rfl
    have HFIN := Lib.hid ((hST.below.setCell (p := ⟨w.heap.size + 1, 0, none⟩) (by simp) (.string ⟨L1.toArray⟩)).setCell (p := ⟨w.heap.size + 1, 1, none⟩) (by simp) (.string ⟨L2.toArray⟩))
    clear hRA hbc hST f0 f1 f2
    by_cases m1 : (L1.length : Int) ≤ m
    · have v1 : decide ((L1.length : Int) ≤ m) = true := by simpa using m1
      go_wp2
      refine bodyPost_ret (v := .tuple #[ratOf (L1, L2), .bool (decide ((L2.length : Int) ≤ m))]) ?_ rfl ⟨⟨_, rfl⟩, HFIN.out⟩
      simp [results, Tryz.results59, go_sem, r0, r1, ratOf]
    · have v1 : decide ((L1.length : Int) ≤ m) = false := by simpa using m1
      go_wp2
      refine bodyPost_ret (v := .tuple #[ratOf (L1, L2), .bool false]) ?_ rfl ⟨by first | exact ⟨_, rfl⟩ | exact .inl rfl, HFIN.out⟩
      simp [results, Tryz.results59, go_sem, r0, r1, ratOf]

end Go.Proofs.YtfeicfohahfhiaaGreatDoor

/- Package dynamometerref0: Ratio, with what it says of the digits. -/
namespace Go.Proofs.YtfeicfohahfhiaaGreatDoor
open Go Go.RowKit Go.Proofs

set_option maxHeartbeats 8000000 in
set_option maxRecDepth 100000 in
theorem rRatioF_any (u : Value) (q : Rat) (m : Int) (w : World) (hq : FracR w u q) (hs : frS q = false) (hz : Sz 100000 q) (htab : Tab w.heap.size w) :
    Calls Tryz.prog 59 #[u, .int .i64 m] w fun e w' => e = .returned (.tuple #[ratOf (ratQ q), .bool (decide (((ratQ q).1.length : Int) ≤ m) && decide (((ratQ q).2.length : Int) ≤ m))]) ∧ Below w.heap.size w w' := by
  obtain ⟨A1, c1, l1, A2, c2, l2, rfl, h1, h2⟩ := hq
  rw [hs]
  have hl1 := h1.len hz.1
  have hl2 := h2.len hz.2
  obtain ⟨W0, hW0⟩ : ∃ W0, W0 = (w.alloc (.cells #[.bool false, .slice A1 l1.length c1, .slice A2 l2.length c2] 56)).alloc (.cells #[.string ⟨#[]⟩, .string ⟨#[]⟩] 23) := ⟨_, rfl⟩
  have HST0 := Lib.hid (show St w W0 [(w.heap.size, .cells #[.bool false, .slice A1 l1.length c1, .slice A2 l2.length c2] 56 (0, 0)), (w.heap.size + 1, .cells #[.string ⟨#[]⟩, .string ⟨#[]⟩] 23 (0, 0))] by
    rw [hW0]
    simpa using ((St.start w).alloc _ _ rfl).alloc _ _ rfl)
  have HSW := Lib.hid (show W0.heap.size = w.heap.size + 2 by rw [hW0]; simp)
  have HTX1 := Lib.hid (show ∀ X, Below W0.heap.size W0 X → Calls Tryz.prog 86 #[.slice A1 l1.length c1] X fun e w' => e = .returned (.string ⟨(ratQ q).1.toArray⟩) ∧ Below X.heap.size X w' from fun X hX => rText_any A1 c1 l1 _ X (h1.on (HST0.out.old hX)) (by omega) ((htab.on (HST0.out.old hX)).mono (HST0.out.old hX).size))
  have HTX2 := Lib.hid (show ∀ X, Below W0.heap.size W0 X → Calls Tryz.prog 86 #[.slice A2 l2.length c2] X fun e w' => e = .returned (.string ⟨(ratQ q).2.toArray⟩) ∧ Below X.heap.size X w' from fun X hX => rText_any A2 c2 l2 _ X (h2.on (HST0.out.old hX)) (by omega) ((htab.on (HST0.out.old hX)).mono (HST0.out.old hX).size))
  have HKS := Lib.hid (show ∀ X, Below W0.heap.size W0 X → Below W0.heap.size W0 X ∧ X.cell? ⟨w.heap.size, 1, none⟩ = some (.slice A1 l1.length c1) ∧ X.cell? ⟨w.heap.size, 2, none⟩ = some (.slice A2 l2.length c2) from fun X hX => ⟨hX, (HST0.out.call hX).cell 0 1 rfl rfl, (HST0.out.call hX).cell 0 2 rfl rfl⟩)
  clear h1 h2 hz hs htab
  obtain ⟨P, hP⟩ : ∃ P, P = ratQ q := ⟨_, rfl⟩
  rw [← hP] at HTX1 HTX2 ⊢
  clear hP
  obtain ⟨L1, L2⟩ := P
  simp only at HTX1 HTX2
  go_enter Tryz.func59, Tryz.ntmps59
  go_upto_region 1 with fail
  rw [← hW0]
  clear hW0
  obtain ⟨f0, f1, f2⟩ := HKS.out W0 (Below.refl _ W0)
  go_cut [6] from 8 (fun v wx => ∃ B, v = .pointer (some ⟨B, 0, none⟩) ∧ RatAt wx B (L1, L2) ∧ W0.heap.size ≤ B ∧ Below W0.heap.size W0 wx)
  case first =>
    go_region_held3 (fun X => Below W0.heap.size W0 X ∧ X.cell? ⟨w.heap.size, 1, none⟩ = some (.slice A1 l1.length c1) ∧ X.cell? ⟨w.heap.size, 2, none⟩ = some (.slice A2 l2.length c2))
      (first
        | exact HKS.out _ (Below.refl _ W0).drew
        | exact HKS.out _ ((Below.refl _ W0).alloc (Nat.le_refl _) _).drew
        | (go_split_ands; refine HKS.out _ (below_next ?_ hb1); assumption)
        | (go_split_ands; refine HKS.out _ (below_next ?_ hb2); assumption)
        | (go_split_ands; refine HKS.out _ (below_next ?_ ((Below.refl _ _).alloc (Nat.le_refl _) _)); assumption)
        | (go_split_ands; refine HKS.out _ (below_reallocR (Z := .cells #[.string ⟨#[]⟩, .string ⟨#[]⟩] 23) ?_ (by omega)); assumption)
        | (go_split_ands; exact HKS.out _ ((Below.setCell (by assumption) (by show W0.heap.size ≤ _; first | exact Nat.le_refl _ | (dsimp only; omega) | omega) _).setCell (by show W0.heap.size ≤ _; first | exact Nat.le_refl _ | (dsimp only; omega) | omega) _)))
      (first
        | (go_at_call 86; (with_reducible refine (HTX1.out _ ?_).mono ?_); (go_split_ands; assumption); rintro e w1 ⟨rfl, hb1⟩; have s1 : W0.heap.size ≤ w1.heap.size := (by first | exact hb1.size | exact Nat.le_trans (Nat.le_of_lt (by simp)) hb1.size))
        | (go_at_call 86; (with_reducible refine (HTX2.out _ ?_).mono ?_); (go_split_ands; assumption); rintro e w2 ⟨rfl, hb2⟩; have s2 : w1.heap.size ≤ w2.heap.size := (by first | exact hb2.size | exact Nat.le_trans (Nat.le_of_lt (by simp)) hb2.size); (first | (have HBX := RBox.on (alloc_at w1 _ _ rfl : RBox (w1.alloc (.cells #[.string ⟨#[]⟩, .string ⟨#[]⟩] 23)) w1.heap.size) hb2) | (have HBX := RBox.on (RBox.on (show RBox ((W0.alloc (.cells #[.string ⟨#[]⟩, .string ⟨#[]⟩] 23)).drew) W0.heap.size from alloc_at W0 _ _ rfl) hb1) hb2) | have HBX := True.intro); (try obtain ⟨p0, p1, z0, z1, hlt⟩ := HBX.facts)))
    all_goals go_wp2_with fail
    all_goals go_meet
    all_goals first
      | exact ⟨_, rfl, ratAt_set HBX (L1, L2), by omega, by go_split_ands; assumption⟩
      | exact ⟨_, rfl, alloc_at _ _ _ rfl, by omega, by go_split_ands; assumption⟩
  case rest =>
    obtain ⟨B, rfl, hRA, hBle, hbc⟩ := hcut
    have hB0 := heap_lt hRA
    have g3 : wc.cell? ⟨B, 0, none⟩ = some (.string ⟨L1.toArray⟩) := by rw [cellsAt hRA]; rfl
    have g4 : wc.cell? ⟨B, 1, none⟩ = some (.string ⟨L2.toArray⟩) := by rw [cellsAt hRA]; rfl
    have hST := HST0.out.call hbc
    have g0 := hST.cell 0 0 rfl rfl
    have r0 := hST.cell 1 0 rfl rfl
    have r1 := hST.cell 1 1 rfl rfl
    have z0 := hST.frozen 1 0 rfl
    have z1 := hST.frozen 1 1 rfl
    have HFIN := Lib.hid ((hST.below.setCell (p := ⟨w.heap.size + 1, 0, none⟩) (by simp) (.string ⟨L1.toArray⟩)).setCell (p := ⟨w.heap.size + 1, 1, none⟩) (by simp) (.string ⟨L2.toArray⟩))
    clear hRA hbc hST f0 f1 f2
    by_cases m1 : (L1.length : Int) ≤ m
    · have v1 : decide ((L1.length : Int) ≤ m) = true := by simpa using m1
      go_wp2
      refine bodyPost_ret (v := .tuple #[ratOf (L1, L2), .bool (decide ((L2.length : Int) ≤ m))]) ?_ rfl ⟨by first | rfl | (show _ = Ending.returned (.tuple #[ratOf (L1, L2), .bool (decide ((L1.length : Int) ≤ m) && decide ((L2.length : Int) ≤ m))]); rw [v1, Bool.true_and]), HFIN.out⟩
      simp [results, Tryz.results59, go_sem, r0, r1, ratOf]
    · have v1 : decide ((L1.length : Int) ≤ m) = false := by simpa using m1
      go_wp2
      refine bodyPost_ret (v := .tuple #[ratOf (L1, L2), .bool false]) ?_ rfl ⟨by first | rfl | (show _ = Ending.returned (.tuple #[ratOf (L1, L2), .bool (decide ((L1.length : Int) ≤ m) && decide ((L2.length : Int) ≤ m))]); rw [v1, Bool.false_and]), HFIN.out⟩
      simp [results, Tryz.results59, go_sem, r0, r1, ratOf]

end Go.Proofs.YtfeicfohahfhiaaGreatDoor
