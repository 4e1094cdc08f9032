/- JudgeErlangMatchesSpec: the law's walk. -/
import Derived.Test.YtpmnhdgajkickaaGreatDoorB26
import Derived.Test.YtpmnhdgajkickaaGreatDoorJErlW
import Derived.Test.YtpmnhdgajkickaaGreatDoorJServ
import Derived.Test.YtpmnhdgajkickaaGreatDoorR10Serv
namespace Go.Proofs.YtpmnhdgajkickaaGreatDoor
open Go Go.RowKit Go.Proofs

theorem below_set2 {w W : World} {B : Nat} (h : Below w.heap.size w W) (hB : w.heap.size ≤ B) (x y : Value) : Below w.heap.size w ((W.setCell ⟨B, 0, none⟩ x).setCell ⟨B, 1, none⟩ y) := (h.setCell (p := ⟨B, 0, none⟩) hB x).setCell (p := ⟨B, 1, none⟩) hB y
/-- a pair of texts in two cells, overwritten -/
theorem set2_at {W : World} {B : Nat} {a b x y : Value} {t : TypeId} (h : W.heap[B]? = some (.cells #[a, b] t (0, 0))) : ((W.setCell ⟨B, 0, none⟩ x).setCell ⟨B, 1, none⟩ y).heap[B]? = some (.cells #[x, y] t (0, 0)) := by
  simp [World.setCell, Array.getElem?_modify, h]
theorem set2_far {W : World} {B B' : Nat} {x y : Value} (h : B' ≠ B) : ((W.setCell ⟨B, 0, none⟩ x).setCell ⟨B, 1, none⟩ y).heap[B']? = W.heap[B']? :=
  (Below.heap_setCell (W.setCell ⟨B, 0, none⟩ x) ⟨B, 1, none⟩ y B' h).trans (Below.heap_setCell W ⟨B, 0, none⟩ x B' h)
/-- a box that holds a pair of texts -/
def TxBox (W : World) (B : Nat) (S1 S2 : ByteArray) : Prop := W.heap[B]? = some (.cells #[.string S1, .string S2] 23 (0, 0))
theorem TxBox.on {w w' : World} {B : Nat} {S1 S2 : ByteArray} (h : TxBox w B S1 S2) (hb : Below w.heap.size w w') : TxBox w' B S1 S2 := (hb.block B (heap_lt h)).trans h
theorem TxBox.facts {w : World} {B : Nat} {S1 S2 : ByteArray} (h : TxBox w B S1 S2) : w.cell? ⟨B, 0, none⟩ = some (.string S1) ∧ w.cell? ⟨B, 1, none⟩ = some (.string S2) ∧ w.frozen? ⟨B, 0, none⟩ = false ∧ w.frozen? ⟨B, 1, none⟩ = false ∧ B < w.heap.size :=
  ⟨by rw [cellsAt h]; rfl, by rw [cellsAt h]; rfl, frozenAt h 0, frozenAt h 1, heap_lt h⟩
set_option maxHeartbeats 8000000 in
set_option maxRecDepth 100000 in
theorem lawErl_any (Sa Sb Sc Sd : ByteArray) (n : Int) (w : World) (htab : Tab w.heap.size w) (ha : Sa.size ≤ 9223372036854775800) (hb : Sb.size ≤ 9223372036854775800) (hc : Sc.size ≤ 9223372036854775800) (hd : Sd.size ≤ 9223372036854775800) :
    Calls Tryz.prog 5 #[.int .i64 n, .agg #[.string Sa, .string Sb], .agg #[.string Sc, .string Sd]] w fun e w' => e = .returned (.bool true) ∧ Below w.heap.size w w' := by
  have HJ1 := Lib.hid (fun W (hW : Below w.heap.size w W) => jBlockedP_any Sa Sb Sa.data.toList Sb.data.toList n W rfl rfl ha hb ((htab.on hW).mono hW.size))
  have HR1 := Lib.hid (fun W (hW : Below w.heap.size w W) => r10BlockedP_any Sa Sb Sa.data.toList Sb.data.toList n W rfl rfl ha hb ((htab.on hW).mono hW.size))
  have HJ2 := Lib.hid (fun W (hW : Below w.heap.size w W) => jWaitingP_any Sa Sb Sa.data.toList Sb.data.toList n W rfl rfl ha hb ((htab.on hW).mono hW.size))
  have HR2 := Lib.hid (fun W (hW : Below w.heap.size w W) => r10WaitingP_any Sa Sb Sa.data.toList Sb.data.toList n W rfl rfl ha hb ((htab.on hW).mono hW.size))
  have HJ3 := Lib.hid (fun W => jServers_any Sa Sb Sc Sd Sa.data.toList Sb.data.toList Sc.data.toList Sd.data.toList W rfl rfl rfl rfl ha hb hc hd)
  have HR3 := Lib.hid (fun W => r10Servers_any Sa Sb Sc Sd Sa.data.toList Sb.data.toList Sc.data.toList Sd.data.toList W rfl rfl rfl rfl ha hb hc hd)
  have HH := Lib.hid (fun W (hW : Below w.heap.size w W) => halves_any W ((htab.on hW).mono hW.size))
  obtain ⟨V, hV⟩ : ∃ V, V = blkT n Sa.data.toList Sb.data.toList := ⟨_, rfl⟩
  obtain ⟨E, hE⟩ : ∃ E, E = blkE n Sa.data.toList Sb.data.toList := ⟨_, rfl⟩
  obtain ⟨V2, hV2⟩ : ∃ V, V = wtT n Sa.data.toList Sb.data.toList := ⟨_, rfl⟩
  obtain ⟨E2, hE2⟩ : ∃ E, E = wtE n Sa.data.toList Sb.data.toList := ⟨_, rfl⟩
  obtain ⟨V3, hV3⟩ : ∃ V, V = srvV Sa.data.toList Sb.data.toList Sc.data.toList Sd.data.toList := ⟨_, rfl⟩
  obtain ⟨E3, hE3⟩ : ∃ E, E = srvE Sa.data.toList Sb.data.toList Sc.data.toList Sd.data.toList := ⟨_, rfl⟩
  rw [← hV, ← hE] at HJ1 HR1
  rw [← hV2, ← hE2] at HJ2 HR2
  rw [← hV3, ← hE3] at HJ3 HR3
  have hrR1 : ratOf V = .agg #[.string ⟨V.1.toArray⟩, .string ⟨V.2.toArray⟩] := rfl
  obtain ⟨R1, hR1⟩ : ∃ R : ByteArray, R = ⟨V.1.toArray⟩ := ⟨_, rfl⟩
  obtain ⟨R2, hR2⟩ : ∃ R : ByteArray, R = ⟨V.2.toArray⟩ := ⟨_, rfl⟩
  rw [← hR1, ← hR2] at hrR1
  have hrR3 : ratOf V2 = .agg #[.string ⟨V2.1.toArray⟩, .string ⟨V2.2.toArray⟩] := rfl
  obtain ⟨R3, hR3⟩ : ∃ R : ByteArray, R = ⟨V2.1.toArray⟩ := ⟨_, rfl⟩
  obtain ⟨R4, hR4⟩ : ∃ R : ByteArray, R = ⟨V2.2.toArray⟩ := ⟨_, rfl⟩
  rw [← hR3, ← hR4] at hrR3
  rw [hrR1] at HJ1 HR1
  rw [hrR3] at HJ2 HR2
  obtain ⟨W0, hW0⟩ : ∃ W0, W0 = (w.alloc (.cells #[.string Sa, .string Sb] 23)).alloc (.cells #[.string Sc, .string Sd] 23) := ⟨_, rfl⟩
  have HST0 := Lib.hid (show St w W0 [(w.heap.size, .cells #[.string Sa, .string Sb] 23 (0, 0)), (w.heap.size + 1, .cells #[.string Sc, .string Sd] 23 (0, 0))] by rw [hW0]; exact ((St.start w).alloc _ _ rfl).alloc _ _ (by simp))
  have HK := Lib.hid (show ∀ X, Below W0.heap.size W0 X → X.cell? ⟨w.heap.size, 0, none⟩ = some (.string Sa) ∧ X.cell? ⟨w.heap.size, 1, none⟩ = some (.string Sb) ∧ X.cell? ⟨w.heap.size + 1, 0, none⟩ = some (.string Sc) ∧ X.cell? ⟨w.heap.size + 1, 1, none⟩ = some (.string Sd) from fun X hX => ⟨(HST0.out.call hX).cell 0 0 rfl rfl, (HST0.out.call hX).cell 0 1 rfl rfl, (HST0.out.call hX).cell 1 0 rfl rfl, (HST0.out.call hX).cell 1 1 rfl rfl⟩)
  obtain ⟨p0, p1, p2, p3⟩ := HK.out W0 (Below.refl _ _)
  have HS1 := Lib.hid (fun W => same_any R1 R2 E W)
  have HS2 := Lib.hid (fun W => same_any R3 R4 E2 W)
  clear htab hV hE hV2 hE2 hV3 hE3 hrR1 hrR3 hR1 hR2 hR3 hR4 ha hb hc hd
  go_enter Tryz.func5, Tryz.ntmps5
  go_wp2_with fail
  rw [← hW0]
  clear hW0
  go_wp2_with fail
  (with_reducible refine (HJ1.out _ HST0.out.below).mono ?_)
  rintro e w1 ⟨rfl, hb1⟩
  obtain ⟨W2, hW2⟩ : ∃ W2, W2 = w1.alloc (.cells #[.string R1, .string R2] 23) := ⟨_, rfl⟩
  have hb12 : Below w1.heap.size w1 W2 := by rw [hW2]; exact (Below.refl _ w1).alloc (Nat.le_refl _) _
  have HX1 := Lib.hid (show TxBox W2 w1.heap.size R1 R2 by rw [hW2]; exact alloc_at _ _ _ rfl)
  have HB2 := Lib.hid (below_next hb1 hb12)
  have HL1 := Lib.hid (show W0.heap.size ≤ w1.heap.size from hb1.size)
  clear p0 p1 p2 p3 hb1 hb12
  obtain ⟨p0, p1, p2, p3⟩ := HK.out W2 HB2.out
  have o0 := p0
  have o1 := p1
  rw [hW2] at o0 o1
  go_wp2_with fail
  rw [← hW2]
  clear hW2 o0 o1
  (with_reducible refine (HR1.out _ (below_next HST0.out.below HB2.out)).mono ?_)
  rintro e w3 ⟨rfl, hb3⟩
  obtain ⟨W4, hW4⟩ : ∃ W4, W4 = w3.alloc (.cells #[.string R1, .string R2] 23) := ⟨_, rfl⟩
  have hb34 : Below w3.heap.size w3 W4 := by rw [hW4]; exact (Below.refl _ w3).alloc (Nat.le_refl _) _
  have HX2 := Lib.hid (show TxBox W4 w3.heap.size R1 R2 by rw [hW4]; exact alloc_at _ _ _ rfl)
  have hb24 := below_next hb3 hb34
  have HX1b := Lib.hid (HX1.out.on hb24)
  have HNE := Lib.hid (show w1.heap.size ≠ w3.heap.size from Nat.ne_of_lt (Nat.lt_of_lt_of_le (heap_lt HX1.out) hb3.size))
  have HL2 := Lib.hid (show W0.heap.size ≤ w3.heap.size from Nat.le_trans HB2.out.size hb3.size)
  have HB4 := Lib.hid (below_next HB2.out hb24)
  clear p0 p1 p2 p3 hb3 hb34 hb24
  obtain ⟨y0, y1, -, -, -⟩ := HX1b.out.facts
  rw [hW4] at y0 y1
  go_wp2_with fail
  rw [← hW4]
  clear hW4 y0 y1
  (with_reducible refine (HS1.out _).mono ?_)
  rintro e w5 ⟨rfl, hb5⟩
  have HX1c := Lib.hid (HX1b.out.on hb5)
  have HX2c := Lib.hid (HX2.out.on hb5)
  have HB5 := Lib.hid (below_next HB4.out hb5)
  obtain ⟨p0, p1, p2, p3⟩ := HK.out w5 HB5.out
  clear hb5
  go_wp2_with fail
  (with_reducible refine (HJ2.out _ (below_next HST0.out.below HB5.out)).mono ?_)
  rintro e w6 ⟨rfl, hb6⟩
  have HB6 := Lib.hid (below_next HB5.out hb6)
  obtain ⟨y0, y1, z0, z1, hl1⟩ := (HX1c.out.on hb6).facts
  obtain ⟨W7, hW7⟩ : ∃ W, W = (w6.setCell ⟨w1.heap.size, 0, none⟩ (.string R3)).setCell ⟨w1.heap.size, 1, none⟩ (.string R4) := ⟨_, rfl⟩
  have HB7 := Lib.hid (show Below W0.heap.size W0 W7 by rw [hW7]; exact below_set2 HB6.out HL1.out _ _)
  have HX1d := Lib.hid (show TxBox W7 w1.heap.size R3 R4 by rw [hW7]; exact set2_at (HX1c.out.on hb6))
  have HX2d := Lib.hid (show TxBox W7 w3.heap.size R1 R2 by rw [hW7]; exact (set2_far (fun e => HNE.out e.symm)).trans (HX2c.out.on hb6))
  clear p0 p1 p2 p3 hb6
  obtain ⟨p0, p1, p2, p3⟩ := HK.out W7 HB7.out
  rw [hW7] at p0 p1 p2 p3
  go_wp2_with fail
  rw [← hW7]
  clear hW7 y0 y1 z0 z1 hl1 p0 p1 p2 p3
  (with_reducible refine (HR2.out _ (below_next HST0.out.below HB7.out)).mono ?_)
  rintro e w8 ⟨rfl, hb8⟩
  have HB8 := Lib.hid (below_next HB7.out hb8)
  obtain ⟨y0, y1, z0, z1, hl1⟩ := (HX2d.out.on hb8).facts
  obtain ⟨W9, hW9⟩ : ∃ W, W = (w8.setCell ⟨w3.heap.size, 0, none⟩ (.string R3)).setCell ⟨w3.heap.size, 1, none⟩ (.string R4) := ⟨_, rfl⟩
  have HB9 := Lib.hid (show Below W0.heap.size W0 W9 by rw [hW9]; exact below_set2 HB8.out HL2.out _ _)
  have HX2e := Lib.hid (show TxBox W9 w3.heap.size R3 R4 by rw [hW9]; exact set2_at (HX2d.out.on hb8))
  have HX1e := Lib.hid (show TxBox W9 w1.heap.size R3 R4 by rw [hW9]; exact (set2_far HNE.out).trans (HX1d.out.on hb8))
  clear hb8
  obtain ⟨u0, u1, -, -, -⟩ := HX1e.out.facts
  obtain ⟨v0, v1, -, -, -⟩ := HX2e.out.facts
  rw [hW9] at u0 u1 v0 v1
  go_wp2_with fail
  rw [← hW9]
  clear hW9 y0 y1 z0 z1 hl1 u0 u1 v0 v1
  (with_reducible refine (HS2.out _).mono ?_)
  rintro e w10 ⟨rfl, hb10⟩
  have HB10 := Lib.hid (below_next HB9.out hb10)
  obtain ⟨p0, p1, p2, p3⟩ := HK.out w10 HB10.out
  clear hb10
  go_wp2_with fail
  (with_reducible refine (HJ3.out _).mono ?_)
  rintro e w11 ⟨rfl, hb11⟩
  have HB11 := Lib.hid (below_next HB10.out hb11)
  clear p0 p1 p2 p3 hb11
  obtain ⟨p0, p1, p2, p3⟩ := HK.out w11 HB11.out
  go_wp2_with fail
  (with_reducible refine (HR3.out _).mono ?_)
  rintro e w12 ⟨rfl, hb12⟩
  have HB12 := Lib.hid (below_next HST0.out.below (below_next HB11.out hb12))
  clear p0 p1 p2 p3 hb12
  go_wp2_with fail
  (with_reducible refine (HH.out _ HB12.out).mono ?_)
  rintro e w13 ⟨rfl, hb13⟩
  have HB13 := Lib.hid (below_next HB12.out hb13)
  clear hb13
  go_wp2
  go_ret
  exact ⟨by rfl, HB13.out⟩
end Go.Proofs.YtpmnhdgajkickaaGreatDoor
