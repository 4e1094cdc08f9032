/- Package judge: the sum of two fractions. -/
import Derived.Test.YtpmnhdgajkickaaGreatDoorJQ
namespace Go.Proofs.YtpmnhdgajkickaaGreatDoor
open Go Go.RowKit Go.Proofs

/-- an array of two fractions in memory -/
def JTwo (w : World) (B : Nat) (p q : Rat) (n m : Nat) : Prop := ∃ b1 A1 c1 l1 A2 c2 l2 b2 A3 c3 l3 A4 c4 l4 t, w.heap[B]? = some (.cells #[.bool b1, .slice A1 (l1 : List Nat).length c1, .slice A2 (l2 : List Nat).length c2, .bool b2, .slice A3 (l3 : List Nat).length c3, .slice A4 (l4 : List Nat).length c4] t (0, 0)) ∧ JQ w (.agg #[.bool b1, .slice A1 l1.length c1, .slice A2 l2.length c2]) p n ∧ JQ w (.agg #[.bool b2, .slice A3 l3.length c3, .slice A4 l4.length c4]) q m
theorem JTwo.on {w w' : World} {B n m : Nat} {p q : Rat} (h : JTwo w B p q n m) (hb : Below w.heap.size w w') : JTwo w' B p q n m := by
  obtain ⟨b1, A1, c1, l1, A2, c2, l2, b2, A3, c3, l3, A4, c4, l4, t, e, h1, h2⟩ := h
  exact ⟨b1, A1, c1, l1, A2, c2, l2, b2, A3, c3, l3, A4, c4, l4, t, (hb.block B (heap_lt e)).trans e, h1.on hb, h2.on hb⟩
set_option maxHeartbeats 8000000 in
set_option maxRecDepth 100000 in
theorem jSum_any (B n m : Nat) (p q : Rat) (w : World) (hn : n ≤ 90000) (hm : m ≤ 90000) (h : JTwo w B p q n m) : Calls Tryz.prog 74 #[.slice (some ⟨B, 0, none⟩) 2 2] w (JQPost (p + q) (n + m + 3) w) := by
  obtain ⟨b1, A1, c1, l1, A2, c2, l2, b2, A3, c3, l3, A4, c4, l4, t, hB, hp, hq⟩ := h
  obtain ⟨W0, hW0⟩ : ∃ W0, W0 = w.alloc (.cells #[.bool false, .slice none 0 0, .slice none 0 0] 53) := ⟨_, rfl⟩
  have hb0 : Below w.heap.size w W0 := by rw [hW0]; exact (Below.refl _ w).alloc (Nat.le_refl _) _
  have HX0 := Lib.hid (show JBox W0 w.heap.size by rw [hW0]; exact alloc_at _ _ _ rfl)
  have hs0 : W0.heap.size = w.heap.size + 1 := by rw [hW0]; simp
  have HW := Lib.hid (fun W => jWholeQ 0 W (by omega) (by omega))
  have HP := Lib.hid (fun W (hb : Below W0.heap.size W0 W) => hp.on (below_next hb0 hb))
  have HQ := Lib.hid (fun W (hb : Below W0.heap.size W0 W) => hq.on (below_next hb0 hb))
  have HF := Lib.hid (show ∀ W, Below W0.heap.size W0 W → W.cell? ⟨B, 0, none⟩ = some (.bool b1) ∧ W.cell? ⟨B, 1, none⟩ = some (.slice A1 l1.length c1) ∧ W.cell? ⟨B, 2, none⟩ = some (.slice A2 l2.length c2) ∧ W.cell? ⟨B, 3, none⟩ = some (.bool b2) ∧ W.cell? ⟨B, 4, none⟩ = some (.slice A3 l3.length c3) ∧ W.cell? ⟨B, 5, none⟩ = some (.slice A4 l4.length c4) from fun W hW => by
    have e := ((below_next hb0 hW).block B (heap_lt hB)).trans hB
    exact ⟨by rw [cellsAt e]; rfl, by rw [cellsAt e]; rfl, by rw [cellsAt e]; rfl, by rw [cellsAt e]; rfl, by rw [cellsAt e]; rfl, by rw [cellsAt e]; rfl⟩)
  have HB0 := Lib.hid hb0
  clear hp hq hB hb0
  go_enter Tryz.func74, Tryz.ntmps74
  go_wp2_with fail
  rw [← hW0]
  clear hW0
  (with_reducible refine (HW.out _).mono ?_)
  rintro e w1 ⟨v1, rfl, hv1, hb1⟩
  obtain ⟨bz, Z1, d1, k1, Z2, d2, k2, rfl⟩ := hv1.shape
  have hvar := JVQ.laid hv1
  obtain ⟨W2, hW2⟩ : ∃ W2, W2 = w1.alloc (.cells #[.bool bz, .slice Z1 k1.length d1, .slice Z2 k2.length d2] 53) := ⟨_, rfl⟩
  rw [← hW2] at hvar
  have HVAR := Lib.hid hvar
  have HB2 := Lib.hid (show Below W0.heap.size W0 W2 by rw [hW2]; exact hb1.alloc hb1.size _)
  have hle1 := hb1.size
  clear hv1 hb1 hvar
  go_wp2
  rw [← hW2]
  clear hW2
  go_loopw [9] (fun kv wr => ∃ i : Nat, kv = .int .i64 (i : Nat) ∧ (i = 0 ∧ JVQ wr w1.heap.size ((0 : Int) : Rat) 1 ∨ i = 1 ∧ JVQ wr w1.heap.size (((0 : Int) : Rat) + p) (1 + n + 1) ∨ i = 2 ∧ JVQ wr w1.heap.size (((0 : Int) : Rat) + p + q) (1 + n + 1 + m + 1)) ∧ Below W0.heap.size W0 wr) (fun kv _ => 2 - (intOf kv).toNat)
  case atStart => exact ⟨0, rfl, .inl ⟨rfl, HVAR.out⟩, HB2.out⟩
  case round =>
    obtain ⟨i, rfl, hcase, hbw⟩ := hrel
    rcases hcase with ⟨rfl, hvar⟩ | ⟨rfl, hvar⟩ | ⟨rfl, hvar⟩
    · obtain ⟨bo, D1, e1, m1, D2, e2, m2, hget, hjo⟩ := hvar.get
      have HJO := Lib.hid hjo
      have HG := Lib.hid hget
      have HBW := Lib.hid hbw
      have HV0 := Lib.hid (hjo.on ((Below.refl _ wr).alloc (Nat.le_refl _) (.cells #[.bool b1, .slice A1 l1.length c1, .slice A2 l2.length c2] 53)))
      have HV1 := Lib.hid ((HP.out wr hbw).on ((Below.refl _ wr).alloc (Nat.le_refl _) (.cells #[.bool b1, .slice A1 l1.length c1, .slice A2 l2.length c2] 53)))
      obtain ⟨g0, g1, g2, z0, z1, z2, hlt1⟩ := hget wr (Below.refl _ _)
      obtain ⟨f0, f1, f2, f3, f4, f5⟩ := HF.out wr hbw
      obtain ⟨W3, hW3⟩ : ∃ W3, W3 = wr.alloc (.cells #[.bool b1, .slice A1 l1.length c1, .slice A2 l2.length c2] 53) := ⟨_, rfl⟩
      have hb3 : Below wr.heap.size wr W3 := by rw [hW3]; exact (Below.refl _ wr).alloc (Nat.le_refl _) _
      have o3 := (hget W3 hb3)
      have HB3 := Lib.hid hb3
      have HVW := Lib.hid hvar
      rw [← hW3] at HV0 HV1
      obtain ⟨o0, o1, o2, -, -, -, -⟩ := o3
      rw [hW3] at o0 o1 o2
      clear hvar hget hjo hbw hb3
      go_wp2_with fail
      rw [← hW3]
      clear hW3 o0 o1 o2
      (with_reducible refine (jPlusQ 1 n _ _ _ _ _ (by omega) (by omega) HV0.out HV1.out).mono ?_)
      rintro e w5 ⟨v5, rfl, hv5, hb5⟩
      obtain ⟨b5, A5, c5, l5, A6, c6, l6, rfl⟩ := hv5.shape
      have hb35 := below_next HB3.out hb5
      obtain ⟨g0, g1, g2, z0, z1, z2, hlt1⟩ := HG.out w5 hb35
      obtain ⟨bY, Y1, y1, t1, Y2, y2, t2, eX, -⟩ := HVW.out.on hb35
      have HS5 := Lib.hid (JVQ.set eX hv5)
      have HBN := Lib.hid ((((below_next HBW.out hb35).setCell (p := ⟨w1.heap.size, 0, none⟩) hle1 (.bool b5)).setCell (p := ⟨w1.heap.size, 1, none⟩) hle1 (.slice A5 l5.length c5)).setCell (p := ⟨w1.heap.size, 2, none⟩) hle1 (.slice A6 l6.length c6))
      clear hv5 hb5 hb35 eX HVW HV0 HV1 f0 f1 f2 f3 f4 f5
      go_wp2
      go_roundw
      case rel => exact ⟨_, by go_num, .inr (.inl ⟨rfl, HS5.out⟩), HBN.out⟩
      case measure => simp [intOf]
    · obtain ⟨bo, D1, e1, m1, D2, e2, m2, hget, hjo⟩ := hvar.get
      have HJO := Lib.hid hjo
      have HG := Lib.hid hget
      have HBW := Lib.hid hbw
      have HV0 := Lib.hid (hjo.on ((Below.refl _ wr).alloc (Nat.le_refl _) (.cells #[.bool b2, .slice A3 l3.length c3, .slice A4 l4.length c4] 53)))
      have HV1 := Lib.hid ((HQ.out wr hbw).on ((Below.refl _ wr).alloc (Nat.le_refl _) (.cells #[.bool b2, .slice A3 l3.length c3, .slice A4 l4.length c4] 53)))
      obtain ⟨g0, g1, g2, z0, z1, z2, hlt1⟩ := hget wr (Below.refl _ _)
      obtain ⟨f0, f1, f2, f3, f4, f5⟩ := HF.out wr hbw
      obtain ⟨W3, hW3⟩ : ∃ W3, W3 = wr.alloc (.cells #[.bool b2, .slice A3 l3.length c3, .slice A4 l4.length c4] 53) := ⟨_, rfl⟩
      have hb3 : Below wr.heap.size wr W3 := by rw [hW3]; exact (Below.refl _ wr).alloc (Nat.le_refl _) _
      have o3 := (hget W3 hb3)
      have HB3 := Lib.hid hb3
      have HVW := Lib.hid hvar
      rw [← hW3] at HV0 HV1
      obtain ⟨o0, o1, o2, -, -, -, -⟩ := o3
      rw [hW3] at o0 o1 o2
      clear hvar hget hjo hbw hb3
      go_wp2_with fail
      rw [← hW3]
      clear hW3 o0 o1 o2
      (with_reducible refine (jPlusQ (1 + n + 1) m _ _ _ _ _ (by omega) (by omega) HV0.out HV1.out).mono ?_)
      rintro e w5 ⟨v5, rfl, hv5, hb5⟩
      obtain ⟨b5, A5, c5, l5, A6, c6, l6, rfl⟩ := hv5.shape
      have hb35 := below_next HB3.out hb5
      obtain ⟨g0, g1, g2, z0, z1, z2, hlt1⟩ := HG.out w5 hb35
      obtain ⟨bY, Y1, y1, t1, Y2, y2, t2, eX, -⟩ := HVW.out.on hb35
      have HS5 := Lib.hid (JVQ.set eX hv5)
      have HBN := Lib.hid ((((below_next HBW.out hb35).setCell (p := ⟨w1.heap.size, 0, none⟩) hle1 (.bool b5)).setCell (p := ⟨w1.heap.size, 1, none⟩) hle1 (.slice A5 l5.length c5)).setCell (p := ⟨w1.heap.size, 2, none⟩) hle1 (.slice A6 l6.length c6))
      clear hv5 hb5 hb35 eX HVW HV0 HV1 f0 f1 f2 f3 f4 f5
      go_wp2
      go_roundw
      case rel => exact ⟨_, by go_num, .inr (.inr ⟨rfl, HS5.out⟩), HBN.out⟩
      case measure => simp [intOf]
    · obtain ⟨bo, D1, e1, m1, D2, e2, m2, hget, hjo⟩ := hvar.get
      obtain ⟨g0, g1, g2, z0, z1, z2, hlt1⟩ := hget wr (Below.refl _ _)
      obtain ⟨k0, k1, k2, q0, q1, q2, hlt⟩ := (HX0.out.on hbw).facts
      have HFN := Lib.hid (jq_ret (HX0.out.on hbw) hjo (below_next HB0.out hbw) (Nat.le_refl _) (fr3 (w := wr) (B := w.heap.size) (.bool bo) (.slice D1 m1.length e1) (.slice D2 m2.length e2)))
      have HSZ := Lib.hid (show ((0 : Int) : Rat) + p + q = p + q by rw [show ((0 : Int) : Rat) = 0 from rfl, Rat.zero_add])
      have HSN := Lib.hid (show 1 + n + 1 + m + 1 = n + m + 3 by omega)
      clear hvar hget hjo hbw
      go_wp2
      refine bodyPost_ret (v := .agg #[.bool bo, .slice D1 m1.length e1, .slice D2 m2.length e2]) (by simp [results, Tryz.results74, go_sem, k0, k1, k2]) rfl ⟨_, rfl, by rw [← HSZ.out, ← HSN.out]; exact HFN.out.1, HFN.out.2⟩
end Go.Proofs.YtpmnhdgajkickaaGreatDoor
