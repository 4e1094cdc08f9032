import Derived.Test.YthfloagpmmohkaaGreatDoorG34
import Derived.Lib.AppendStr
import Derived.Test.YthfloagpmmohkaaGreatDoorInkC
/- Ink: texts and fractions; package dynamometerlaw7's toldRatio. -/
namespace Go.Proofs.YthfloagpmmohkaaGreatDoor
open Go Go.RowKit Go.Proofs

def inkText (L : List UInt8) : List UInt8 := inkInt L.length ++ L
theorem strCells_bytes (L : List UInt8) : Lib.strCells ⟨L.toArray⟩ = Lib.byteCells L := by
  simp [Lib.strCells, Lib.byteCells]
theorem size_bytes (L : List UInt8) : (⟨L.toArray⟩ : ByteArray).size = L.length := by simp [ByteArray.size]

end Go.Proofs.YthfloagpmmohkaaGreatDoor

/- Ink, with the fine frame: texts. -/
namespace Go.Proofs.YthfloagpmmohkaaGreatDoor
open Go Go.RowKit Go.Proofs

theorem InkFc.step {K base n : Nat} {w w2 : World} {v V : Value} {xs : List Value} (hK : w.heap[K]? = some (.cells #[v] 29 (0, 0))) (hown : w.ownsRow base 5 1 v n xs) (hf : Fr (fun i => i = K ∨ some i = v.ownBlock) w w2)
    (hK2 : w2.heap[K]? = some (.cells #[V] 29 (0, 0))) (hat : V.ownBlock = v.ownBlock ∨ ∃ b, V.ownBlock = some b ∧ w.heap.size ≤ b) : InkFc K base w w2 :=
  ⟨hf.mono (fun i hi h => h.elim .inl (fun h => .inr ⟨(ownBlock_u8 hown h).1, (ownBlock_u8 hown h).2, ⟨v, _, hK, h⟩⟩)), fun i hi ho => by
    obtain ⟨v', fz, hv', hi'⟩ := ho
    rw [hK2] at hv'
    simp only [Option.some.injEq, Obj.cells.injEq] at hv'
    have hv2 : v' = V := by have := congrArg (fun (a : Array Value) => a[0]?) hv'.1; simpa using this.symm
    rw [hv2] at hi'
    refine ⟨v, _, hK, ?_⟩
    rcases hat with h | ⟨b, h, hb⟩
    · rw [← h]; exact hi'
    · rw [h] at hi'
      have := Option.some.inj hi'
      omega⟩
set_option maxHeartbeats 2000000 in
set_option maxRecDepth 100000 in
theorem inkTextC (K base : Nat) (bs L : List UInt8) (w : World) (h : InkAt w K base bs) (hl : bs.length < 50000000000000) (hL : L.length ≤ 1000000000) :
    Calls Tryz.prog 47 #[.pointer (some ⟨K, 0, none⟩), .string ⟨L.toArray⟩] w fun e w' => e = .returned (.tuple #[]) ∧ InkAt w' K base (bs ++ inkText L) ∧ InkFc K base w w' := by
  have l2 := inkInt_length (L.length : Int) (by omega) (by omega)
  obtain ⟨i0, hi, hz0, hz1, hz2⟩ := info_parts Tryz.info8
  have HI := Lib.hid (inkIntC K base bs (L.length : Int) w h (by omega) (by omega) (by omega))
  clear h
  go_enter Tryz.func47, Tryz.ntmps47
  go_wp2_with fail
  refine HI.out.mono ?_
  rintro e w1 ⟨rfl, ⟨hKb, hbw, htab, v, hbx, hown⟩, hf1⟩
  have HF1 := Lib.hid hf1
  have HT := Lib.hid htab
  have hc : w1.cell? ⟨K, 0, none⟩ = some v := by rw [cellsAt hbx]; rfl
  have hz : w1.frozen? ⟨K, 0, none⟩ = false := frozenAt hbx 0
  have hKw : K < w1.heap.size := heap_lt hbx
  obtain ⟨B1, hB1⟩ : ∃ B1, B1 = bs ++ inkInt L.length := ⟨_, rfl⟩
  have hBl : B1.length ≤ bs.length + 22 := by rw [hB1, List.length_append]; omega
  rw [← hB1] at hown
  have HBB := Lib.hid hB1
  have HO1 := Lib.hid hown
  have HX1 := Lib.hid hbx
  clear hf1 htab hown hbx hB1 HI
  go_wp2_with (at_builtin; refine wpList_append_lies_string _ rfl (.tmp 12) (.tmp 13) 27 9 rfl base 5 i0 Tryz.underlying27 Tryz.underlying9 hi hz0 hz1 hz2 v B1.length (Lib.byteCells B1) rfl HO1.out ⟨L.toArray⟩ rfl ?c1 ?c2 ?c3 ?_)
  case c1 => rw [size_bytes]; unfold maxLen; omega
  case c2 => rw [size_bytes]; omega
  case c3 => exact hbw
  intro v' w2 hown2 hgr2 hat2
  try rw [size_bytes] at hown2
  try rw [strCells_bytes] at hown2
  have hfg := Fr.of_grown hgr2
  have hne : ¬ some K = v.ownBlock := fun hv => by have := (ownsRow_block HO1.out hv).1; omega
  have hbx2 : w2.heap[K]? = some (.cells #[v] 29 (0, 0)) := (hfg.block K hKw hne).trans HX1.out
  have hc2 : w2.cell? ⟨K, 0, none⟩ = some v := by rw [cellsAt hbx2]; rfl
  have hz2' : w2.frozen? ⟨K, 0, none⟩ = false := frozenAt hbx2 0
  have HF2 := Lib.hid (hfg.mono (may' := fun i => i = K ∨ some i = v.ownBlock) (fun i _ hi => .inr hi))
  have HBK := Lib.hid (show Below K w1 w2 from hfg.below (B := K) (by omega) (fun i hi hm => by have := (ownsRow_block HO1.out hm).1; omega))
  have HX2 := Lib.hid hbx2
  have HO2 := Lib.hid hown2
  have hs2 := hgr2.size
  obtain ⟨A2, cap2, rfl, _, _, _⟩ := ownsRow_shape hown2
  obtain ⟨V2, hV2⟩ : ∃ V : Value, V = .slice A2 (B1.length + L.length) cap2 := ⟨_, rfl⟩
  rw [← hV2] at HO2
  have hf3 : InkFc K base w (w2.setCell ⟨K, 0, none⟩ V2) := HF1.out.trans (InkFc.step HX1.out HO1.out (Fr.setCell HF2.out (fun _ => .inl rfl) _) (by have := HX2.out; simp [World.setCell, Array.getElem?_modify, this]; rfl) (by rw [hV2]; exact hat2.elim .inl (fun h => .inr ⟨_, h, Nat.le_refl _⟩)))
  have hf4 : Fr (fun i => i = K) w2 (w2.setCell ⟨K, 0, none⟩ V2) := (Fr.refl (fun i => i = K) w2).setCell (fun _ => rfl) _
  have HF3 := Lib.hid hf3
  have HF4 := Lib.hid hf4
  have HB4 := Lib.hid (HBK.out.setCell (p := ⟨K, 0, none⟩) (Nat.le_refl K) V2)
  rw [hV2] at HF3 HF4 HB4 HO2
  clear hown2 hgr2 hat2 hfg hne hbx2 hc hz hf3 hf4 hV2
  go_wp2
  go_end0
  refine ⟨rfl, ⟨hKb, by have := HF4.out.size; omega, HT.out.on HB4.out, .slice A2 (B1.length + L.length) cap2, ?_, ?_⟩, HF3.out⟩
  · have := HX2.out
    simp [World.setCell, Array.getElem?_modify, this]
  · have h2 := ownsRow_fr HO2.out HF4.out (fun i hi => by have := (ownsRow_block HO2.out hi).1; omega)
    have e1 : (bs ++ inkText L).length = B1.length + L.length := by rw [HBB.out]; simp [inkText]; omega
    have e2 : Lib.byteCells (bs ++ inkText L) = Lib.byteCells B1 ++ Lib.byteCells L := by rw [HBB.out]; simp [inkText, Lib.byteCells]
    rw [e1, e2]; exact h2
end Go.Proofs.YthfloagpmmohkaaGreatDoor
