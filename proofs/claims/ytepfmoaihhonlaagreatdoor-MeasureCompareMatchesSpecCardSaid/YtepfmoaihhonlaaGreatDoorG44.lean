import Derived.Test.YtepfmoaihhonlaaGreatDoorG24
import Derived.Lib.AppendStr
import Derived.Test.YtepfmoaihhonlaaGreatDoorOf
/- Ink: texts and fractions; package dynamometerlaw7's toldRatio. -/
namespace Go.Proofs.YtepfmoaihhonlaaGreatDoor
open Go Go.RowKit Go.Proofs

def inkText (L : List UInt8) : List UInt8 := inkInt L.length ++ L
theorem strCells_bytes (L : List UInt8) : Lib.strCells ⟨L.toArray⟩ = Lib.byteCells L := by
  simp [Lib.strCells, Lib.byteCells]
theorem size_bytes (L : List UInt8) : (⟨L.toArray⟩ : ByteArray).size = L.length := by simp [ByteArray.size]

set_option maxHeartbeats 2000000 in
set_option maxRecDepth 100000 in
theorem inkText_any (K base : Nat) (bs L : List UInt8) (w : World) (h : InkAt w K base bs) (hl : bs.length < 10000000000) (hL : L.length ≤ 1000000000) :
    Calls Tryz.prog 131 #[.pointer (some ⟨K, 0, none⟩), .string ⟨L.toArray⟩] w fun e w' => e = .returned (.tuple #[]) ∧ InkAt w' K base (bs ++ inkText L) ∧ InkFr K base w w' := by
  have l2 := inkInt_length (L.length : Int) (by omega) (by omega)
  obtain ⟨i0, hi, hz0, hz1, hz2⟩ := info_parts Tryz.info8
  have HI := Lib.hid (inkInt_any K base bs (L.length : Int) w h (by omega) (by omega) (by omega))
  clear h
  go_enter Tryz.func131, Tryz.ntmps131
  go_wp2_with fail
  refine HI.out.mono ?_
  rintro e w1 ⟨rfl, ⟨hKb, hbw, htab, v, hbx, hown⟩, hf1⟩
  have HF1 := Lib.hid hf1
  have HT := Lib.hid htab
  have hc : w1.cell? ⟨K, 0, none⟩ = some v := by rw [cellsAt hbx]; rfl
  have hz : w1.frozen? ⟨K, 0, none⟩ = false := frozenAt hbx 0
  have hKw : K < w1.heap.size := heap_lt hbx
  obtain ⟨B1, hB1⟩ : ∃ B1, B1 = bs ++ inkInt L.length := ⟨_, rfl⟩
  have hBl : B1.length ≤ bs.length + 22 := by rw [hB1, List.length_append]; omega
  rw [← hB1] at hown
  have HBB := Lib.hid hB1
  have HO1 := Lib.hid hown
  have HX1 := Lib.hid hbx
  clear hf1 htab hown hbx hB1 HI
  go_wp2_with (at_builtin; refine Lib.wpList_append_own_string _ rfl (.tmp 12) (.tmp 13) 68 9 rfl base 5 i0 Tryz.underlying68 Tryz.underlying9 hi hz0 hz1 hz2 v B1.length (Lib.byteCells B1) rfl HO1.out ⟨L.toArray⟩ rfl ?c1 ?c2 ?c3 ?_)
  case c1 => rw [size_bytes]; unfold maxLen; omega
  case c2 => rw [size_bytes]; omega
  case c3 => exact hbw
  intro v' w2 hown2 hgr2 _
  try rw [size_bytes] at hown2
  try rw [strCells_bytes] at hown2
  have hfg := Fr.of_grown hgr2
  have hne : ¬ some K = v.ownBlock := fun hv => by have := (ownsRow_block HO1.out hv).1; omega
  have hbx2 : w2.heap[K]? = some (.cells #[v] 70 (0, 0)) := (hfg.block K hKw hne).trans HX1.out
  have hc2 : w2.cell? ⟨K, 0, none⟩ = some v := by rw [cellsAt hbx2]; rfl
  have hz2' : w2.frozen? ⟨K, 0, none⟩ = false := frozenAt hbx2 0
  have HF2 : Hid (InkFr K base w w2) := Lib.hid (HF1.out.trans (hfg.mono (fun i _ hi => .inr (ownBlock_u8 HO1.out hi))))
  have HBK := Lib.hid (show Below K w1 w2 from hfg.below (B := K) (by omega) (fun i hi hm => by have := (ownsRow_block HO1.out hm).1; omega))
  have HX2 := Lib.hid hbx2
  have HO2 := Lib.hid hown2
  have hs2 := hgr2.size
  obtain ⟨A2, cap2, rfl, _, _, _⟩ := ownsRow_shape hown2
  obtain ⟨V2, hV2⟩ : ∃ V : Value, V = .slice A2 (B1.length + L.length) cap2 := ⟨_, rfl⟩
  rw [← hV2] at HO2
  have hf3 : InkFr K base w (w2.setCell ⟨K, 0, none⟩ V2) := Fr.setCell HF2.out (fun _ => .inl rfl) _
  have hf4 : Fr (fun i => i = K) w2 (w2.setCell ⟨K, 0, none⟩ V2) := (Fr.refl (fun i => i = K) w2).setCell (fun _ => rfl) _
  have HF3 := Lib.hid hf3
  have HF4 := Lib.hid hf4
  have HB4 := Lib.hid (HBK.out.setCell (p := ⟨K, 0, none⟩) (Nat.le_refl K) V2)
  rw [hV2] at HF3 HF4 HB4 HO2
  clear hown2 hgr2 hfg hne hbx2 hc hz hf3 hf4 hV2
  go_wp2
  go_end0
  refine ⟨rfl, ⟨hKb, by have := HF4.out.size; omega, HT.out.on HB4.out, .slice A2 (B1.length + L.length) cap2, ?_, ?_⟩, HF3.out⟩
  · have := HX2.out
    simp [World.setCell, Array.getElem?_modify, this]
  · have h2 := ownsRow_fr HO2.out HF4.out (fun i hi => by have := (ownsRow_block HO2.out hi).1; omega)
    have e1 : (bs ++ inkText L).length = B1.length + L.length := by rw [HBB.out]; simp [inkText]; omega
    have e2 : Lib.byteCells (bs ++ inkText L) = Lib.byteCells B1 ++ Lib.byteCells L := by rw [HBB.out]; simp [inkText, Lib.byteCells]
    rw [e1, e2]; exact h2
set_option maxHeartbeats 2000000 in
set_option maxRecDepth 100000 in
theorem inkRatio_any (K base : Nat) (bs a b : List UInt8) (w : World) (h : InkAt w K base bs) (hl : bs.length < 1000000000) (ha : a.length ≤ 100000000) (hb : b.length ≤ 100000000) :
    Calls Tryz.prog 58 #[.pointer (some ⟨K, 0, none⟩), .agg #[.string ⟨a.toArray⟩, .string ⟨b.toArray⟩]] w fun e w' => e = .returned (.tuple #[]) ∧ InkAt w' K base (bs ++ inkText a ++ inkText b) ∧ InkFr K base w w' := by
  have la := inkInt_length (a.length : Int) (by omega) (by omega)
  have lia : (inkText a).length ≤ a.length + 22 := by simp only [inkText, List.length_append]; omega
  obtain ⟨W0, hW0⟩ : ∃ W0, W0 = w.alloc (.cells #[.string ⟨a.toArray⟩, .string ⟨b.toArray⟩] 31) := ⟨_, rfl⟩
  have hx0 : W0.heap[w.heap.size]? = some (.cells #[.string ⟨a.toArray⟩, .string ⟨b.toArray⟩] 31 (0, 0)) := by rw [hW0]; exact alloc_at _ _ _ rfl
  have hKw : K < w.heap.size := by have := h.1; have := h.2.1; omega
  have h0 : InkAt W0 K base bs := h.fr (may := fun _ => False) (by rw [hW0]; exact (Fr.refl _ w).alloc _) (fun _ _ h => h) (fun _ _ _ h => h)
  have hf0 : InkFr K base w W0 := by rw [hW0]; exact (InkFr.refl K base w).alloc _
  have HT1 := Lib.hid (inkText_any K base bs a W0 h0 (by omega) (by omega))
  have HF0 := Lib.hid hf0
  have HX0 := Lib.hid hx0
  have q0 : W0.cell? ⟨w.heap.size, 0, none⟩ = some (.string ⟨a.toArray⟩) := by rw [cellsAt hx0]; rfl
  clear h h0 hf0 hx0
  go_enter Tryz.func58, Tryz.ntmps58
  go_wp2_with fail
  rw [← hW0]
  clear hW0
  refine HT1.out.mono ?_
  rintro e w1 ⟨rfl, hi1, hf1⟩
  have e1 := hf1.keep HX0.out (by decide) (by omega)
  have q1 : w1.cell? ⟨w.heap.size, 1, none⟩ = some (.string ⟨b.toArray⟩) := by rw [cellsAt e1]; rfl
  have HT2 := Lib.hid (inkText_any K base _ b w1 hi1 (by rw [List.length_append]; omega) (by omega))
  have HF1 := Lib.hid (HF0.out.trans hf1)
  clear hi1 hf1 e1 q0
  go_wp2_with fail
  refine HT2.out.mono ?_
  rintro e w2 ⟨rfl, hi2, hf2⟩
  have HI2 := Lib.hid hi2
  have HF2 := Lib.hid (HF1.out.trans hf2)
  clear hi2 hf2
  go_wp2
  go_end0
  exact ⟨rfl, HI2.out, HF2.out⟩
/-- what toldRatio tells -/
def tellRat (a b : List UInt8) (e : Int) : List UInt8 := inkText a ++ inkText b ++ inkInt e
set_option maxHeartbeats 2000000 in
set_option maxRecDepth 100000 in
theorem toldRat_any (a b : List UInt8) (e : Int) (w : World) (ht : Tab w.heap.size w) (ha : a.length ≤ 100000000) (hb : b.length ≤ 100000000) (he : I64 e) :
    Calls Tryz.prog 14 #[.agg #[.string ⟨a.toArray⟩, .string ⟨b.toArray⟩], .int .i64 e] w fun r w' => r = .returned (.string ⟨(tellRat a b e).toArray⟩) ∧ Below w.heap.size w w' := by
  have la := inkInt_length (a.length : Int) (by omega) (by omega)
  have lb := inkInt_length (b.length : Int) (by omega) (by omega)
  have l3 := inkInt_length e he.1 he.2
  have lia : (inkText a ++ inkText b).length ≤ a.length + b.length + 44 := by simp only [inkText, List.length_append]; omega
  obtain ⟨W0, hW0⟩ : ∃ W0, W0 = (w.alloc (.cells #[.string ⟨a.toArray⟩, .string ⟨b.toArray⟩] 31)).alloc (.cells #[.slice none 0 0] 70) := ⟨_, rfl⟩
  have hs0 : W0.heap.size = w.heap.size + 2 := by rw [hW0]; simp
  have hb0 : Below w.heap.size w W0 := by rw [hW0]; exact ((Below.refl _ w).alloc (Nat.le_refl _) _).alloc (by simp) _
  have hx0 : W0.heap[w.heap.size]? = some (.cells #[.string ⟨a.toArray⟩, .string ⟨b.toArray⟩] 31 (0, 0)) := by rw [hW0]; exact (Below.heap_alloc _ _ _ (by simp)).trans (alloc_at _ _ _ rfl)
  have hi0 : InkAt W0 (w.heap.size + 1) (w.heap.size + 2) [] := by
    refine ⟨by omega, by omega, fun W hW => ht W (hb0.trans (hW.mono (by omega))), .slice none 0 0, ?_, ⟨by simp [Lib.byteCells], .inl ⟨rfl, rfl⟩⟩⟩
    rw [hW0]; exact alloc_at _ _ _ (by simp)
  have HR := Lib.hid (inkRatio_any (w.heap.size + 1) (w.heap.size + 2) [] a b W0 hi0 (by simp) ha hb)
  have HE := Lib.hid he
  have HB0 := Lib.hid hb0
  have q0 : W0.cell? ⟨w.heap.size, 0, none⟩ = some (.string ⟨a.toArray⟩) := by rw [cellsAt hx0]; rfl
  have q1 : W0.cell? ⟨w.heap.size, 1, none⟩ = some (.string ⟨b.toArray⟩) := by rw [cellsAt hx0]; rfl
  clear ht hi0 hb0 hx0 he
  go_enter Tryz.func14, Tryz.ntmps14
  go_wp2_with fail
  rw [← hW0]
  clear hW0
  refine HR.out.mono ?_
  rintro r w1 ⟨rfl, hi1, hf1⟩
  rw [List.nil_append] at hi1
  have HI1 := Lib.hid (inkErrno_any _ _ _ e _ hi1 (by omega) HE.out)
  have HF1 := Lib.hid hf1
  clear hi1 hf1 q0 q1
  go_wp2_with fail
  refine HI1.out.mono ?_
  rintro r w2 ⟨rfl, hi2, hf2⟩
  have HI2 := Lib.hid (told_any0 _ _ _ _ hi2 (by rw [List.length_append]; omega))
  have HF2 := Lib.hid (HF1.out.trans hf2)
  clear hi2 hf2
  go_wp2_with fail
  refine HI2.out.mono ?_
  rintro r w3 ⟨rfl, rfl⟩
  go_wp2
  go_ret
  exact ⟨by simp [tellRat], HB0.out.trans ((HF2.out.below (by omega) (by omega)).mono (by omega))⟩
end Go.Proofs.YtepfmoaihhonlaaGreatDoor

/- Package dynamometerlaw9: toldRatio. -/
namespace Go.Proofs.YtepfmoaihhonlaaGreatDoor
open Go Go.RowKit Go.Proofs

/-- what toldRatio tells -/
def tellRatM (a b : List UInt8) : List UInt8 := inkText a ++ inkText b
set_option maxHeartbeats 2000000 in
set_option maxRecDepth 100000 in
theorem toldRatM_any (a b : List UInt8) (w : World) (ht : Tab w.heap.size w) (ha : a.length ≤ 100000000) (hb : b.length ≤ 100000000) :
    Calls Tryz.prog 32 #[.agg #[.string ⟨a.toArray⟩, .string ⟨b.toArray⟩]] w fun r w' => r = .returned (.string ⟨(tellRatM a b).toArray⟩) ∧ Below w.heap.size w w' := by
  have la := inkInt_length (a.length : Int) (by omega) (by omega)
  have lb := inkInt_length (b.length : Int) (by omega) (by omega)
  have lia : (inkText a ++ inkText b).length ≤ a.length + b.length + 44 := by simp only [inkText, List.length_append]; omega
  obtain ⟨W0, hW0⟩ : ∃ W0, W0 = (w.alloc (.cells #[.string ⟨a.toArray⟩, .string ⟨b.toArray⟩] 31)).alloc (.cells #[.slice none 0 0] 70) := ⟨_, rfl⟩
  have hs0 : W0.heap.size = w.heap.size + 2 := by rw [hW0]; simp
  have hb0 : Below w.heap.size w W0 := by rw [hW0]; exact ((Below.refl _ w).alloc (Nat.le_refl _) _).alloc (by simp) _
  have hx0 : W0.heap[w.heap.size]? = some (.cells #[.string ⟨a.toArray⟩, .string ⟨b.toArray⟩] 31 (0, 0)) := by rw [hW0]; exact (Below.heap_alloc _ _ _ (by simp)).trans (alloc_at _ _ _ rfl)
  have hi0 : InkAt W0 (w.heap.size + 1) (w.heap.size + 2) [] := by
    refine ⟨by omega, by omega, fun W hW => ht W (hb0.trans (hW.mono (by omega))), .slice none 0 0, ?_, ⟨by simp [Lib.byteCells], .inl ⟨rfl, rfl⟩⟩⟩
    rw [hW0]; exact alloc_at _ _ _ (by simp)
  have HR := Lib.hid (inkRatio_any (w.heap.size + 1) (w.heap.size + 2) [] a b W0 hi0 (by simp) ha hb)
  have HB0 := Lib.hid hb0
  have q0 : W0.cell? ⟨w.heap.size, 0, none⟩ = some (.string ⟨a.toArray⟩) := by rw [cellsAt hx0]; rfl
  have q1 : W0.cell? ⟨w.heap.size, 1, none⟩ = some (.string ⟨b.toArray⟩) := by rw [cellsAt hx0]; rfl
  clear ht hi0 hb0 hx0
  go_enter Tryz.func32, Tryz.ntmps32
  go_wp2_with fail
  rw [← hW0]
  clear hW0
  refine HR.out.mono ?_
  rintro r w1 ⟨rfl, hi1, hf1⟩
  rw [List.nil_append] at hi1
  have HI2 := Lib.hid (told_any0 _ _ _ _ hi1 (by omega))
  have HF2 := Lib.hid hf1
  clear hi1 hf1 q0 q1
  go_wp2_with fail
  refine HI2.out.mono ?_
  rintro r w3 ⟨rfl, rfl⟩
  go_wp2
  go_ret
  exact ⟨by simp [tellRatM], HB0.out.trans ((HF2.out.below (by omega) (by omega)).mono (by omega))⟩
end Go.Proofs.YtepfmoaihhonlaaGreatDoor

/- counts(): a small histogram is made. -/
namespace Go.Proofs.YtepfmoaihhonlaaGreatDoor
open Go Go.RowKit Go.Proofs Go.Maps

theorem small_hist (cs : List (Int × Int)) (h : IsHist (cntB 2 [5, 1, 4]) cs) : cs = [(1, 1), (4, 2)] := by
  refine h.uniq ⟨by decide, fun x n => ?_⟩
  have e : cntB 2 [5, 1, 4] x = (if x = 4 then 1 else 0) + (if x = 1 then 1 else 0) + (if x = 4 then 1 else 0) := by
    unfold cntB
    have b5 : bkt 2 5 = 4 := by decide +kernel
    have b1 : bkt 2 1 = 1 := by decide +kernel
    have b4 : bkt 2 4 = 4 := by decide +kernel
    have c4 : ((4 : Int) == x) = decide (x = 4) := by by_cases h : x = 4 <;> simp [h]; omega
    have c1 : ((1 : Int) == x) = decide (x = 1) := by by_cases h : x = 1 <;> simp [h]; omega
    simp only [List.countP_cons, List.countP_nil, b5, b1, b4, c4, c1, decide_eq_true_eq]
    split <;> split <;> omega
  rw [e]
  simp only [List.mem_cons, Prod.mk.injEq, List.not_mem_nil, or_false]
  by_cases h4 : x = 4
  · subst h4; simp; omega
  · by_cases h1 : x = 1
    · subst h1; simp; omega
    · simp [h4, h1]; omega

theorem rd_new (w : World) (t : TypeId) (l : List Value) (n k : Nat) (hl : l.length = n * k) : Rd (w.alloc (.cells l.toArray t)) 0 (w.alloc (.cells l.toArray t)).heap.size k (some ⟨w.heap.size, 0, none⟩) n l := by
  refine ⟨hl, fun _ => ⟨w.heap.size, 0, rfl, Nat.zero_le _, by simp, fun j u hu => ?_⟩⟩
  rw [cellsAt (alloc_at w _ _ rfl), Nat.zero_add]
  simpa using hu

set_option maxHeartbeats 1000000 in
theorem counts_any (w : World) : Calls Tryz.prog 35 #[] w fun e w' => e = .returned (.bool true) ∧ Below w.heap.size w w' := by
  have hO := Of_any 2 (some ⟨w.heap.size, 0, none⟩) 3 3 [5, 1, 4] (w.alloc (.cells #[.int .i64 5, .int .i64 1, .int .i64 4] 3)) (rd_new w 3 [.int .i64 5, .int .i64 1, .int .i64 4] 3 1 rfl) (by omega)
  have hcode : codeV 2 3 [5, 1, 4] = 0 := by decide +kernel
  rw [hcode] at hO
  have HO := Lib.hid hO
  clear hO hcode
  go_enter Tryz.func35, Tryz.ntmps35
  go_wp2_with fail
  refine HO.out.mono ?_
  rintro e w' ⟨v, rfl, h1, _, hbw⟩
  obtain ⟨cs, hh, ⟨A, c, rfl, hlc, hcm, hA, hrd⟩, hcl⟩ := h1 trivial
  obtain rfl := small_hist cs hh
  obtain ⟨b, o, rfl, hlb, hbb, hcell⟩ := hrd.2 (by simp)
  have c0 := hcell 2 (.int .i64 4) rfl
  have c1 := hcell 3 (.int .i64 2) rfl
  have HBW := Lib.hid hbw
  have hsz := hbw.size
  simp only [World.size_alloc] at hsz
  clear h1 hh hrd hA hcell hbw
  go_wp2
  go_ret
  refine ⟨by simp, ?_⟩
  exact (((Below.refl _ w).alloc (Nat.le_refl _) _).trans (HBW.out.mono (by simp))).alloc (by omega) _

/-- the same beside other results -/
theorem counts_below (w w0 : World) (B : Nat) (h : Below B w0 w) (hB : B ≤ w.heap.size) : Calls Tryz.prog 35 #[] w fun e w' => e = .returned (.bool true) ∧ Below B w0 w' :=
  (counts_any w).mono fun _ _ ⟨he, hb⟩ => ⟨he, h.trans (hb.mono hB)⟩
end Go.Proofs.YtepfmoaihhonlaaGreatDoor
