/- strconv.AppendInt at base 10, with the frame 'dst's own row alone'. -/
import Derived.Test.YthfloagpmmohkaaGreatDoorG34
import Derived.Deep.AppendLies
import Derived.Lib.AppendIntMem
import Derived.Lib.ItoaMem
namespace Go.Proofs.YthfloagpmmohkaaGreatDoor
open Go Go.RowKit Go.Proofs Go.Lib Go.Sort

/-- what is appended to a row of bytes of one's own -/
def AppV (B n : Nat) (sv : Value) (xs : List Value) (ys : List UInt8) (w : World) (e : Ending) (w' : World) : Prop :=
  ∃ v', e = .returned v' ∧ w'.ownsRow B 5 1 v' (n + ys.length) (xs ++ Lib.byteCells ys) ∧ Fr (fun i => some i = sv.ownBlock) w w' ∧ (v'.ownBlock = sv.ownBlock ∨ ∃ b, v'.ownBlock = some b ∧ w.heap.size ≤ b)
theorem strCells_bytesI (l : List UInt8) : strCells ⟨l.toArray⟩ = Lib.byteCells l := by simp [strCells, Lib.byteCells]
set_option maxHeartbeats 2000000 in
set_option maxRecDepth 100000 in
theorem appU_small (B n u : Nat) (hu : u < 100) (sv : Value) (xs : List Value) (w : World) (hown : w.ownsRow B 5 1 sv n xs) (hBw : B ≤ w.heap.size) (hlim : n + 20 ≤ 140737488355328) :
    Calls Tryz.prog 154 #[sv, .int .u64 (u : Int), .int .i64 10] w (AppV B n sv xs (Lib.decDigits u) w) := by
  obtain ⟨i0, hi, hz0, hz1, hz2⟩ := info_parts Tryz.info8
  have HS := Lib.hid (Tryz.internal_strconv_small u hu)
  have hdl : (Lib.decDigits u).length ≤ 20 := by
    rw [Lib.decDigits_length]
    rcases Nat.eq_zero_or_pos u with rfl | h1
    · simp [Lib.nDigits]
    · have := Lib.numDigits_eq u h1 (by omega); split at this <;> omega
  have hlt : (u : Int) < 100 := by omega
  have hcv : IntKind.i64.wrap (u : Int) = (u : Int) := IntWalk.i64_in _ (by omega)
  have HO := Lib.hid hown
  have hsz : (⟨(Lib.decDigits u).toArray⟩ : ByteArray).size = (Lib.decDigits u).length := by simp [ByteArray.size]
  clear hown
  go_enter Tryz.func154, Tryz.ntmps154
  go_wp2_with fail
  (with_reducible refine (HS.out _).mono ?_)
  rintro e w2 ⟨rfl, rfl⟩
  go_wp2_with (at_builtin; go_loud (refine wpList_append_lies_string _ rfl (.tmp 13) (.tmp 16) 27 9 rfl B 5 i0 Tryz.underlying27 Tryz.underlying9 hi hz0 hz1 hz2 sv n xs rfl HO.out ⟨(Lib.decDigits u).toArray⟩ rfl (by rw [hsz]; unfold maxLen; omega) (by rw [hsz]; omega) hBw ?_))
  intro v' w3 ho hg hat
  have HE := Lib.hid (show AppV B n sv xs (Lib.decDigits u) _ (.returned v') w3 from ⟨v', rfl, by rw [strCells_bytesI] at ho; exact ho, Fr.of_grown hg, hat.elim .inl (fun h => .inr ⟨_, h, Nat.le_refl _⟩)⟩)
  clear ho hg hat
  go_wp2
  go_ret
  exact HE.out
set_option maxHeartbeats 4000000 in
set_option maxRecDepth 100000 in
theorem appU_big (B n u : Nat) (hu : 100 ≤ u) (hu64 : u < 18446744073709551616) (sv : Value) (xs : List Value) (w : World) (hown : w.ownsRow B 5 1 sv n xs) (hBw : B ≤ w.heap.size) (hlim : n + 20 ≤ 140737488355328) (htab : Lib.TabIs Tryz.prog w "internal/strconv.uint64pow10" .u64 Lib.pow10Tab) :
    Calls Tryz.prog 154 #[sv, .int .u64 (u : Int), .int .i64 10] w (AppV B n sv xs (Lib.decDigits u) w) := by
  obtain ⟨i0, hi, hz0, hz1, hz2⟩ := info_parts Tryz.info8
  have hu1 : 1 ≤ u := by omega
  have hnd : Lib.nDigits u ≤ 20 := by have := Lib.numDigits_eq u hu1 hu64; split at this <;> omega
  have hnd0 : 0 < Lib.nDigits u := by have := Lib.lt_pow_nDigits u; rcases Nat.eq_zero_or_pos (Lib.nDigits u) with h | h; rw [h] at this; simp at this; omega; exact h
  have hal : Tryz.prog.arrayLen 134 = 24 := by kernel_rfl
  have hsl : ∀ W, (Instr.sliceAt 134 (.pointer (some ⟨w.heap.size, 0, none⟩)) none (some (.int .i64 (Lib.nDigits u : Int))) none).run Tryz.prog W = .ok (.slice (some ⟨w.heap.size, 0, none⟩) (Lib.nDigits u) 24) W := fun W => by
    rw [run_sliceAt_array_h W 134 ⟨w.heap.size, 0, none⟩ (by kernel_rfl) .i64 (Lib.nDigits u : Int) (by omega) (by rw [hal]; omega)]
    go_simp
  have hH0 := Lib.holds_zero0 w 134 (Lib.nDigits u) (by omega)
  have hfmt := Tryz.internal_strconv_formatBase10 w.heap.size 0 24 u (Array.replicate (Lib.nDigits u) 0) (w.alloc (.cells Lib.zeros24 134)) hH0 (by rw [Array.size_replicate]; exact Lib.lt_pow_nDigits u) hu64 (by rw [Array.size_replicate]; omega)
  rw [Array.size_replicate] at hfmt
  have HH0 := Lib.hid hH0
  have HFM := Lib.hid hfmt
  have HNU := Lib.hid (Tryz.internal_strconv_numDigits u hu1 hu64 _ (Lib.tabIs_alloc htab (.cells Lib.zeros24 134)))
  have iu : ¬ (u : Int) < 100 := by omega
  have HO := Lib.hid hown
  clear hH0 hal hfmt hown htab
  go_enter Tryz.func154, Tryz.ntmps154
  go_wp2_with fail
  refine (HNU.out).mono ?_
  rintro e w1 ⟨rfl, rfl⟩
  go_wp2_with fail
  refine (HFM.out).mono ?_
  rintro e w2 ⟨rfl, k, v', dk, rfl, hF⟩
  have hcells : ∀ j u', (Lib.byteCells (Lib.decDigits u))[j]? = some u' → ((putRow (fun (b : UInt8) => Value.int .u8 (b.toNat : Int)) (w.alloc (.cells Lib.zeros24 134)) w.heap.size 0 dk).drewN k).cell? ((⟨w.heap.size, 0, none⟩ : Addr).add j) = some u' := by
    intro j u' hj
    have hjl : j < (Lib.decDigits u).length := by
      have h5 := (List.getElem?_eq_some_iff.1 hj).1
      rwa [Lib.byteCells_length] at h5
    have e5 : (Lib.byteCells (Lib.decDigits u))[j]? = some (Value.int .u8 ((Lib.decDigits u)[j].toNat : Int)) := by simp [Lib.byteCells, hjl]
    rw [e5] at hj
    cases hj
    rw [Lib.row_is_numeral hF j hjl, Lib.add_plain, World.cell?_drewN]
    exact cell?_putRow (fun (b : UInt8) => Value.int .u8 (b.toNat : Int)) _ w.heap.size 0 _ dk HH0.out (by rw [hF.size, Array.size_replicate]) j (by rw [hF.size]; rw [Lib.decDigits_length] at hjl; exact hjl)
  obtain ⟨os, eo⟩ := Lib.fin_at w (.cells Lib.zeros24 134) dk k 0
  obtain ⟨W2, hW2⟩ : ∃ W, W = (putRow (fun (b : UInt8) => Value.int .u8 (b.toNat : Int)) (w.alloc (.cells Lib.zeros24 134)) w.heap.size 0 dk).drewN k := ⟨_, rfl⟩
  rw [← hW2] at hcells eo ⊢
  have hb2 : Below w.heap.size w W2 := by rw [eo]; exact Lib.below_grow w.heap.size w (Nat.le_refl _) k os
  have hs2 := hb2.size
  have HO2 := Lib.hid (ownsRow_fr HO.out (Fr.of_below hb2) (fun i hi hm => by have := (ownsRow_block HO.out hi).2; omega))
  have HB2 := Lib.hid hb2
  have HCE := Lib.hid hcells
  clear eo HH0 HFM hW2 hcells hb2 hF
  go_wp2_with (at_builtin; go_loud (refine wpList_append_lies _ rfl (.tmp 24) (.tmp 26) 27 rfl B 5 i0 (.int .u8 0) 1 1 Tryz.underlying27 hi hz0 hz1 hz2 rfl (by decide) sv n xs rfl HO2.out ⟨w.heap.size, 0, none⟩ (Lib.nDigits u) 24 (Lib.byteCells (Lib.decDigits u)) rfl (by rw [Lib.byteCells_length, Lib.decDigits_length, Nat.mul_one]) HCE.out (by intro u' hu'; simp only [Lib.byteCells, List.mem_map] at hu'; obtain ⟨b, _, rfl⟩ := hu'; rfl) hnd0 (by unfold maxLen; omega) (by omega) (by omega) W2.heap.size rfl ?_))
  intro g cap w3 ho hg hat hlt
  have HE := Lib.hid (show AppV B n sv xs (Lib.decDigits u) w (.returned (.slice (some ⟨g, 0, none⟩) (n + Lib.nDigits u) cap)) w3 from ⟨_, rfl, by rw [Lib.decDigits_length]; exact ho, ((Fr.of_below HB2.out).mono (may' := fun i => some i = sv.ownBlock) (fun i hi h => by omega)).trans (Fr.of_grown hg) (fun i hi h => h), hat.elim (fun h => .inl h.symm) (fun h => .inr ⟨g, rfl, by omega⟩)⟩)
  clear ho hg hat
  go_wp2
  go_ret
  exact HE.out
theorem appU_any (B n u : Nat) (hu64 : u < 18446744073709551616) (sv : Value) (xs : List Value) (w : World) (hown : w.ownsRow B 5 1 sv n xs) (hBw : B ≤ w.heap.size) (hlim : n + 20 ≤ 140737488355328) (htab : Lib.TabIs Tryz.prog w "internal/strconv.uint64pow10" .u64 Lib.pow10Tab) :
    Calls Tryz.prog 154 #[sv, .int .u64 (u : Int), .int .i64 10] w (AppV B n sv xs (Lib.decDigits u) w) := by
  by_cases h : u < 100
  · exact appU_small B n u h sv xs w hown hBw hlim
  · exact appU_big B n u (by omega) hu64 sv xs w hown hBw hlim htab
set_option maxHeartbeats 2000000 in
set_option maxRecDepth 100000 in
theorem appI_in (B n : Nat) (z : Int) (h0 : -9223372036854775808 ≤ z) (h1 : z ≤ 9223372036854775807) (sv : Value) (xs : List Value) (w : World) (hown : w.ownsRow B 5 1 sv n xs) (hBw : B ≤ w.heap.size) (hlim : n + 21 ≤ 140737488355328) (htab : Lib.TabBelow Tryz.prog B w "internal/strconv.uint64pow10" .u64 Lib.pow10Tab) :
    Calls Tryz.prog 130 #[sv, .int .i64 z, .int .i64 10] w (AppV B n sv xs (Lib.itoa z) w) := by
  obtain ⟨i0, hi, hz0, hz1, hz2⟩ := info_parts Tryz.info8
  by_cases hneg : z < 0
  · obtain ⟨u, rfl⟩ : ∃ u : Nat, z = -(u : Int) := ⟨z.natAbs, by omega⟩
    have hu1 : 1 ≤ u := by omega
    have hu64 : u < 18446744073709551616 := by omega
    have hwr : IntKind.u64.wrap (-IntKind.u64.wrap (-(u : Int))) = (u : Int) := by rw [IntKind.wrap_u64, IntKind.wrap_u64]; omega
    rw [Lib.itoa_neg u hu1]
    have HO := Lib.hid hown
    have HT := Lib.hid htab
    have hult : ∀ b, some b = sv.ownBlock → B ≤ b ∧ b < w.heap.size := fun b hb => ownsRow_block hown hb
    have HU := Lib.hid hult
    clear hown htab hult
    go_enter Tryz.func130, Tryz.ntmps130
    go_wp2_with (at_builtin; go_loud (refine wpList_append_lies _ rfl (.tmp 12) (.tmp 13) 27 rfl B 5 i0 (.int .u8 0) 1 1 Tryz.underlying27 hi hz0 hz1 hz2 rfl (by decide) sv n xs rfl (HO.out.alloc _) ⟨w.heap.size, 0, none⟩ 1 1 [.int .u8 45] rfl rfl (World.news_of_block (cs := #[.int .u8 45]) (t := 5) (fr := (0, 0)) (heap_alloc_new w _)) (by simp [Value.oneCell']) (by decide) ?h63 ?hby ?hba (w.heap.size + 1) (by simp) ?_))
    case h63 => unfold maxLen; omega
    case hby => omega
    case hba => show B ≤ (w.heap.push _).size; simp; omega
    intro g cap w1 ho hg hat hlt
    obtain ⟨v1, hv1⟩ : ∃ v1, v1 = Value.slice (some ⟨g, 0, none⟩) (n + 1) cap := ⟨_, rfl⟩
    have hf1 : Fr (fun i => some i = sv.ownBlock) w w1 := ((Fr.refl (fun i => some i = sv.ownBlock) w).alloc _).trans (Fr.of_grown hg) (fun i _ h => h)
    have hb1 : Below B w w1 := hf1.below hBw (fun i hi h => by have := (HU.out i h).1; omega)
    have hvb : v1.ownBlock = sv.ownBlock ∨ ∃ b, v1.ownBlock = some b ∧ w.heap.size ≤ b := by rw [hv1]; exact hat.elim (fun h => .inl h.symm) (fun h => .inr ⟨g, rfl, by omega⟩)
    rw [← hv1] at ho ⊢
    have HAU := Lib.hid (appU_any B (n + 1) u hu64 v1 _ w1 ho (by have := hb1.size; omega) (by omega) (HT.out w1 hb1))
    have HF1 := Lib.hid hf1
    have HVB := Lib.hid hvb
    clear ho hg hat hv1 hf1 hb1 hvb
    go_wp2_with fail
    (with_reducible refine (HAU.out).mono ?_)
    rintro e w2 ⟨v2, rfl, ho2, hf2, hv2⟩
    have HE := Lib.hid (show AppV B n sv xs (45 :: Lib.decDigits u) w (.returned v2) w2 from ⟨v2, rfl, by
      have e1 : n + (45 :: Lib.decDigits u).length = n + 1 + (Lib.decDigits u).length := by simp; omega
      have e2 : xs ++ Lib.byteCells (45 :: Lib.decDigits u) = xs ++ [Value.int .u8 45] ++ Lib.byteCells (Lib.decDigits u) := by simp [Lib.byteCells]
      rw [e1, e2]; exact ho2, HF1.out.trans hf2 (fun i hi h => by
        rcases HVB.out with hh | ⟨b, hh, hb⟩
        · rw [← hh]; exact h
        · rw [hh] at h
          have := Option.some.inj h
          omega), by
        have hs := HF1.out.size
        rcases hv2 with h | ⟨b, h, hb⟩
        · rw [h]; exact HVB.out
        · exact .inr ⟨b, h, by omega⟩⟩)
    clear ho2 hf2 hv2
    go_wp2
    go_ret
    exact HE.out
  · obtain ⟨u, rfl⟩ : ∃ u : Nat, z = u := ⟨z.toNat, by omega⟩
    have hu64 : u < 18446744073709551616 := by omega
    have hwr : IntKind.u64.wrap (u : Int) = (u : Int) := by rw [IntKind.wrap_u64]; omega
    rw [Lib.itoa_nonneg]
    have HAU := Lib.hid (appU_any B n u hu64 sv xs w hown hBw (by omega) htab.here)
    clear hown htab
    go_enter Tryz.func130, Tryz.ntmps130
    go_wp2_with fail
    (with_reducible refine (HAU.out).mono ?_)
    rintro e w2 h2
    have HE := Lib.hid h2
    obtain ⟨v2, rfl, _⟩ := h2
    go_wp2
    go_ret
    exact HE.out
/-- strconv.AppendInt at base 10 -/
theorem appI_any (B n : Nat) (z : Int) (h0 : -9223372036854775808 ≤ z) (h1 : z ≤ 9223372036854775807) (sv : Value) (xs : List Value) (w : World) (hown : w.ownsRow B 5 1 sv n xs) (hBw : B ≤ w.heap.size) (hlim : n + 21 ≤ 140737488355328) (htab : Lib.TabBelow Tryz.prog B w "internal/strconv.uint64pow10" .u64 Lib.pow10Tab) :
    Calls Tryz.prog 95 #[sv, .int .i64 z, .int .i64 10] w (AppV B n sv xs (Lib.itoa z) w) := by
  have HAI := Lib.hid (appI_in B n z h0 h1 sv xs w hown hBw hlim htab)
  clear hown htab
  go_enter Tryz.func95, Tryz.ntmps95
  go_wp2_with fail
  (with_reducible refine (HAI.out).mono ?_)
  rintro e w2 h2
  have HE := Lib.hid h2
  obtain ⟨v2, rfl, _⟩ := h2
  go_wp2
  go_ret
  exact HE.out
end Go.Proofs.YthfloagpmmohkaaGreatDoor
