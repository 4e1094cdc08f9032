/- Ink, with the fine frame: texts, histograms, changes, rows. Printed by gen_inkrowc.py. -/
import Derived.Test.YtjkoppdddaknlaaGreatDoorG42
import Derived.Test.YtjkoppdddaknlaaGreatDoorInkRow
namespace Go.Proofs.YtjkoppdddaknlaaGreatDoor
open Go Go.RowKit Go.Proofs

set_option maxHeartbeats 1000000 in
set_option maxRecDepth 100000 in
theorem inkTexts_genC (K base : Nat) (bs : List UInt8) (A : Option Addr) (c : Nat) (zs : List ByteArray) (w : World) (h : InkAt w K base bs) (hl : bs.length < 10000000000000) (hz : ∀ z ∈ zs, z.size ≤ 10000000) (hn : zs.length ≤ 1000) (hr : ∀ w', InkFc K base w w' → Rd w' 0 w'.heap.size 1 A zs.length (strC zs)) :
    Calls Tryz.prog 31 #[.pointer (some ⟨K, 0, none⟩), .slice A zs.length c] w fun e w' => e = .returned (.tuple #[]) ∧ InkAt w' K base (bs ++ inkTexts zs) ∧ InkFc K base w w' := by
  have l2 := inkInt_length (zs.length : Int) (by omega) (by omega)
  have HI := Lib.hid (inkIntC K base bs (zs.length : Int) w h (by omega) (by omega) (by omega))
  have HZ := Lib.hid hz
  have HR := Lib.hid hr
  clear h hz hr
  go_enter Tryz.func31, Tryz.ntmps31
  go_wp2_with fail
  refine HI.out.mono ?_
  rintro e w1 ⟨rfl, hi1, hf1⟩
  have HI1 := Lib.hid hi1
  have HF1 := Lib.hid hf1
  clear hi1 hf1
  go_wp2_with fail
  go_loopw [4] (fun i wr => ∃ k : Nat, k ≤ zs.length ∧ i = .int .i64 k ∧ InkAt wr K base (bs ++ inkInt zs.length ++ inkTs (zs.take k)) ∧ InkFc K base w wr) (fun i _ => zs.length - (intOf i).toNat)
  case atStart => exact ⟨0, Nat.zero_le _, rfl, by simpa [inkTs] using HI1.out, HF1.out⟩
  case round =>
    obtain ⟨k, hk, rfl, hik, hfk⟩ := hrel
    have hrk := HR.out wr hfk
    have HIK := Lib.hid hik
    have HFK := Lib.hid hfk
    clear hik hfk
    by_cases hlt : k < zs.length
    · obtain ⟨b, o, u, rfl, hb, hu, qk⟩ := hrk.at1 hlt
      obtain ⟨z, hz, rfl⟩ := strC_get hu
      have HPT := Lib.hid (inkTs_take hz)
      have hzi := HZ.out z (List.mem_of_getElem? hz)
      have hlk := inkTs_length (zs.take k) (fun x hx => HZ.out x (List.mem_of_mem_take hx))
      rw [List.length_take] at hlk
      have HI3 := Lib.hid (inkTextC K base _ z.data.toList wr HIK.out (by simp only [List.length_append]; omega) (by rw [Array.length_toList]; have : z.data.size = z.size := rfl; omega))
      rw [ba_list] at HI3
      clear hz hu hrk
      go_wp2_with fail
      refine HI3.out.mono ?_
      rintro e w3 ⟨rfl, hi3, hf3⟩
      have HI4 := Lib.hid hi3
      have HF4 := Lib.hid (HFK.out.trans hf3)
      clear hi3 hf3
      go_wp2
      go_roundw
      case rel => exact ⟨k + 1, by omega, by go_num, by rw [HPT.out]; simpa [List.append_assoc] using HI4.out, HF4.out⟩
      case measure => simp [intOf]; omega
    · clear hrk
      go_wp2
      go_end0
      refine ⟨rfl, ?_, HFK.out⟩
      have := HIK.out
      rw [List.take_of_length_le (by omega)] at this
      simpa [inkTexts, List.append_assoc] using this
set_option maxHeartbeats 1000000 in
set_option maxRecDepth 100000 in
theorem inkHist_genC (K base : Nat) (bs : List UInt8) (b : Int) (A : Option Addr) (c : Nat) (cs : List (Int × Int)) (w : World) (h : InkAt w K base bs) (hl : bs.length < 10000000000000) (hb : I64 b) (hcs : ∀ c ∈ cs, I64 c.1 ∧ I64 c.2) (hn : cs.length ≤ 100000000)
    (hr : ∀ w', InkFc K base w w' → Rd w' 0 w'.heap.size 2 A cs.length (cells2 cs)) :
    Calls Tryz.prog 32 #[.pointer (some ⟨K, 0, none⟩), .agg #[.int .i64 b, .slice A cs.length c]] w fun e w' => e = .returned (.tuple #[]) ∧ InkAt w' K base (bs ++ inkHist b cs) ∧ InkFc K base w w' := by
  have hlen := inkPairs_length cs hcs
  have l1 := inkInt_length b hb.1 hb.2
  have l2 := inkInt_length (cs.length : Int) (by omega) (by omega)
  have hin : InkAt (w.alloc (.cells #[.int .i64 b, .slice A cs.length c] 61)) K base bs := h.fr (may := fun _ => False) ((Fr.refl _ w).alloc _) (fun _ _ h => h) (fun _ _ _ h => h)
  have hKw : K < w.heap.size := by have := h.1; have := h.2.1; omega
  have hbw := h.2.1
  have hKb := h.1
  have HI := Lib.hid hin
  have HB := Lib.hid hb
  have HC := Lib.hid hcs
  have HR := Lib.hid (show ∀ w', InkFc K base (w.alloc (.cells #[.int .i64 b, .slice A cs.length c] 61)) w' → Rd w' 0 w'.heap.size 2 A cs.length (cells2 cs) from fun w' hw => hr w' (((InkFc.refl K base w).alloc hKw _).trans hw))
  have HL := Lib.hid hl
  have HN := Lib.hid hn
  have hbx0 : (w.alloc (.cells #[.int .i64 b, .slice A cs.length c] 61)).heap[w.heap.size]? = some (.cells #[.int .i64 b, .slice A cs.length c] 61 (0, 0)) := alloc_at _ _ _ rfl
  have HBX := Lib.hid hbx0
  have HLEN := Lib.hid hlen
  clear h hin hb hcs hr hl hlen hbx0
  go_enter Tryz.func32, Tryz.ntmps32
  go_wp2_with fail
  obtain ⟨W0, hW0⟩ : ∃ W0, W0 = w.alloc (.cells #[.int .i64 b, .slice A cs.length c] 61) := ⟨_, rfl⟩
  rw [← hW0] at HI HR HBX ⊢
  have hs0 : W0.heap.size = w.heap.size + 1 := by rw [hW0]; simp
  have HFR0 : Hid (InkFc K base w W0) := Lib.hid (by rw [hW0]; exact (InkFc.refl K base w).alloc hKw _)
  clear hW0
  refine (inkIntC K base bs b _ HI.out (by have := HL.out; omega) HB.out.1 HB.out.2).mono ?_
  rintro e w1 ⟨rfl, hi1, hf1⟩
  have hbx1 := hf1.keep HBX.out (by decide) (by omega)
  have e1 : w1.cell? ⟨w.heap.size, 1, none⟩ = some (.slice A cs.length c) := by rw [cellsAt hbx1]; rfl
  have HI1 := Lib.hid hi1
  have HF1 := Lib.hid hf1
  have HS0 := Lib.hid hs0
  clear hi1 hf1 hbx1 hs0
  go_wp2_with fail
  refine (inkIntC K base (bs ++ inkInt b) (cs.length : Int) _ HI1.out (by have := HL.out; simp; omega) (by omega) (by have := HN.out; omega)).mono ?_
  rintro e w2 ⟨rfl, hi2, hf2⟩
  have hf02 := HF1.out.trans hf2
  have HI2 := Lib.hid hi2
  have HF2 := Lib.hid hf02
  clear hi2 hf2 hf02 e1
  go_wp2
  go_loopw [4] (fun i wr => ∃ k : Nat, k ≤ cs.length ∧ i = .int .i64 k ∧ InkAt wr K base (bs ++ inkInt b ++ inkInt cs.length ++ inkPairs (cs.take k)) ∧ InkFc K base W0 wr) (fun i _ => cs.length - (intOf i).toNat)
  case atStart => exact ⟨0, Nat.zero_le _, rfl, by simpa [inkPairs] using HI2.out, HF2.out⟩
  case round =>
    obtain ⟨k, hk, rfl, hik, hfk⟩ := hrel
    have hbxk := hfk.keep HBX.out (by decide) (by omega)
    have e1 : wr.cell? ⟨w.heap.size, 1, none⟩ = some (.slice A cs.length c) := by rw [cellsAt hbxk]; rfl
    have hrk := HR.out wr hfk
    have HIK := Lib.hid hik
    have HFK := Lib.hid hfk
    clear hik hfk hbxk
    by_cases hlt : k < cs.length
    · obtain ⟨bk, o, x, m, rfl, _, hbk, hx, c0, c1⟩ := hrk.at2 hlt
      have hpt := inkPairs_take cs k x m hx
      have hxm := HC.out (x, m) (List.mem_of_getElem? hx)
      have hlk := inkPairs_length (cs.take k) (fun c hc => HC.out c (List.mem_of_mem_take hc))
      rw [List.length_take] at hlk
      have hlx := inkInt_length x hxm.1.1 hxm.1.2
      have HPT := Lib.hid hpt
      have HXM := Lib.hid hxm
      have HLK := Lib.hid hlk
      have HGX := Lib.hid hx
      clear hx hpt hxm hlk hrk
      go_wp2_with fail
      refine (inkIntC K base _ x _ HIK.out (by have := HL.out; have := HLK.out; have := HN.out; simp only [List.length_append]; omega) HXM.out.1.1 HXM.out.1.2).mono ?_
      rintro e w3 ⟨rfl, hi3, hf3⟩
      have hf03 := HFK.out.trans hf3
      have hbx3 := hf03.keep HBX.out (by decide) (by omega)
      have e3 : w3.cell? ⟨w.heap.size, 1, none⟩ = some (.slice (some ⟨bk, o, none⟩) cs.length c) := by rw [cellsAt hbx3]; rfl
      have hrk3 := HR.out w3 hf03
      obtain ⟨bk', o', x', m', e', _, _, hx', _, d1⟩ := hrk3.at2 hlt
      cases e'
      rw [HGX.out] at hx'
      cases hx'
      have HI3 := Lib.hid hi3
      have HF3 := Lib.hid hf03
      clear hi3 hf3 hf03 hbx3 e1 c0 c1 hrk3
      go_wp2_with fail
      refine (inkIntC K base _ m _ HI3.out (by have := HL.out; have := HLK.out; have := HN.out; simp only [List.length_append]; omega) HXM.out.2.1 HXM.out.2.2).mono ?_
      rintro e w4 ⟨rfl, hi4, hf4⟩
      have HI4 := Lib.hid hi4
      have HF4 := Lib.hid (HF3.out.trans hf4)
      clear hi4 hf4 e3 d1
      go_wp2
      go_roundw
      case rel => exact ⟨k + 1, by omega, by go_num, by rw [HPT.out]; simpa [List.append_assoc] using HI4.out, HF4.out⟩
      case measure => simp [intOf]; omega
    · clear hrk
      go_wp2
      go_end0
      refine ⟨rfl, ?_, HFR0.out.trans HFK.out⟩
      have := HIK.out
      rw [List.take_of_length_le (by omega)] at this
      simpa [inkHist, List.append_assoc] using this
set_option maxHeartbeats 1000000 in
set_option maxRecDepth 100000 in
theorem inkChg_genC (K base : Nat) (bs : List UInt8) (A : Option Addr) (c : Nat) (cs : List (Int × Int)) (w : World) (h : InkAt w K base bs) (hl : bs.length < 10000000000000) (hcs : ∀ c ∈ cs, I64 c.1 ∧ I64 c.2) (hn : cs.length ≤ 100000000)
    (hr : ∀ w', InkFc K base w w' → Rd w' 0 w'.heap.size 2 A cs.length (cells2 cs)) :
    Calls Tryz.prog 13 #[.pointer (some ⟨K, 0, none⟩), .slice A cs.length c] w fun e w' => e = .returned (.tuple #[]) ∧ InkAt w' K base (bs ++ inkChg cs) ∧ InkFc K base w w' := by
  have l2 := inkInt_length (cs.length : Int) (by omega) (by omega)
  have HI := Lib.hid (inkIntC K base bs (cs.length : Int) w h (by omega) (by omega) (by omega))
  have HC := Lib.hid hcs
  have HR := Lib.hid hr
  clear h hcs hr
  go_enter Tryz.func13, Tryz.ntmps13
  go_wp2_with fail
  refine HI.out.mono ?_
  rintro e w1 ⟨rfl, hi1, hf1⟩
  have HI1 := Lib.hid hi1
  have HF1 := Lib.hid hf1
  clear hi1 hf1
  go_wp2_with fail
  go_loopw [4] (fun i wr => ∃ k : Nat, k ≤ cs.length ∧ i = .int .i64 k ∧ InkAt wr K base (bs ++ inkInt cs.length ++ inkPairs (cs.take k)) ∧ InkFc K base w wr) (fun i _ => cs.length - (intOf i).toNat)
  case atStart => exact ⟨0, Nat.zero_le _, rfl, by simpa [inkPairs] using HI1.out, HF1.out⟩
  case round =>
    obtain ⟨k, hk, rfl, hik, hfk⟩ := hrel
    have hrk := HR.out wr hfk
    have HIK := Lib.hid hik
    have HFK := Lib.hid hfk
    clear hik hfk
    by_cases hlt : k < cs.length
    · obtain ⟨bk, o, x, m, rfl, _, hbk, hx, c0, c1⟩ := hrk.at2 hlt
      have HPT := Lib.hid (inkPairs_take cs k x m hx)
      have HXM := Lib.hid (HC.out (x, m) (List.mem_of_getElem? hx))
      have hlk := inkPairs_length (cs.take k) (fun c hc => HC.out c (List.mem_of_mem_take hc))
      rw [List.length_take] at hlk
      have hlx := inkInt_length x HXM.out.1.1 HXM.out.1.2
      have HGX := Lib.hid hx
      have HI0 := Lib.hid (inkIntC K base _ x wr HIK.out (by simp only [List.length_append]; omega) HXM.out.1.1 HXM.out.1.2)
      clear hx hrk
      go_wp2_with fail
      refine HI0.out.mono ?_
      rintro e w3 ⟨rfl, hi3, hf3⟩
      have hf03 := HFK.out.trans hf3
      have hrk3 := HR.out w3 hf03
      obtain ⟨bk', o', x', m', e', _, _, hx', _, d1⟩ := hrk3.at2 hlt
      cases e'
      rw [HGX.out] at hx'
      cases hx'
      have HI3 := Lib.hid (inkIntC K base _ m w3 hi3 (by simp only [List.length_append]; omega) HXM.out.2.1 HXM.out.2.2)
      have HF3 := Lib.hid hf03
      clear hi3 hf3 hf03 c0 c1 hrk3
      go_wp2_with fail
      refine HI3.out.mono ?_
      rintro e w4 ⟨rfl, hi4, hf4⟩
      have HI4 := Lib.hid hi4
      have HF4 := Lib.hid (HF3.out.trans hf4)
      clear hi4 hf4 d1
      go_wp2
      go_roundw
      case rel => exact ⟨k + 1, by omega, by go_num, by rw [HPT.out]; simpa [List.append_assoc] using HI4.out, HF4.out⟩
      case measure => simp [intOf]; omega
    · clear hrk
      go_wp2
      go_end0
      refine ⟨rfl, ?_, HFK.out⟩
      have := HIK.out
      rw [List.take_of_length_le (by omega)] at this
      simpa [inkChg, List.append_assoc] using this
set_option maxHeartbeats 4000000 in
set_option maxRecDepth 100000 in
theorem inkRows_genC (K base : Nat) (A : Option Addr) (c : Nat) (l : List RowX) (w : World) (h : InkAt w K base []) (ho : ∀ r ∈ l, OkX r) (hn : l.length ≤ 20000) (hr : ∀ w', InkFc K base w w' → GrR w' A l) :
    Calls Tryz.prog 6 #[.pointer (some ⟨K, 0, none⟩), .slice A l.length c] w fun e w' => e = .returned (.tuple #[]) ∧ InkAt w' K base (inkRows l) ∧ InkFc K base w w' := by
  have l2 := inkInt_length (l.length : Int) (by omega) (by omega)
  have HI := Lib.hid (inkIntC K base [] (l.length : Int) w h (by simp) (by omega) (by omega))
  have HO := Lib.hid ho
  have HR := Lib.hid hr
  clear h ho hr
  go_enter Tryz.func6, Tryz.ntmps6
  go_wp2_with fail
  refine HI.out.mono ?_
  rintro e w1 ⟨rfl, hi1, hf1⟩
  rw [List.nil_append] at hi1
  have HI1 := Lib.hid hi1
  have HF1 := Lib.hid hf1
  clear hi1 hf1 HI
  go_wp2_with fail
  go_loopw [4] (fun i wr => ∃ k : Nat, k ≤ l.length ∧ i = .int .i64 k ∧ InkAt wr K base (inkInt l.length ++ inkRs (l.take k)) ∧ InkFc K base w wr) (fun i _ => l.length - (intOf i).toNat)
  case atStart => exact ⟨0, Nat.zero_le _, rfl, by simpa [inkRs] using HI1.out, HF1.out⟩
  case round =>
    obtain ⟨k, hk, rfl, hik, hfk⟩ := hrel
    have hrk := HR.out wr hfk
    have HIK := Lib.hid hik
    have HFK := Lib.hid hfk
    clear hik hfk
    by_cases hlt : k < l.length
    · obtain ⟨b, o, r, rfl, hb, hu, q0, -, -, -⟩ := hrk.at hlt
      have HPT := Lib.hid (inkRs_take hu)
      have HU := Lib.hid hu
      have hro := HO.out r (List.mem_of_getElem? hu)
      have HRO := Lib.hid hro
      have hlk := inkRs_length (l.take k) (fun x hx => HO.out x (List.mem_of_mem_take hx))
      rw [List.length_take] at hlk
      have hlr := inkRow_length hro
      have e1 : (inkRow r).length = (inkTexts r.vals).length + (inkHist 8 r.cs).length + (inkInt r.f).length := by simp [inkRow]; omega
      have HT := Lib.hid (inkTexts_genC K base _ r.vA r.vc r.vals wr HIK.out (by simp only [List.length_append]; omega) hro.vs (by have := hro.vl; omega) (fun w' hw' => ((HR.out w' (HFK.out.trans hw')).2 r (List.mem_of_getElem? hu)).1))
      have HCELL := Lib.hid (show ∀ X, InkFc K base wr X → X.cell? ⟨b, o + k * 4 + 1, none⟩ = some (.int .i64 8) ∧ X.cell? ⟨b, o + k * 4 + 2, none⟩ = some (.slice r.hA r.cs.length r.hc) ∧ X.cell? ⟨b, o + k * 4 + 3, none⟩ = some (.int .i64 r.f) from fun X hX => by
        obtain ⟨b', o', r', e', _, hu', _, p1, p2, p3⟩ := (HR.out X (HFK.out.trans hX)).at hlt
        cases e'
        rw [HU.out] at hu'
        cases hu'
        exact ⟨p1, p2, p3⟩)
      obtain ⟨nv, hnv⟩ : ∃ n, n = r.vals.length := ⟨_, rfl⟩
      obtain ⟨nc, hnc⟩ : ∃ n, n = r.cs.length := ⟨_, rfl⟩
      have HNC := Lib.hid hnc
      rw [← hnv] at q0 HT
      rw [← hnc] at HCELL
      clear hu hrk hro hnv hnc
      go_wp2_with fail
      refine HT.out.mono ?_
      rintro e w3 ⟨rfl, hi3, hf3⟩
      obtain ⟨p1, p2, p3⟩ := HCELL.out w3 hf3
      have HH := Lib.hid (inkHist_genC K base _ 8 r.hA r.hc r.cs w3 hi3 (by simp only [List.length_append]; omega) (by unfold I64; omega) HRO.out.cv (by have := HRO.out.cl; omega) (fun w' hw' => ((HR.out w' (HFK.out.trans (hf3.trans hw'))).2 r (List.mem_of_getElem? HU.out)).2))
      rw [← HNC.out] at HH
      have HF3 := Lib.hid hf3
      clear hi3 hf3 q0 HT p3
      go_wp2_with fail
      refine HH.out.mono ?_
      rintro e w4 ⟨rfl, hi4, hf4⟩
      have hf34 := HF3.out.trans hf4
      obtain ⟨-, -, p3⟩ := HCELL.out w4 hf34
      have HI5 := Lib.hid (inkIntC K base _ r.f w4 hi4 (by simp only [List.length_append]; omega) HRO.out.fv.1 HRO.out.fv.2)
      have HF4 := Lib.hid hf34
      clear hi4 hf4 hf34 p1 p2 HH
      go_wp2_with fail
      refine HI5.out.mono ?_
      rintro e w5 ⟨rfl, hi5, hf5⟩
      have HI6 := Lib.hid hi5
      have HF6 := Lib.hid (HFK.out.trans (HF4.out.trans hf5))
      clear hi5 hf5 p3
      go_wp2
      go_roundw
      case rel => exact ⟨k + 1, by omega, by go_num, by rw [HPT.out]; simpa [inkRow, List.append_assoc] using HI6.out, HF6.out⟩
      case measure => simp [intOf]; omega
    · clear hrk
      go_wp2
      go_end0
      refine ⟨rfl, ?_, HFK.out⟩
      have := HIK.out
      rw [List.take_of_length_le (by omega)] at this
      simpa [inkRows] using this
end Go.Proofs.YtjkoppdddaknlaaGreatDoor
