/- LoadEditsMatchSpec: the law's walk. Printed by gen_lawedit.py. -/
import Derived.Test.YtkoodmoilfgafaaDoorGEdit
import Derived.Test.YtkoodmoilfgafaaDoorInkStg
import Derived.Test.YtkoodmoilfgafaaDoorGArr
namespace Go.Proofs.YtkoodmoilfgafaaDoor
open Go Go.RowKit Go.Proofs

theorem codeS_rg (l : List (Int × Int × Int)) : 0 ≤ codeS l ∧ codeS l ≤ 100 := by
  unfold codeS
  split
  · omega
  · split
    · omega
    · split
      · split <;> omega
      · omega
theorem ok_i64 {l : List (Int × Int × Int)} (h : codeS l = 0) : (∀ s ∈ l, I64s s) ∧ l.length ≤ 50 := by
  have hok := codeS_ok h
  refine ⟨fun s hs => ?_, hok.le⟩
  have := hok.ok s hs
  unfold OkS at this
  unfold I64s I64
  omega
theorem nil_i64 : (∀ s ∈ ([] : List (Int × Int × Int)), I64s s) ∧ ([] : List (Int × Int × Int)).length ≤ 50 := ⟨fun s hs => (by cases hs), by simp⟩
theorem chn_rng (a b : List (Int × Int × Int)) : ((∀ s ∈ chnL a b, I64s s) ∧ (chnL a b).length ≤ 50) ∧ 0 ≤ chnC a b ∧ chnC a b ≤ 100 := by
  have r1 := codeS_rg a
  have r2 := codeS_rg b
  have r3 := codeS_rg (a ++ b)
  have hr : 0 ≤ chnC a b ∧ chnC a b ≤ 100 := by
    unfold chnC
    split
    · exact r1
    · split
      · exact r2
      · exact r3
  refine ⟨?_, hr⟩
  unfold chnL
  by_cases h : chnC a b = 0
  · rw [if_pos h]
    refine ok_i64 ?_
    unfold chnC at h
    split at h
    · rename_i g; exact absurd h g
    · split at h
      · rename_i g; exact absurd h g
      · exact h
  · rw [if_neg h]; exact nil_i64
theorem chg_i64 (k : Int) (l l' : List (Int × Int × Int)) : ((∀ s ∈ chgL k l l', I64s s) ∧ (chgL k l l').length ≤ 50) ∧ 0 ≤ chgC k l l' ∧ chgC k l l' ≤ 100 := by
  have r1 := codeS_rg l
  have r2 := codeS_rg l'
  have hr : 0 ≤ chgC k l l' ∧ chgC k l l' ≤ 100 := by
    unfold chgC
    split
    · exact r1
    · split
      · omega
      · exact r2
  refine ⟨?_, hr⟩
  unfold chgL
  by_cases h : chgC k l l' = 0
  · rw [if_pos h]
    refine ok_i64 ?_
    unfold chgC at h
    split at h
    · rename_i g; exact absurd h g
    · split at h
      · omega
      · exact h
  · rw [if_neg h]; exact nil_i64
theorem rev_i64 (l : List (Int × Int × Int)) : ((∀ s ∈ revL l, I64s s) ∧ (revL l).length ≤ 50) ∧ 0 ≤ codeS l ∧ codeS l ≤ 100 := by
  refine ⟨?_, codeS_rg l⟩
  unfold revL
  by_cases h : codeS l = 0
  · rw [if_pos h]
    obtain ⟨h1, h2⟩ := ok_i64 (swp_code h)
    exact ⟨fun s hs => h1 s (List.mem_reverse.1 hs), by rw [List.length_reverse]; exact h2⟩
  · rw [if_neg h]; exact nil_i64

set_option maxHeartbeats 4000000 in
set_option maxRecDepth 100000 in
theorem lawEdit_any (A B : Option Addr) (c d : Nat) (a b : List (Int × Int × Int)) (k : Int) (w : World) (ht : Tab w.heap.size w) (ha : Rd w 0 w.heap.size 3 A a.length (cells3 a)) (hb : Rd w 0 w.heap.size 3 B b.length (cells3 b)) (hal : a.length ≤ 9223372036854775807) (hbl : b.length ≤ 9223372036854775807) :
    Calls Tryd.prog 6 #[.slice A a.length c, .slice B b.length d, .int .i64 k] w fun e w' => e = .returned (.bool true) ∧ Below w.heap.size w w' := by
  have HEV := Lib.hid (fun W => lawEven_any W)
  have HT := Lib.hid (fun (L : List (Int × Int × Int)) (E : Int) (hr : ((∀ s ∈ L, I64s s) ∧ L.length ≤ 50) ∧ 0 ≤ E ∧ E ≤ 100) W A' c' (h : Below w.heap.size w W) hr' => toldStg_any A' c' L E W ((ht.on h).mono h.size) hr' hr.1.1 ⟨by have := hr.2; omega, by have := hr.2; omega⟩ (by have := hr.1.2; omega))
  have HF0 := Lib.hid (fun W (h : Below w.heap.size w W) => chainPub_any A B c d a b W (ha.old h) (hb.old h) hal hbl)
  have HG0 := Lib.hid (fun W (h : Below w.heap.size w W) => r7Chain_any A B c d a b W (ha.old h) (hb.old h) hal hbl)
  have HT0 := Lib.hid (HT.out _ _ (chn_rng a b))
  have HF1 := Lib.hid (fun W (h : Below w.heap.size w W) => stretch_any A c a k W (ha.old h) hal)
  have HG1 := Lib.hid (fun W (h : Below w.heap.size w W) => r7Stretch_any A c a k W (ha.old h) hal)
  have HT1 := Lib.hid (HT.out _ _ (chg_i64 k a (a.map (strS k))))
  have HF2 := Lib.hid (fun W (h : Below w.heap.size w W) => timesPub_any A c a k W (ha.old h) hal)
  have HG2 := Lib.hid (fun W (h : Below w.heap.size w W) => r7TimesS_any A c a k W (ha.old h) hal)
  have HT2 := Lib.hid (HT.out _ _ (chg_i64 k a (a.map (timS k))))
  have HF3 := Lib.hid (fun W (h : Below w.heap.size w W) => reversePub_any A c a W (ha.old h) hal)
  have HG3 := Lib.hid (fun W (h : Below w.heap.size w W) => r7Reverse_any A c a W (ha.old h) hal)
  have HT3 := Lib.hid (HT.out _ _ (rev_i64 a))
  obtain ⟨L0, hL0⟩ : ∃ z, z = chnL a b := ⟨_, rfl⟩
  obtain ⟨E0, hE0⟩ : ∃ z, z = chnC a b := ⟨_, rfl⟩
  rw [← hL0, ← hE0] at HT0
  simp only [← hL0, ← hE0] at HF0 HG0
  obtain ⟨s0, hs0⟩ : ∃ s : ByteArray, s = ⟨(inkStgs L0 ++ inkInt E0).toArray⟩ := ⟨_, rfl⟩
  rw [← hs0] at HT0
  clear hL0 hE0 hs0
  obtain ⟨L1, hL1⟩ : ∃ z, z = chgL k a (a.map (strS k)) := ⟨_, rfl⟩
  obtain ⟨E1, hE1⟩ : ∃ z, z = chgC k a (a.map (strS k)) := ⟨_, rfl⟩
  rw [← hL1, ← hE1] at HT1
  simp only [← hL1, ← hE1] at HF1 HG1
  obtain ⟨s1, hs1⟩ : ∃ s : ByteArray, s = ⟨(inkStgs L1 ++ inkInt E1).toArray⟩ := ⟨_, rfl⟩
  rw [← hs1] at HT1
  clear hL1 hE1 hs1
  obtain ⟨L2, hL2⟩ : ∃ z, z = chgL k a (a.map (timS k)) := ⟨_, rfl⟩
  obtain ⟨E2, hE2⟩ : ∃ z, z = chgC k a (a.map (timS k)) := ⟨_, rfl⟩
  rw [← hL2, ← hE2] at HT2
  simp only [← hL2, ← hE2] at HF2 HG2
  obtain ⟨s2, hs2⟩ : ∃ s : ByteArray, s = ⟨(inkStgs L2 ++ inkInt E2).toArray⟩ := ⟨_, rfl⟩
  rw [← hs2] at HT2
  clear hL2 hE2 hs2
  obtain ⟨L3, hL3⟩ : ∃ z, z = revL a := ⟨_, rfl⟩
  obtain ⟨E3, hE3⟩ : ∃ z, z = codeS a := ⟨_, rfl⟩
  rw [← hL3, ← hE3] at HT3
  simp only [← hL3, ← hE3] at HF3 HG3
  obtain ⟨s3, hs3⟩ : ∃ s : ByteArray, s = ⟨(inkStgs L3 ++ inkInt E3).toArray⟩ := ⟨_, rfl⟩
  rw [← hs3] at HT3
  clear hL3 hE3 hs3
  have HB0 := Lib.hid (Below.refl w.heap.size w)
  clear ha hb ht HT
  go_enter Tryd.func6, Tryd.ntmps6
  go_wp2_with fail
  (with_reducible refine (HF0.out _ HB0.out).mono ?_)
  rintro e w1 ⟨A1, c1, rfl, hr, hb1⟩
  have HB1 := Lib.hid (below_next HB0.out hb1)
  have HX1 := Lib.hid (HT0.out w1 A1 c1 HB1.out hr)
  clear hr hb1
  go_wp2_with fail
  (with_reducible refine HX1.out.mono ?_)
  rintro e w2 ⟨rfl, hb1⟩
  have HB2 := Lib.hid (below_next HB1.out hb1)
  clear hb1
  go_wp2_with fail
  (with_reducible refine (HG0.out _ HB2.out).mono ?_)
  rintro e w3 ⟨A3, c3, rfl, hr, hb1⟩
  have HB3 := Lib.hid (below_next HB2.out hb1)
  have HX3 := Lib.hid (HT0.out w3 A3 c3 HB3.out hr)
  clear hr hb1
  go_wp2_with fail
  (with_reducible refine HX3.out.mono ?_)
  rintro e w4 ⟨rfl, hb1⟩
  have HB4 := Lib.hid (below_next HB3.out hb1)
  clear hb1
  go_wp2_with fail
  (with_reducible refine (HF1.out _ HB4.out).mono ?_)
  rintro e w5 ⟨A5, c5, rfl, hr, hb1⟩
  have HB5 := Lib.hid (below_next HB4.out hb1)
  have HX5 := Lib.hid (HT1.out w5 A5 c5 HB5.out hr)
  clear hr hb1
  go_wp2_with fail
  (with_reducible refine HX5.out.mono ?_)
  rintro e w6 ⟨rfl, hb1⟩
  have HB6 := Lib.hid (below_next HB5.out hb1)
  clear hb1
  go_wp2_with fail
  (with_reducible refine (HG1.out _ HB6.out).mono ?_)
  rintro e w7 ⟨A7, c7, rfl, hr, hb1⟩
  have HB7 := Lib.hid (below_next HB6.out hb1)
  have HX7 := Lib.hid (HT1.out w7 A7 c7 HB7.out hr)
  clear hr hb1
  go_wp2_with fail
  (with_reducible refine HX7.out.mono ?_)
  rintro e w8 ⟨rfl, hb1⟩
  have HB8 := Lib.hid (below_next HB7.out hb1)
  clear hb1
  go_wp2_with fail
  (with_reducible refine (HF2.out _ HB8.out).mono ?_)
  rintro e w9 ⟨A9, c9, rfl, hr, hb1⟩
  have HB9 := Lib.hid (below_next HB8.out hb1)
  have HX9 := Lib.hid (HT2.out w9 A9 c9 HB9.out hr)
  clear hr hb1
  go_wp2_with fail
  (with_reducible refine HX9.out.mono ?_)
  rintro e w10 ⟨rfl, hb1⟩
  have HB10 := Lib.hid (below_next HB9.out hb1)
  clear hb1
  go_wp2_with fail
  (with_reducible refine (HG2.out _ HB10.out).mono ?_)
  rintro e w11 ⟨A11, c11, rfl, hr, hb1⟩
  have HB11 := Lib.hid (below_next HB10.out hb1)
  have HX11 := Lib.hid (HT2.out w11 A11 c11 HB11.out hr)
  clear hr hb1
  go_wp2_with fail
  (with_reducible refine HX11.out.mono ?_)
  rintro e w12 ⟨rfl, hb1⟩
  have HB12 := Lib.hid (below_next HB11.out hb1)
  clear hb1
  go_wp2_with fail
  (with_reducible refine (HF3.out _ HB12.out).mono ?_)
  rintro e w13 ⟨A13, c13, rfl, hr, hb1⟩
  have HB13 := Lib.hid (below_next HB12.out hb1)
  have HX13 := Lib.hid (HT3.out w13 A13 c13 HB13.out hr)
  clear hr hb1
  go_wp2_with fail
  (with_reducible refine HX13.out.mono ?_)
  rintro e w14 ⟨rfl, hb1⟩
  have HB14 := Lib.hid (below_next HB13.out hb1)
  clear hb1
  go_wp2_with fail
  (with_reducible refine (HG3.out _ HB14.out).mono ?_)
  rintro e w15 ⟨A15, c15, rfl, hr, hb1⟩
  have HB15 := Lib.hid (below_next HB14.out hb1)
  have HX15 := Lib.hid (HT3.out w15 A15 c15 HB15.out hr)
  clear hr hb1
  go_wp2_with fail
  (with_reducible refine HX15.out.mono ?_)
  rintro e w16 ⟨rfl, hb1⟩
  have HB16 := Lib.hid (below_next HB15.out hb1)
  clear hb1
  go_wp2_with fail
  refine (HEV.out _).mono ?_
  rintro e w17 ⟨rfl, hb1⟩
  have HB17 := Lib.hid (below_next HB16.out hb1)
  clear hb1
  go_wp2
  go_ret
  exact ⟨rfl, HB17.out⟩
end Go.Proofs.YtkoodmoilfgafaaDoor
