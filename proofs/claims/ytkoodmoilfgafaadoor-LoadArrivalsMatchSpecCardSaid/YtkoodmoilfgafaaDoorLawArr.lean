/- LoadArrivalsMatchSpec: the law's walk. -/
import Derived.Test.YtkoodmoilfgafaaDoorGPub
import Derived.Test.YtkoodmoilfgafaaDoorGInk
namespace Go.Proofs.YtkoodmoilfgafaaDoor
open Go Go.RowKit Go.Proofs

theorem codeS_range (l : List (Int × Int × Int)) : 0 ≤ codeS l ∧ codeS l ≤ 100 := by
  unfold codeS
  split
  · omega
  · split
    · omega
    · split
      · split <;> omega
      · omega
theorem evenC_range (l : List (Int × Int × Int)) : 0 ≤ evenC l ∧ evenC l ≤ 100 := by
  have := codeS_range l
  unfold evenC
  split
  · exact this
  · split <;> omega
theorem evenL_range (l : List (Int × Int × Int)) : (∀ z ∈ evenL l, I64 z) ∧ (evenL l).length ≤ 20000 := by
  obtain ⟨N, hN⟩ : ∃ N : Nat, N = 1000000000001 := ⟨_, rfl⟩
  by_cases h : evenC l = 0
  · have hc : codeS l = 0 := by
      apply Classical.byContradiction
      intro hc
      unfold evenC at h
      rw [if_pos hc] at h
      exact hc h
    have hL : evenL l = evs l (befN l N) := by unfold evenL; rw [if_pos h, hN]
    have hok := codeS_ok hc
    have hn : ¬ 20000 < befN l N := by
      intro hb
      unfold evenC at h
      rw [if_neg (fun g => g hc), ← hN, if_pos hb] at h
      omega
    rw [hL, evs_length]
    refine ⟨fun z hz => ?_, by omega⟩
    unfold evs at hz
    obtain ⟨j, hj, rfl⟩ := List.mem_map.1 hz
    obtain ⟨T, hT, h2⟩ := (arr_before hok (k := j) (t := N)).1 (List.mem_range.1 hj)
    rw [hT]
    show I64 (T : Int)
    unfold I64
    omega
  · have hL : evenL l = [] := by unfold evenL; rw [if_neg h]
    rw [hL]
    exact ⟨fun z hz => (by cases hz), by simp⟩

set_option maxHeartbeats 4000000 in
set_option maxRecDepth 100000 in
theorem lawArr_any (A : Option Addr) (c : Nat) (l : List (Int × Int × Int)) (k a b : Int) (w : World) (ht : Tab w.heap.size w) (hr : Rd w 0 w.heap.size 3 A l.length (cells3 l)) (hl : l.length ≤ 9223372036854775807) (hk : k ≤ 9223372036854775807) :
    Calls Tryd.prog 3 #[.slice A l.length c, .int .i64 k, .int .i64 a, .int .i64 b] w fun e w' => e = .returned (.bool true) ∧ Below w.heap.size w w' := by
  have HEV := Lib.hid (fun W => lawEven_any W)
  have HA1 := Lib.hid (atPub_any A c l k w hr hl hk)
  have HA2 := Lib.hid (fun W (hb : Below w.heap.size w W) => r7At_any A c l k W (hr.old hb) hl hk)
  have HC1 := Lib.hid (fun W (hb : Below w.heap.size w W) => count_any A c l a b W (hr.old hb) hl)
  have HC2 := Lib.hid (fun W (hb : Below w.heap.size w W) => r7Count_any A c l a b W (hr.old hb) hl)
  have HE1 := Lib.hid (fun W (hb : Below w.heap.size w W) => even_any A c l W (hr.old hb) hl)
  have HE2 := Lib.hid (fun W (hb : Below w.heap.size w W) => r7Even_any A c l W (hr.old hb) hl)
  have HER := Lib.hid (evenC_range l)
  have HLR := Lib.hid (evenL_range l)
  obtain ⟨x1, hx1⟩ : ∃ x, x = (atV l k).1 := ⟨_, rfl⟩
  obtain ⟨e1, he1⟩ : ∃ x, x = (atV l k).2 := ⟨_, rfl⟩
  obtain ⟨x2, hx2⟩ : ∃ x, x = (countV l a b).1 := ⟨_, rfl⟩
  obtain ⟨e2, he2⟩ : ∃ x, x = (countV l a b).2 := ⟨_, rfl⟩
  obtain ⟨E, hE⟩ : ∃ x, x = evenC l := ⟨_, rfl⟩
  obtain ⟨L, hL⟩ : ∃ x, x = evenL l := ⟨_, rfl⟩
  rw [← hx1, ← he1] at HA1 HA2
  rw [← hx2, ← he2] at HC1 HC2
  rw [← hE, ← hL] at HE1 HE2
  rw [← hE] at HER
  rw [← hL] at HLR
  have HT := Lib.hid (fun W A' c' (hb : Below w.heap.size w W) hr' => told7_any A' c' L E W ((ht.on hb).mono hb.size) hr' HLR.out.1 ⟨by have := HER.out; omega, by have := HER.out; omega⟩ (by have := HLR.out.2; omega))
  obtain ⟨s, hs⟩ : ∃ s : ByteArray, s = ⟨(inkInts L ++ inkInt E).toArray⟩ := ⟨_, rfl⟩
  rw [← hs] at HT
  clear hr ht hx1 he1 hx2 he2 hE hL hs
  go_enter Tryd.func3, Tryd.ntmps3
  go_wp2_with fail
  refine HA1.out.mono ?_
  rintro e w1 ⟨rfl, hb1⟩
  have HB1 := Lib.hid hb1
  clear hb1
  go_wp2_with fail
  refine (HA2.out _ HB1.out).mono ?_
  rintro e w2 ⟨rfl, hb2⟩
  have HB2 := Lib.hid (below_next HB1.out hb2)
  clear hb2
  go_wp2_with fail
  refine (HC1.out _ HB2.out).mono ?_
  rintro e w3 ⟨rfl, hb3⟩
  have HB3 := Lib.hid (below_next HB2.out hb3)
  clear hb3
  go_wp2_with fail
  refine (HC2.out _ HB3.out).mono ?_
  rintro e w4 ⟨rfl, hb4⟩
  have HB4 := Lib.hid (below_next HB3.out hb4)
  clear hb4
  go_wp2_with fail
  refine (HE1.out _ HB4.out).mono ?_
  rintro e w5 ⟨A5, c5, rfl, hr5, hb5⟩
  have HB5 := Lib.hid (below_next HB4.out hb5)
  have HT5 := Lib.hid (HT.out w5 A5 c5 HB5.out hr5)
  clear hb5 hr5
  go_wp2_with fail
  refine HT5.out.mono ?_
  rintro e w6 ⟨rfl, hb6⟩
  have HB6 := Lib.hid (below_next HB5.out hb6)
  clear hb6
  go_wp2_with fail
  refine (HE2.out _ HB6.out).mono ?_
  rintro e w7 ⟨A7, c7, rfl, hr7, hb7⟩
  have HB7 := Lib.hid (below_next HB6.out hb7)
  have HT7 := Lib.hid (HT.out w7 A7 c7 HB7.out hr7)
  clear hb7 hr7
  go_wp2_with fail
  refine HT7.out.mono ?_
  rintro e w8 ⟨rfl, hb8⟩
  have HB8 := Lib.hid (below_next HB7.out hb8)
  clear hb8
  go_wp2_with fail
  refine (HEV.out w8).mono ?_
  rintro e w9 ⟨rfl, hb9⟩
  have HB9 := Lib.hid (below_next HB8.out hb9)
  clear hb9
  go_wp2
  go_ret
  exact ⟨rfl, HB9.out⟩
end Go.Proofs.YtkoodmoilfgafaaDoor
