/- LoadAdmitMatchesSpec: the law's walk. -/
import Derived.Test.YtkoodmoilfgafaaDoorR7Adm
import Derived.Test.YtkoodmoilfgafaaDoorAdmit
import Derived.Test.YtkoodmoilfgafaaDoorGInk
import Derived.Test.YtkoodmoilfgafaaDoorGArr
namespace Go.Proofs.YtkoodmoilfgafaaDoor
open Go Go.RowKit Go.Proofs

theorem codeT_rg (l : List Int) : 0 ≤ codeT l ∧ codeT l ≤ 100 := by
  unfold codeT
  split
  · omega
  · cases hf : ((List.range l.length).map (elT l)).find? (· != 0) with
    | none => simp
    | some x =>
      have hm := List.mem_of_find?_eq_some hf
      obtain ⟨j, _, rfl⟩ := List.mem_map.1 hm
      simp only [Option.getD_some]
      unfold elT
      split
      · omega
      · split <;> omega
theorem adm_rng (ts : List Int) (r b : Int) : (∀ z ∈ admL ts r b, I64 z) ∧ I64 (admC ts r b) ∧ (admL ts r b).length ≤ 100000 := by
  have hcr := codeT_rg ts
  have hc : 0 ≤ admC ts r b ∧ admC ts r b ≤ 100 := by
    unfold admC
    split
    · exact hcr
    · split
      · omega
      · split
        · omega
        · split <;> omega
  by_cases h : admC ts r b = 0
  · have hL : admL ts r b = outsS (b * 1000000000) r ts ts.length := by unfold admL; rw [if_pos h]
    have h' := h
    unfold admC at h'
    split at h'
    · rename_i h1; exact absurd h' h1
    · rename_i h1
      have hok := codeT_ok (Classical.byContradiction h1)
      split at h'
      · omega
      · rename_i h2
        have hao : admOk r b := Classical.byContradiction h2
        obtain ⟨a1, a2, a3, a4⟩ := hao
        split at h'
        · omega
        · rename_i h3
          split at h'
          · omega
          · rename_i h4
            rw [hL]
            refine ⟨fun z hz => ?_, by unfold I64; omega, by rw [outsS_length]; have := hok.le; omega⟩
            have hz1 : ¬ 1000000000000 < z := fun hlt => h4 (by rw [List.any_eq_true]; exact ⟨z, hz, by simpa using hlt⟩)
            unfold outsS at hz
            obtain ⟨j, hj, rfl⟩ := List.mem_map.1 hz
            have hj := List.mem_range.1 hj
            cases e : stS (b * 1000000000) r ts ts.length with
            | none => exact absurd e h3
            | some s =>
              obtain ⟨s', hs'⟩ := stS_some e (k := j + 1) (by omega)
              have hb := st_bd a1 (show 1000000000 ≤ b * 1000000000 by omega) (j + 1) s'.1 s'.2 hs'
              rw [hs'] at hz1 ⊢
              simp only [Option.getD_some] at hz1 ⊢
              unfold I64; omega
  · have hL : admL ts r b = [] := by unfold admL; rw [if_neg h]
    rw [hL]
    exact ⟨(fun z hz => by cases hz), by unfold I64; omega, by simp⟩

set_option maxHeartbeats 4000000 in
set_option maxRecDepth 100000 in
theorem lawAdm_any (A : Option Addr) (c : Nat) (ts : List Int) (r b : Int) (w : World) (ht : Tab w.heap.size w) (hr : Rd w 0 w.heap.size 1 A ts.length (ints ts)) (hl : ts.length ≤ 9223372036854775807) :
    Calls Tryd.prog 5 #[.slice A ts.length c, .int .i64 r, .int .i64 b] w fun e w' => e = .returned (.bool true) ∧ Below w.heap.size w w' := by
  have HEV := Lib.hid (fun W => lawEven_any W)
  have HA1 := Lib.hid (admit_any A c ts r b w hr hl)
  have HA2 := Lib.hid (fun W (hb : Below w.heap.size w W) => r7Admit_any A c ts r b W (hr.old hb) hl)
  have HRG := Lib.hid (adm_rng ts r b)
  obtain ⟨E, hE⟩ : ∃ x, x = admC ts r b := ⟨_, rfl⟩
  obtain ⟨L, hL⟩ : ∃ x, x = admL ts r b := ⟨_, rfl⟩
  rw [← hE, ← hL] at HA1 HA2 HRG
  have HT := Lib.hid (fun W A' c' (hb : Below w.heap.size w W) hr' => told7_any A' c' L E W ((ht.on hb).mono hb.size) hr' HRG.out.1 HRG.out.2.1 (by have := HRG.out.2.2; omega))
  obtain ⟨s, hs⟩ : ∃ s : ByteArray, s = ⟨(inkInts L ++ inkInt E).toArray⟩ := ⟨_, rfl⟩
  rw [← hs] at HT
  clear hr ht hE hL hs
  go_enter Tryd.func5, Tryd.ntmps5
  go_wp2_with fail
  (with_reducible refine HA1.out.mono ?_)
  rintro e w1 ⟨A1, c1, rfl, hr1, hb1⟩
  have HB1 := Lib.hid hb1
  have HT1 := Lib.hid (HT.out w1 A1 c1 HB1.out hr1)
  clear hb1 hr1
  go_wp2_with fail
  (with_reducible refine HT1.out.mono ?_)
  rintro e w2 ⟨rfl, hb2⟩
  have HB2 := Lib.hid (below_next HB1.out hb2)
  clear hb2
  go_wp2_with fail
  (with_reducible refine (HA2.out _ HB2.out).mono ?_)
  rintro e w3 ⟨A3, c3, rfl, hr3, hb3⟩
  have HB3 := Lib.hid (below_next HB2.out hb3)
  have HT3 := Lib.hid (HT.out w3 A3 c3 HB3.out hr3)
  clear hb3 hr3
  go_wp2_with fail
  (with_reducible refine HT3.out.mono ?_)
  rintro e w4 ⟨rfl, hb4⟩
  have HB4 := Lib.hid (below_next HB3.out hb4)
  clear hb4
  go_wp2_with fail
  (with_reducible refine (HEV.out w4).mono ?_)
  rintro e w5 ⟨rfl, hb5⟩
  have HB5 := Lib.hid (below_next HB4.out hb5)
  clear hb5
  go_wp2
  go_ret
  exact ⟨rfl, HB5.out⟩
end Go.Proofs.YtkoodmoilfgafaaDoor
