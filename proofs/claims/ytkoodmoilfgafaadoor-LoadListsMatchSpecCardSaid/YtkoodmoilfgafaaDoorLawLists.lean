/- LoadListsMatchSpec: the law's walk. Printed by gen_lawlists.py. -/
import Derived.Test.YtkoodmoilfgafaaDoorGList
import Derived.Test.YtkoodmoilfgafaaDoorGInk
import Derived.Test.YtkoodmoilfgafaaDoorGArr
namespace Go.Proofs.YtkoodmoilfgafaaDoor
open Go Go.RowKit Go.Proofs

theorem codeT_rng (l : List Int) : 0 ≤ codeT l ∧ codeT l ≤ 100 := by
  unfold codeT
  split
  · omega
  · cases hf : ((List.range l.length).map (elT l)).find? (· != 0) with
    | none => simp
    | some x =>
      have hm := List.mem_of_find?_eq_some hf
      obtain ⟨j, _, rfl⟩ := List.mem_map.1 hm
      simp only [Option.getD_some]
      unfold elT
      split
      · omega
      · split <;> omega
theorem share_rng (k n : Int) : (∀ z ∈ shareR k n, I64 z) ∧ I64 (shareC k n) ∧ (shareR k n).length ≤ 100000 := by
  by_cases h : shareC k n = 0
  · obtain ⟨h0, h1, h2, h3⟩ := share_good h
    obtain ⟨N, rfl⟩ := Int.eq_ofNat_of_zero_le (show 0 ≤ n by omega)
    obtain ⟨d0, d1, _, _, _⟩ := share_div (N := N) h0 h1 (by omega)
    rw [shareR_ok h, h]
    refine ⟨fun z hz => ?_, by unfold I64; omega, by simp; omega⟩
    obtain ⟨i, _, rfl⟩ := List.mem_map.1 hz
    unfold shareE I64
    split <;> omega
  · obtain ⟨e1, e2, _⟩ := share_bad h
    rw [e1, e2]
    exact ⟨(fun z hz => by cases hz), by unfold I64; omega, by simp⟩
theorem partC_rng (ts : List Int) (k n : Int) : 0 ≤ partC ts k n ∧ partC ts k n ≤ 100 := by
  have := codeT_rng ts
  unfold partC
  split
  · exact this
  · split <;> omega
theorem part_rng {ts : List Int} (h : ∀ z ∈ ts, I64 z) (k n : Int) : (∀ z ∈ partR ts k n, I64 z) ∧ I64 (partC ts k n) ∧ (partR ts k n).length ≤ 100000 := by
  have hc := partC_rng ts k n
  refine ⟨fun z hz => ?_, by unfold I64; omega, ?_⟩
  · unfold partR at hz
    split at hz
    · exact h z (partU_mem hz)
    · cases hz
  · unfold partR
    split
    · rename_i h0
      have : codeT ts = 0 := by
        apply Classical.byContradiction; intro hn; unfold partC at h0; rw [if_pos hn] at h0; exact hn h0
      have := (codeT_ok this).le
      have := partL_le ts k.toNat n.toNat
      omega
    · simp
theorem togF_rng : ∀ z : List (List Int), 0 ≤ togF z ∧ togF z ≤ 100
  | [] => by simp [togF]
  | x :: r => by
    have := codeT_rng x
    have := togF_rng r
    unfold togF; split <;> omega
theorem tog_rng {l : List Ls} (h : ∀ s ∈ l, ∀ z ∈ s.zs, I64 z) : (∀ z ∈ togR (lsAbs l), I64 z) ∧ I64 (togC (lsAbs l)) ∧ (togR (lsAbs l)).length ≤ 100000 := by
  have hc : 0 ≤ togC (lsAbs l) ∧ togC (lsAbs l) ≤ 100 := by
    have := togF_rng (lsAbs l)
    unfold togC
    split
    · omega
    · split
      · exact this
      · split <;> omega
  refine ⟨fun z hz => ?_, by unfold I64; omega, ?_⟩
  · unfold togR at hz
    split at hz
    · rw [srtZ_mem, List.mem_flatten] at hz
      obtain ⟨x, hx, hz⟩ := hz
      obtain ⟨s, hs, rfl⟩ := List.mem_map.1 hx
      exact h s hs z hz
    · cases hz
  · by_cases h0 : togC (lsAbs l) = 0
    · obtain ⟨_, g2, g3⟩ := togC_zero h0
      rw [g3, srtZ_length]; omega
    · unfold togR; rw [if_neg h0]; simp
theorem paceB_nn {b p : Int} {tk : List Int} (hb : 0 ≤ b) (hp : 0 ≤ p) : ∀ k, 0 ≤ paceB b tk p k
  | 0 => hb
  | k + 1 => by have := paceB_nn (tk := tk) hb hp k; unfold paceB; omega
theorem pace_rng (b : Int) (tk : List Int) (p : Int) : (∀ z ∈ paceR b tk p, I64 z) ∧ I64 (paceCd b tk p) ∧ (paceR b tk p).length ≤ 100000 := by
  have hc : 0 ≤ paceCd b tk p ∧ paceCd b tk p ≤ 9 := by
    unfold paceCd
    split
    · omega
    · split
      · omega
      · split
        · omega
        · split <;> omega
  refine ⟨fun z hz => ?_, by unfold I64; omega, ?_⟩
  · unfold paceR at hz
    split at hz
    · rename_i h0
      unfold paceCd at h0
      split at h0
      · omega
      · rename_i n1
        split at h0
        · omega
        · split at h0
          · omega
          · rename_i n3
            split at h0
            · omega
            · rename_i n4
              unfold paceL at hz
              obtain ⟨j, hj, rfl⟩ := List.mem_map.1 hz
              have hj := List.mem_range.1 hj
              have g1 := paceOut_no (by simpa using n1 : paceOut b = false)
              have g2 := paceOut_no (x := p) (by cases h : paceOut p with | false => rfl | true => exact absurd (.inr h) n3)
              have g3 := paceB_nn (tk := tk) g1.1 g2.1 j
              have g4 : ¬ 1000000000000 < paceB b tk p j := fun h => n4 (paceLate_of hj h)
              unfold I64; omega
    · cases hz
  · unfold paceR
    split
    · rename_i h0
      rw [paceL_length]
      unfold paceCd at h0
      split at h0
      · omega
      · split at h0
        · omega
        · omega
    · simp

set_option maxHeartbeats 4000000 in
set_option maxRecDepth 100000 in
theorem lawLists_any (A : Option Addr) (c : Nat) (ts : List Int) (k n : Int) (B : Option Addr) (d : Nat) (l : List Ls) (b p : Int) (w : World) (ht : Tab w.heap.size w) (hr : Rd w 0 w.heap.size 1 A ts.length (ints ts)) (hl : ts.length ≤ 9223372036854775807) (hi : ∀ z ∈ ts, I64 z)
    (hs : LsR w w.heap.size B l.length l) (hsl : l.length ≤ 9223372036854775807) (hsz : ∀ h ∈ l, h.zs.length ≤ 9223372036854775807) (hsi : ∀ s ∈ l, ∀ z ∈ s.zs, I64 z) :
    Calls Tryd.prog 8 #[.slice A ts.length c, .int .i64 k, .int .i64 n, .slice B l.length d, .int .i64 b, .int .i64 p] w fun e w' => e = .returned (.bool true) ∧ Below w.heap.size w w' := by
  have HEV := Lib.hid (fun W => lawEven_any W)
  have HS1 := Lib.hid (fun W (hb : Below w.heap.size w W) => share_any k n W)
  have HS2 := Lib.hid (fun W (hb : Below w.heap.size w W) => r7Share_any k n W)
  have HRS := Lib.hid (share_rng k n)
  obtain ⟨LS, hLS⟩ : ∃ x, x = (shareR k n) := ⟨_, rfl⟩
  obtain ⟨ES, hES⟩ : ∃ x, x = (shareC k n) := ⟨_, rfl⟩
  rw [← hLS, ← hES] at HS1 HS2 HRS
  have HTS := Lib.hid (fun W A' c' (hb : Below w.heap.size w W) hr' => told7_any A' c' LS ES W ((ht.on hb).mono hb.size) hr' HRS.out.1 HRS.out.2.1 (by have := HRS.out.2.2; omega))
  obtain ⟨sS, hsS⟩ : ∃ s : ByteArray, s = ⟨(inkInts LS ++ inkInt ES).toArray⟩ := ⟨_, rfl⟩
  rw [← hsS] at HTS
  clear hLS hES hsS
  have HP1 := Lib.hid (fun W (hb : Below w.heap.size w W) => part_any A c ts k n W (hr.old hb) hl)
  have HP2 := Lib.hid (fun W (hb : Below w.heap.size w W) => r7Part_any A c ts k n W (hr.old hb) hl)
  have HRP := Lib.hid (part_rng hi k n)
  obtain ⟨LP, hLP⟩ : ∃ x, x = (partR ts k n) := ⟨_, rfl⟩
  obtain ⟨EP, hEP⟩ : ∃ x, x = (partC ts k n) := ⟨_, rfl⟩
  rw [← hLP, ← hEP] at HP1 HP2 HRP
  have HTP := Lib.hid (fun W A' c' (hb : Below w.heap.size w W) hr' => told7_any A' c' LP EP W ((ht.on hb).mono hb.size) hr' HRP.out.1 HRP.out.2.1 (by have := HRP.out.2.2; omega))
  obtain ⟨sP, hsP⟩ : ∃ s : ByteArray, s = ⟨(inkInts LP ++ inkInt EP).toArray⟩ := ⟨_, rfl⟩
  rw [← hsP] at HTP
  clear hLP hEP hsP
  have HT1 := Lib.hid (fun W (hb : Below w.heap.size w W) => together_any B d l W (hs.old hb) hsl hsz)
  have HT2 := Lib.hid (fun W (hb : Below w.heap.size w W) => r7Together_any B d l W (hs.old hb) hsl hsz)
  have HRT := Lib.hid (tog_rng hsi)
  obtain ⟨LT, hLT⟩ : ∃ x, x = (togR (lsAbs l)) := ⟨_, rfl⟩
  obtain ⟨ET, hET⟩ : ∃ x, x = (togC (lsAbs l)) := ⟨_, rfl⟩
  rw [← hLT, ← hET] at HT1 HT2 HRT
  have HTT := Lib.hid (fun W A' c' (hb : Below w.heap.size w W) hr' => told7_any A' c' LT ET W ((ht.on hb).mono hb.size) hr' HRT.out.1 HRT.out.2.1 (by have := HRT.out.2.2; omega))
  obtain ⟨sT, hsT⟩ : ∃ s : ByteArray, s = ⟨(inkInts LT ++ inkInt ET).toArray⟩ := ⟨_, rfl⟩
  rw [← hsT] at HTT
  clear hLT hET hsT
  have HQ1 := Lib.hid (fun W (hb : Below w.heap.size w W) => pace_any A c ts b p W (hr.old hb) hl)
  have HQ2 := Lib.hid (fun W (hb : Below w.heap.size w W) => r7Pace_any A c ts b p W (hr.old hb) hl)
  have HRQ := Lib.hid (pace_rng b ts p)
  obtain ⟨LQ, hLQ⟩ : ∃ x, x = (paceR b ts p) := ⟨_, rfl⟩
  obtain ⟨EQ, hEQ⟩ : ∃ x, x = (paceCd b ts p) := ⟨_, rfl⟩
  rw [← hLQ, ← hEQ] at HQ1 HQ2 HRQ
  have HTQ := Lib.hid (fun W A' c' (hb : Below w.heap.size w W) hr' => told7_any A' c' LQ EQ W ((ht.on hb).mono hb.size) hr' HRQ.out.1 HRQ.out.2.1 (by have := HRQ.out.2.2; omega))
  obtain ⟨sQ, hsQ⟩ : ∃ s : ByteArray, s = ⟨(inkInts LQ ++ inkInt EQ).toArray⟩ := ⟨_, rfl⟩
  rw [← hsQ] at HTQ
  clear hLQ hEQ hsQ
  clear ht hr hi hs hsl hsz hsi
  have HB0 := Lib.hid (Below.refl w.heap.size w)
  go_enter Tryd.func8, Tryd.ntmps8
  go_wp2_with fail
  (with_reducible refine (HS1.out _ HB0.out).mono ?_)
  rintro e w1a ⟨A1, c1, rfl, hr1, hb1⟩
  have HBa1 := Lib.hid (below_next HB0.out hb1)
  have HTa1 := Lib.hid (HTS.out w1a A1 c1 HBa1.out (hr1))
  clear hb1 hr1
  go_wp2_with fail
  (with_reducible refine HTa1.out.mono ?_)
  rintro e w1 ⟨rfl, hb1⟩
  have HB1 := Lib.hid (below_next HBa1.out hb1)
  clear hb1
  go_wp2_with fail
  (with_reducible refine (HS2.out _ HB1.out).mono ?_)
  rintro e w2a ⟨A1, c1, rfl, hr1, hb1⟩
  have HBa2 := Lib.hid (below_next HB1.out hb1)
  have HTa2 := Lib.hid (HTS.out w2a A1 c1 HBa2.out (hr1))
  clear hb1 hr1
  go_wp2_with fail
  (with_reducible refine HTa2.out.mono ?_)
  rintro e w2 ⟨rfl, hb1⟩
  have HB2 := Lib.hid (below_next HBa2.out hb1)
  clear hb1
  go_wp2_with fail
  (with_reducible refine (HP1.out _ HB2.out).mono ?_)
  rintro e w3a ⟨A1, c1, rfl, hr1, _, hb1⟩
  have HBa3 := Lib.hid (below_next HB2.out hb1)
  have HTa3 := Lib.hid (HTP.out w3a A1 c1 HBa3.out (hr1.more (Nat.zero_le _) (Nat.le_refl _)))
  clear hb1 hr1
  go_wp2_with fail
  (with_reducible refine HTa3.out.mono ?_)
  rintro e w3 ⟨rfl, hb1⟩
  have HB3 := Lib.hid (below_next HBa3.out hb1)
  clear hb1
  go_wp2_with fail
  (with_reducible refine (HP2.out _ HB3.out).mono ?_)
  rintro e w4a ⟨A1, c1, rfl, hr1, _, hb1⟩
  have HBa4 := Lib.hid (below_next HB3.out hb1)
  have HTa4 := Lib.hid (HTP.out w4a A1 c1 HBa4.out (hr1.more (Nat.zero_le _) (Nat.le_refl _)))
  clear hb1 hr1
  go_wp2_with fail
  (with_reducible refine HTa4.out.mono ?_)
  rintro e w4 ⟨rfl, hb1⟩
  have HB4 := Lib.hid (below_next HBa4.out hb1)
  clear hb1
  go_wp2_with fail
  (with_reducible refine (HT1.out _ HB4.out).mono ?_)
  rintro e w5a ⟨A1, c1, rfl, hr1, hb1⟩
  have HBa5 := Lib.hid (below_next HB4.out hb1)
  have HTa5 := Lib.hid (HTT.out w5a A1 c1 HBa5.out (hr1))
  clear hb1 hr1
  go_wp2_with fail
  (with_reducible refine HTa5.out.mono ?_)
  rintro e w5 ⟨rfl, hb1⟩
  have HB5 := Lib.hid (below_next HBa5.out hb1)
  clear hb1
  go_wp2_with fail
  (with_reducible refine (HT2.out _ HB5.out).mono ?_)
  rintro e w6a ⟨A1, c1, rfl, hr1, hb1⟩
  have HBa6 := Lib.hid (below_next HB5.out hb1)
  have HTa6 := Lib.hid (HTT.out w6a A1 c1 HBa6.out (hr1))
  clear hb1 hr1
  go_wp2_with fail
  (with_reducible refine HTa6.out.mono ?_)
  rintro e w6 ⟨rfl, hb1⟩
  have HB6 := Lib.hid (below_next HBa6.out hb1)
  clear hb1
  go_wp2_with fail
  (with_reducible refine (HQ1.out _ HB6.out).mono ?_)
  rintro e w7a ⟨A1, c1, rfl, hr1, hb1⟩
  have HBa7 := Lib.hid (below_next HB6.out hb1)
  have HTa7 := Lib.hid (HTQ.out w7a A1 c1 HBa7.out (hr1))
  clear hb1 hr1
  go_wp2_with fail
  (with_reducible refine HTa7.out.mono ?_)
  rintro e w7 ⟨rfl, hb1⟩
  have HB7 := Lib.hid (below_next HBa7.out hb1)
  clear hb1
  go_wp2_with fail
  (with_reducible refine (HQ2.out _ HB7.out).mono ?_)
  rintro e w8a ⟨A1, c1, rfl, hr1, hb1⟩
  have HBa8 := Lib.hid (below_next HB7.out hb1)
  have HTa8 := Lib.hid (HTQ.out w8a A1 c1 HBa8.out (hr1))
  clear hb1 hr1
  go_wp2_with fail
  (with_reducible refine HTa8.out.mono ?_)
  rintro e w8 ⟨rfl, hb1⟩
  have HB8 := Lib.hid (below_next HBa8.out hb1)
  clear hb1
  go_wp2_with fail
  (with_reducible refine (HEV.out w8).mono ?_)
  rintro e w9 ⟨rfl, hb9⟩
  have HB9 := Lib.hid (below_next HB8.out hb9)
  clear hb9
  go_wp2
  go_ret
  exact ⟨rfl, HB9.out⟩
end Go.Proofs.YtkoodmoilfgafaaDoor
