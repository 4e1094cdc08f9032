/- LoadDrawnMatchesSpec: the law's walk. -/
import Derived.Test.YtkoodmoilfgafaaGreatDoorGDraw
import Derived.Test.YtkoodmoilfgafaaGreatDoorR7Drawn
import Derived.Test.YtkoodmoilfgafaaGreatDoorGInk
import Derived.Test.YtkoodmoilfgafaaGreatDoorGArr
namespace Go.Proofs.YtkoodmoilfgafaaGreatDoor
open Go Go.RowKit Go.Proofs

theorem fst_le {n d : Nat} : ∀ (l : List Stg) (ah bg T : Nat), (∀ s ∈ l, 0 < s.F ∧ s.F < 2 ^ 64) → fst n d ah bg l = some T → T ≤ bg + sumF l
  | [], _, _, _, _, h => by cases h
  | s :: r, ah, bg, T, hF, h => by
    have e : sumF (s :: r) = s.F + sumF r := by simp [sumF]
    rw [fst] at h
    split at h
    · have := fst_le r _ _ T (fun x hx => hF x (by simp [hx])) h
      omega
    · rename_i hlt
      simp only [Option.some.injEq] at h
      obtain ⟨X, hX, hXF, _⟩ := bs_place (n := n) (d := d) (ah := ah) (s := s) (hF s (by simp)).1 (hF s (by simp)).2 hlt
      rw [hX] at h
      omega
theorem draw_rng (l : List (Int × Int × Int)) (seed : Int) : (∀ z ∈ drawR l seed, I64 z) ∧ I64 (drawC l) ∧ (drawR l seed).length ≤ 100000 := by
  have hcs : 0 ≤ codeS l ∧ codeS l ≤ 100 := by
    unfold codeS
    split
    · omega
    · split
      · omega
      · split
        · split <;> omega
        · omega
  have hc : 0 ≤ drawC l ∧ drawC l ≤ 100 := by
    unfold drawC
    split
    · exact hcs
    · split <;> omega
  refine ⟨fun z hz => ?_, by unfold I64; omega, ?_⟩
  · unfold drawR at hz
    split at hz
    · rename_i h0
      have hok : OkL l := codeS_ok (Classical.byContradiction fun h => by unfold drawC at h0; rw [if_pos h] at h0; exact h h0)
      rw [srtZ_mem] at hz
      unfold dwL at hz
      obtain ⟨i, _, rfl⟩ := List.mem_map.1 hz
      obtain ⟨T, hT⟩ := dwT_some hok seed i
      have h1 := fst_le (stgs l) 0 0 T (fun s hs => by
        obtain ⟨x, hx, rfl⟩ := List.mem_map.1 hs
        have := hok.ok x hx
        have := this.1
        show 0 < x.1.toNat ∧ x.1.toNat < 2 ^ 64
        unfold OkS at *
        omega) hT
      have h2 := sumF_lenS hok.ok
      have h3 := hok.sum
      rw [hT]
      simp only [Option.getD_some]
      unfold I64; omega
    · cases hz
  · unfold drawR
    split
    · rename_i h0
      rw [srtZ_length, dwL_length]
      unfold drawC at h0
      split at h0
      · rename_i h; exact absurd h0 h
      · split at h0 <;> omega
    · simp

set_option maxHeartbeats 4000000 in
set_option maxRecDepth 100000 in
theorem lawDrawn_any (A : Option Addr) (c : Nat) (l : List (Int × Int × Int)) (seed : Int) (w : World) (ht : Tab w.heap.size w) (hr : Rd w 0 w.heap.size 3 A l.length (cells3 l)) (hl : l.length ≤ 9223372036854775807) :
    Calls Tryz.prog 5 #[.slice A l.length c, .int .i64 seed] w fun e w' => e = .returned (.bool true) ∧ Below w.heap.size w w' := by
  have HEV := Lib.hid (fun W => lawEven_any W)
  have HA1 := Lib.hid (drawn_any A c l seed w hr hl)
  have HA2 := Lib.hid (fun W (hb : Below w.heap.size w W) => r7Drawn_any A c l seed W (hr.old hb) hl)
  have HRG := Lib.hid (draw_rng l seed)
  obtain ⟨E, hE⟩ : ∃ x, x = drawC l := ⟨_, rfl⟩
  obtain ⟨L, hL⟩ : ∃ x, x = drawR l seed := ⟨_, rfl⟩
  rw [← hE, ← hL] at HA1 HA2 HRG
  have HT := Lib.hid (fun W A' c' (hb : Below w.heap.size w W) hr' => told7_any A' c' L E W ((ht.on hb).mono hb.size) hr' HRG.out.1 HRG.out.2.1 (by have := HRG.out.2.2; omega))
  obtain ⟨s, hs⟩ : ∃ s : ByteArray, s = ⟨(inkInts L ++ inkInt E).toArray⟩ := ⟨_, rfl⟩
  rw [← hs] at HT
  clear hr ht hE hL hs
  go_enter Tryz.func5, Tryz.ntmps5
  go_wp2_with fail
  (with_reducible refine HA1.out.mono ?_)
  rintro e w1 ⟨A1, c1, rfl, hr1, hb1⟩
  have HB1 := Lib.hid hb1
  have HT1 := Lib.hid (HT.out w1 A1 c1 HB1.out hr1)
  clear hb1 hr1
  go_wp2_with fail
  (with_reducible refine HT1.out.mono ?_)
  rintro e w2 ⟨rfl, hb2⟩
  have HB2 := Lib.hid (below_next HB1.out hb2)
  clear hb2
  go_wp2_with fail
  (with_reducible refine (HA2.out _ HB2.out).mono ?_)
  rintro e w3 ⟨A3, c3, rfl, hr3, hb3⟩
  have HB3 := Lib.hid (below_next HB2.out hb3)
  have HT3 := Lib.hid (HT.out w3 A3 c3 HB3.out hr3)
  clear hb3 hr3
  go_wp2_with fail
  (with_reducible refine HT3.out.mono ?_)
  rintro e w4 ⟨rfl, hb4⟩
  have HB4 := Lib.hid (below_next HB3.out hb4)
  clear hb4
  go_wp2_with fail
  (with_reducible refine (HEV.out w4).mono ?_)
  rintro e w5 ⟨rfl, hb5⟩
  have HB5 := Lib.hid (below_next HB4.out hb5)
  clear hb5
  go_wp2
  go_ret
  exact ⟨rfl, HB5.out⟩
end Go.Proofs.YtkoodmoilfgafaaGreatDoor
