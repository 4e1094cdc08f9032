import Derived.Test.YtnpfdelklolchaaGreatDoorG12
import Derived.Test.YtnpfdelklolchaaGreatDoorG29
import Derived.Test.YtnpfdelklolchaaGreatDoorG31
import Derived.Test.YtnpfdelklolchaaGreatDoorG33
import Derived.Laws.CopyOwn
import Derived.Test.YtnpfdelklolchaaGreatDoorG1
/- Blocks of integers. -/
namespace Go.Proofs.YtnpfdelklolchaaGreatDoor
open Go Go.RowKit Go.Proofs

/-- block g holds these integers -/
def IBlk (w : World) (g : Nat) (o : List Int) : Prop := w.heap[g]? = some (.cells (ints o).toArray 3 (0, 0))
theorem IBlk.cell {w : World} {g : Nat} {o : List Int} (h : IBlk w g o) {i : Nat} {d : Int} (hi : o[i]? = some d) : w.cell? ⟨g, i, none⟩ = some (.int .i64 d) := by
  rw [cellsAt h]; simp [ints, hi]
theorem IBlk.frozen {w : World} {g : Nat} {o : List Int} (h : IBlk w g o) (i : Nat) : w.frozen? ⟨g, i, none⟩ = false := frozenAt h i
theorem IBlk.set {w : World} {g : Nat} {o : List Int} (h : IBlk w g o) (i : Nat) (d : Int) : IBlk (w.setCell ⟨g, i, none⟩ (.int .i64 d)) g (o.set i d) := by
  unfold IBlk at *
  simp only [World.setCell, Array.getElem?_modify, h, if_true, Option.map_some]
  congr 2
  rw [List.setIfInBounds_toArray]
  simp [ints, List.map_set]
theorem IBlk.of_own {w : World} {base g n : Nat} {o : List Int} (h : w.ownsRow base 3 1 (.slice (some ⟨g, 0, none⟩) n n) n (ints o)) : IBlk w g o ∧ o.length = n := by
  have hl : o.length = n := by have := h.1; simpa [ints] using this
  rcases h.2 with ⟨hv, _⟩ | ⟨g', cap, cur, hv, hb, hh, h1, h2, h3, h4⟩
  · cases hv
  · simp only [Value.slice.injEq, Option.some.injEq, Addr.mk.injEq] at hv
    obtain ⟨⟨rfl, _⟩, _, rfl⟩ := hv
    refine ⟨?_, hl⟩
    unfold IBlk
    rw [hh]
    have e : cur = (ints o).toArray := by
      apply Array.toList_inj.1
      rw [← h4, List.take_of_length_le (by simp; omega)]
    rw [e]
theorem IBlk.rd {w : World} {g : Nat} {o : List Int} (h : IBlk w g o) : Rd w 0 w.heap.size 1 (some ⟨g, 0, none⟩) o.length (ints o) :=
  ⟨by simp [ints], fun _ => ⟨g, 0, rfl, Nat.zero_le _, heap_lt h, fun j u hj => by rw [cellsAt h, Nat.zero_add]; simpa using hj⟩⟩
end Go.Proofs.YtnpfdelklolchaaGreatDoor

/- Package judge: the sums of points. -/
namespace Go.Proofs.YtnpfdelklolchaaGreatDoor
open Go Go.RowKit Go.Proofs

set_option maxHeartbeats 8000000 in
set_option maxRecDepth 100000 in
theorem jSquare_any (n : Int) (w : World) (h1 : -9000000000000000000 ≤ n) (h2 : n ≤ 9000000000000000000) :
    Calls Tryz.prog 29 #[.int .i64 n] w (NatPost (n.natAbs * n.natAbs) w) := by
  have HO := Lib.hid (fun W => natOf_any (max n (-n)) W (by omega))
  rw [show (max n (-n)).toNat = n.natAbs by omega] at HO
  have hlt : n.natAbs < W64 ^ 1 := by unfold W64; omega
  have HM := Lib.hid (fun W A1 A2 c1 c2 l1 l2 (h1 : NatR W A1 c1 l1 n.natAbs) (h2 : NatR W A2 c2 l2 n.natAbs) => natMul_any A1 A2 c1 c2 l1 l2 _ _ W h1 h2 (by have := h1.len hlt; omega) (by have := h2.len hlt; omega))
  obtain ⟨a, ha⟩ : ∃ a, a = n.natAbs := ⟨_, rfl⟩
  rw [← ha] at HO HM ⊢
  clear hlt ha
  go_enter Tryz.func29, Tryz.ntmps29
  go_wp2_with fail
  (with_reducible refine (HO.out _).mono ?_)
  rintro e w1 ⟨A1, c1, l1, rfl, hn1, hb1⟩
  have HN1 := Lib.hid hn1
  have HB1 := Lib.hid hb1
  clear hn1 hb1
  go_wp2_with fail
  (with_reducible refine (HO.out _).mono ?_)
  rintro e w2 ⟨A2, c2, l2, rfl, hn2, hb2⟩
  have HMM := Lib.hid (HM.out w2 A1 A2 c1 c2 l1 l2 (HN1.out.on hb2) hn2)
  have HB2 := Lib.hid (below_next HB1.out hb2)
  clear hn2 hb2
  go_wp2_with fail
  (with_reducible refine (HMM.out).mono ?_)
  rintro e w3 ⟨A3, c3, l3, rfl, hn3, hb3⟩
  have HF := Lib.hid (show NatR w3 A3 c3 l3 (a * a) ∧ Below w.heap.size w w3 from ⟨hn3, below_next HB2.out hb3⟩)
  clear hn3 hb3
  go_wp2
  refine bodyPost_ret (v := .slice A3 l3.length c3) (by simp [results, Tryz.results29, go_sem]) rfl ⟨A3, c3, l3, rfl, HF.out.1, HF.out.2⟩
end Go.Proofs.YtnpfdelklolchaaGreatDoor

/- Package judge: points checked. -/
namespace Go.Proofs.YtnpfdelklolchaaGreatDoor
open Go Go.RowKit Go.Proofs

set_option maxHeartbeats 8000000 in
set_option maxRecDepth 100000 in
theorem jChkNum_any (A : Option Addr) (c : Nat) (xs : List Int) (w : World) (hr : Rd w 0 w.heap.size 1 A xs.length (ints xs)) (hl : xs.length ≤ 100000) :
    Calls Tryz.prog 22 #[.slice A xs.length c] w fun e w' => e = .returned (.int .i64 (if okZ xs = true then 0 else 9)) ∧ Below w.heap.size w w' := by
  have HR := Lib.hid hr
  have HIN := Lib.hid (fun x W => jInside_any x (-1000000) 1000000 W)
  have hall : (∀ j x, xs[j]? = some x → (decide (-1000000 ≤ x) && decide (x ≤ 1000000)) = true) → okZ xs = true := fun h => by
    unfold okZ
    rw [List.all_eq_true]
    intro x hx
    obtain ⟨j, hj⟩ := List.getElem?_of_mem hx
    exact h j x hj
  have hbad : ∀ j x, xs[j]? = some x → (decide (-1000000 ≤ x) && decide (x ≤ 1000000)) = false → ¬ okZ xs = true := fun j x hj h hk => by
    have := List.all_eq_true.1 hk x (List.mem_of_getElem? hj)
    rw [h] at this; cases this
  obtain ⟨V, hV⟩ : ∃ V : Int, V = if okZ xs = true then 0 else 9 := ⟨_, rfl⟩
  have HALL := Lib.hid (fun h => show V = 0 by rw [hV, if_pos (hall h)])
  have HBAD := Lib.hid (fun j x hj h => show V = 9 by rw [hV, if_neg (hbad j x hj h)])
  rw [← hV]
  clear hr hV hall hbad
  go_enter Tryz.func22, Tryz.ntmps22
  go_wp2
  go_loopw [4, 7] (fun _ kv wr => ∃ k : Nat, kv = .int .i64 (k : Nat) ∧ k ≤ xs.length ∧ (∀ j x, j < k → xs[j]? = some x → (decide (-1000000 ≤ x) && decide (x ≤ 1000000)) = true) ∧ Below w.heap.size w wr) (fun _ kv _ => xs.length - (intOf kv).toNat)
  case atStart => exact ⟨0, rfl, Nat.zero_le _, fun j x h => by omega, Below.refl _ _⟩
  case round =>
    obtain ⟨k, rfl, hk, hok, hbw⟩ := hrel
    have HBW := Lib.hid hbw
    have HOK := Lib.hid hok
    by_cases hlt : k < xs.length
    · obtain ⟨b, o, u, rfl, hb, hu, qk⟩ := (HR.out.old hbw).at1 hlt
      obtain ⟨x, ht, rfl⟩ := ints_get hu
      have HT := Lib.hid ht
      obtain ⟨zb, hzb⟩ : ∃ zb, zb = (decide (-1000000 ≤ x) && decide (x ≤ 1000000)) := ⟨_, rfl⟩
      have HI := Lib.hid (HIN.out x wr)
      rw [← hzb] at HI
      have HZB := Lib.hid hzb
      clear hok hbw hu ht hzb
      go_wp2_with fail
      (with_reducible refine (HI.out).mono ?_)
      rintro e w1 ⟨rfl, hw1⟩
      have hw1' := hw1.symm
      subst hw1'
      cases zb with
      | true =>
        go_wp2
        go_roundw
        case rel => exact ⟨k + 1, by go_num, by omega, fun j z hj hz => by
          rcases Nat.lt_or_ge j k with g | g
          · exact HOK.out j z g hz
          · obtain rfl : j = k := by omega
            rw [HT.out] at hz
            obtain rfl := Option.some.inj hz
            exact HZB.out.symm, HBW.out⟩
        case measure => simp [intOf]; omega
      | false =>
        have HV := Lib.hid (HBAD.out k x HT.out HZB.out.symm)
        go_wp2
        go_ret
        exact ⟨by rw [HV.out]; rfl, HBW.out⟩
    · have HV := Lib.hid (HALL.out (fun j x hj => HOK.out j x (by have := (List.getElem?_eq_some_iff.1 hj).1; omega) hj))
      clear hok hbw
      go_wp2
      go_ret
      exact ⟨by rw [HV.out]; rfl, HBW.out⟩
end Go.Proofs.YtnpfdelklolchaaGreatDoor

/- Lines through points: what Line tells. Plain. -/
namespace Go.Proofs.YtnpfdelklolchaaGreatDoor
open Go Go.RowKit Go.Proofs

end Go.Proofs.YtnpfdelklolchaaGreatDoor

/- Package dynamometerref10: points checked. -/
namespace Go.Proofs.YtnpfdelklolchaaGreatDoor
open Go Go.RowKit Go.Proofs

set_option maxHeartbeats 8000000 in
set_option maxRecDepth 100000 in
theorem rNumF_any (A : Option Addr) (c : Nat) (xs : List Int) (w : World) (hr : Rd w 0 w.heap.size 1 A xs.length (ints xs)) (hl : xs.length ≤ 100000) :
    Calls Tryz.prog 44 #[.slice A xs.length c] w fun e w' => e = .returned (.int .i64 (if okZ xs = true then 0 else 9)) ∧ Below w.heap.size w w' := by
  have HR := Lib.hid hr
  have hall : (∀ j x, xs[j]? = some x → -1000000 ≤ x ∧ x ≤ 1000000) → okZ xs = true := fun h => by
    unfold okZ
    rw [List.all_eq_true]
    intro x hx
    obtain ⟨j, hj⟩ := List.getElem?_of_mem hx
    have := h j x hj
    simpa using this
  have hbad : ∀ j x, xs[j]? = some x → ¬ (-1000000 ≤ x ∧ x ≤ 1000000) → ¬ okZ xs = true := fun j x hj h hk => h (okZ_mem hk (List.mem_of_getElem? hj))
  obtain ⟨V, hV⟩ : ∃ V : Int, V = if okZ xs = true then 0 else 9 := ⟨_, rfl⟩
  have HALL := Lib.hid (fun h => show V = 0 by rw [hV, if_pos (hall h)])
  have HBAD := Lib.hid (fun j x hj h => show V = 9 by rw [hV, if_neg (hbad j x hj h)])
  rw [← hV]
  clear hr hV hall hbad
  go_enter Tryz.func44, Tryz.ntmps44
  go_wp2
  go_loopw [3] (fun kv wr => ∃ k : Nat, kv = .int .i64 (k : Nat) ∧ k ≤ xs.length ∧ (∀ j x, j < k → xs[j]? = some x → -1000000 ≤ x ∧ x ≤ 1000000) ∧ Below w.heap.size w wr) (fun kv _ => xs.length - (intOf kv).toNat)
  case atStart => exact ⟨0, rfl, Nat.zero_le _, fun j x h => by omega, Below.refl _ _⟩
  case round =>
    obtain ⟨k, rfl, hk, hok, hbw⟩ := hrel
    have HBW := Lib.hid hbw
    have HOK := Lib.hid hok
    by_cases hlt : k < xs.length
    · obtain ⟨b, o, u, rfl, hb, hu, qk⟩ := (HR.out.old hbw).at1 hlt
      obtain ⟨x, ht, rfl⟩ := ints_get hu
      have HT := Lib.hid ht
      clear hok hbw hu ht
      by_cases h1 : x < -1000000
      · have t1 : decide (x < -1000000) = true := decide_eq_true h1
        have HV := Lib.hid (HBAD.out k x HT.out (by omega))
        go_wp2
        go_ret
        exact ⟨by rw [HV.out]; rfl, HBW.out⟩
      · have t1 : decide (x < -1000000) = false := decide_eq_false h1
        by_cases h2 : 1000000 < x
        · have t2 : decide (1000000 < x) = true := decide_eq_true h2
          have HV := Lib.hid (HBAD.out k x HT.out (by omega))
          go_wp2
          go_ret
          exact ⟨by rw [HV.out]; rfl, HBW.out⟩
        · have t2 : decide (1000000 < x) = false := decide_eq_false h2
          go_wp2
          go_roundw
          case rel => exact ⟨k + 1, by go_num, by omega, fun j z hj hz => by
            rcases Nat.lt_or_ge j k with g | g
            · exact HOK.out j z g hz
            · obtain rfl : j = k := by omega
              rw [HT.out] at hz
              obtain rfl := Option.some.inj hz
              omega, HBW.out⟩
          case measure => simp [intOf]; omega
    · have HV := Lib.hid (HALL.out (fun j x hj => HOK.out j x (by have := (List.getElem?_eq_some_iff.1 hj).1; omega) hj))
      clear hok hbw
      go_wp2
      go_ret
      exact ⟨by rw [HV.out]; rfl, HBW.out⟩
end Go.Proofs.YtnpfdelklolchaaGreatDoor
