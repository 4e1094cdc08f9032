import Derived.Test.YtnapdhfkgfjjfaaGreatDoorG41
import Derived.Test.YtnapdhfkgfjjfaaGreatDoorG32
import Derived.Test.YtnapdhfkgfjjfaaGreatDoorG2
import Derived.Laws.CopyOwn
/- Package judge: the sums of points. -/
namespace Go.Proofs.YtnapdhfkgfjjfaaGreatDoor
open Go Go.RowKit Go.Proofs

end Go.Proofs.YtnapdhfkgfjjfaaGreatDoor

/- Lines through points: bounds, parts of the list. Plain. -/
namespace Go.Proofs.YtnapdhfkgfjjfaaGreatDoor
open Go Go.RowKit Go.Proofs

def OkP (l : List (Int × Int)) : Prop := ∀ p ∈ l, (-1000000 ≤ p.1 ∧ p.1 ≤ 1000000) ∧ (-1000000 ≤ p.2 ∧ p.2 ≤ 1000000)
theorem OkP.take {l : List (Int × Int)} (h : OkP l) (i : Nat) : OkP (l.take i) := fun p hp => h p (List.mem_of_mem_take hp)
theorem OkP.drop {l : List (Int × Int)} (h : OkP l) (i : Nat) : OkP (l.drop i) := fun p hp => h p (List.mem_of_mem_drop hp)
/-- the bounds of all sums -/
structure BndP (l : List (Int × Int)) : Prop where
  n : l.length ≤ 300
  x1 : -300000000 ≤ pX l
  x2 : pX l ≤ 300000000
  y1 : -300000000 ≤ pY l
  y2 : pY l ≤ 300000000
  xx1 : -300000000000000 ≤ pXX l
  xx2 : pXX l ≤ 300000000000000
  xy1 : -300000000000000 ≤ pXY l
  xy2 : pXY l ≤ 300000000000000
  yy1 : -300000000000000 ≤ pYY l
  yy2 : pYY l ≤ 300000000000000
/-- what checkPoints tells -/
def okZ (l : List Int) : Bool := l.all fun x => decide (-1000000 ≤ x) && decide (x ≤ 1000000)
end Go.Proofs.YtnapdhfkgfjjfaaGreatDoor

/- Package judge: points checked. -/
namespace Go.Proofs.YtnapdhfkgfjjfaaGreatDoor
open Go Go.RowKit Go.Proofs

theorem rd_add {w : World} {b o j : Nat} {v : Value} (h : w.cell? ⟨b, o + j, none⟩ = some v) : w.cell? (Addr.add ⟨b, o, none⟩ j) = some v := by
  rcases Nat.eq_zero_or_pos j with rfl | hj
  · simpa [Addr.add] using h
  · simpa [Addr.add, Nat.ne_of_gt hj] using h
theorem rd_src {w : World} {A : Option Addr} {xs : List Int} (h : Rd w 0 w.heap.size 1 A xs.length (ints xs)) (h0 : 0 < (ints xs).length) : ∃ ad, A = some ad ∧ ∀ j v, (ints xs)[j]? = some v → w.cell? (ad.add j) = some v := by
  obtain ⟨b, o, e, _, _, hc⟩ := h.2 (by simpa [ints] using h0)
  exact ⟨⟨b, o, none⟩, e, fun j v hj => rd_add (hc j v hj)⟩
theorem ints_one (xs : List Int) : ∀ v ∈ ints xs, v.oneCell' = true := by
  intro v hv
  simp only [ints, List.mem_map] at hv
  obtain ⟨x, _, rfl⟩ := hv
  rfl
theorem splice_two (xs ys : List Int) : splice (splice (ints (List.replicate (xs.length + ys.length) 0)) 0 (ints xs)) xs.length (ints ys) = ints (xs ++ ys) := by
  have h1 : splice (ints (List.replicate (xs.length + ys.length) 0)) 0 (ints xs) = ints xs ++ ints (List.replicate ys.length 0) := by
    unfold splice
    simp [ints]
  rw [h1]
  unfold splice
  simp [ints]
set_option maxHeartbeats 8000000 in
set_option maxRecDepth 100000 in
theorem jJoined_any (A B : Option Addr) (c d : Nat) (xs ys : List Int) (w : World) (hr1 : Rd w 0 w.heap.size 1 A xs.length (ints xs)) (hr2 : Rd w 0 w.heap.size 1 B ys.length (ints ys)) (hl1 : xs.length ≤ 100000) (hl2 : ys.length ≤ 100000) :
    Calls Tryz.prog 29 #[.slice A xs.length c, .slice B ys.length d] w fun e w' => ∃ g, e = .returned (.slice (some ⟨g, 0, none⟩) (xs.length + ys.length) (xs.length + ys.length)) ∧ IBlk w' g (xs ++ ys) ∧ Below w.heap.size w w' := by
  obtain ⟨i0, hi0, hz0, hz1, hz2⟩ := info_parts Tryz.infoI4
  have HSZ := Lib.hid (show (Tryz.prog.info? 3).map (·.size) = some 1 by rw [hi0]; simp [hz1])
  have HUI := Lib.hid (Tryz.underlying22)
  have HR1 := Lib.hid hr1
  have HR2 := Lib.hid hr2
  have HSP := Lib.hid (splice_two xs ys)
  obtain ⟨n, hn⟩ : ∃ n, n = xs.length := ⟨_, rfl⟩
  obtain ⟨m, hm⟩ : ∃ m, m = ys.length := ⟨_, rfl⟩
  have HLX := Lib.hid (show (ints xs).length = n by simp [ints, hn])
  have HLY := Lib.hid (show (ints ys).length = m by simp [ints, hm])
  obtain ⟨cx, hcx⟩ : ∃ cx, cx = ints xs := ⟨_, rfl⟩
  obtain ⟨cy, hcy⟩ : ∃ cy, cy = ints ys := ⟨_, rfl⟩
  have HOX := Lib.hid (ints_one xs)
  have HOY := Lib.hid (ints_one ys)
  have HPX := Lib.hid (fun (W : World) (hW : Below w.heap.size w W) (h0 : 0 < (ints xs).length) => rd_src (hr1.old hW) h0)
  have HPY := Lib.hid (fun (W : World) (hW : Below w.heap.size w W) (h0 : 0 < (ints ys).length) => rd_src (hr2.old hW) h0)
  rw [← hcx] at HLX HOX HPX HSP
  rw [← hcy] at HLY HOY HPY HSP
  rw [← hn, ← hm] at HSP ⊢
  rw [← hn] at hl1
  rw [← hm] at hl2
  clear hr1 hr2 HR1 HR2 hcx hcy hn hm
  go_enter Tryz.func29, Tryz.ntmps29
  go_wp2_with (at_make; refine wpList_make_full _ rfl (.tmp 10) (.tmp 10) 22 rfl w.heap.size 3 i0 _ 1 Tryz.underlying22 hi0 hz0 hz1 .i64 .i64 _ _ (n + m) rfl rfl ?m1 ?m2 ?m3 ?m4 ?m5 ?_)
  case m1 => go_num
  case m2 => go_num
  case m3 => rw [hz2]; omega
  case m4 => unfold maxLen; omega
  case m5 => exact Nat.le_refl _
  intro w2 hown hgr
  rw [made_zerosI] at hown
  obtain ⟨hblk, -⟩ := IBlk.of_own hown
  have HB2 := Lib.hid (show Below w.heap.size w w2 from (Below.refl _ w).grown hgr (Nat.le_refl _) (fun k hk => by cases hk))
  have HBK := Lib.hid (show w2.heap[w.heap.size]? = some (.cells (ints (List.replicate (n + m) 0)).toArray 3 (0, 0)) from hblk)
  obtain ⟨c0, hc0⟩ : ∃ c0, c0 = ints (List.replicate (n + m) 0) := ⟨_, rfl⟩
  have HL0 := Lib.hid (show c0.length = n + m by rw [hc0]; simp [ints])
  rw [← hc0] at HBK HSP
  clear hown hgr hblk hc0
  go_wp2_with (with_reducible refine wpList_copy_splice rfl (.tmp 12) (.tmp 13) 22 22 rfl 3 HUI.out HSZ.out (some ⟨w.heap.size, 0, none⟩) A (n + m) (n + m) n c rfl rfl w.heap.size 0 c0 3 HBK.out cx (by rw [HLX.out, show Nat.min n (n + m) = min n (n + m) from rfl]; omega) (fun h0 => ⟨rfl, HPX.out _ HB2.out h0⟩) (by rw [HLX.out, HL0.out]; omega) HOX.out w.heap.size w HB2.out (Nat.le_refl _) ?_)
  intro w3 HG3 hb3
  have HB3 := Lib.hid hb3
  obtain ⟨c1, hc1⟩ : ∃ c1, c1 = splice c0 0 cx := ⟨_, rfl⟩
  have HL1 := Lib.hid (show c1.length = n + m by rw [hc1, length_splice _ _ _ (by rw [HLX.out, HL0.out]; omega), HL0.out])
  rw [← hc1] at HG3 HSP
  clear hc1 hb3
  have hnm : (n : Int) ≤ (n : Int) + (m : Int) := by omega
  have HFIN := Lib.hid (show ∀ w4 : World, Hid (w4.heap[w.heap.size]? = some (.cells (splice c1 n cy).toArray 3 (0, 0))) → IBlk w4 w.heap.size (xs ++ ys) from fun w4 h => by
    unfold IBlk
    rw [← HSP.out]; exact h.out)
  by_cases hm0 : m = 0
  · subst hm0
    go_wp2_with (with_reducible refine wpList_copy_splice rfl (.tmp 18) (.tmp 19) 22 22 rfl 3 HUI.out HSZ.out (some ⟨w.heap.size, 0, none⟩) B 0 0 0 d rfl rfl w.heap.size n c1 3 HG3.out cy (by have := HLY.out; show cy.length = min 0 0; omega) (fun h0 => by have := HLY.out; omega) (by have := HLY.out; have := HL1.out; omega) HOY.out w.heap.size w HB3.out (Nat.le_refl _) ?_)
    intro w4 HG4 hb4
    have HB4 := Lib.hid hb4
    have HI4 := Lib.hid (HFIN.out w4 HG4)
    clear hb4 HG4
    go_wp2
    go_ret
    exact ⟨w.heap.size, by rfl, HI4.out, HB4.out⟩
  · have hne1 : ¬ n + m = n := by omega
    have hne2 : ¬ (n : Int) + (m : Int) = (n : Int) := by omega
    have HM0 := Lib.hid (show 0 < m by omega)
    go_wp2_with (with_reducible refine wpList_copy_splice rfl (.tmp 18) (.tmp 19) 22 22 rfl 3 HUI.out HSZ.out (some ⟨w.heap.size, n, none⟩) B m m m d rfl rfl w.heap.size n c1 3 HG3.out cy (by rw [HLY.out]; show m = min m m; omega) (fun h0 => ⟨rfl, HPY.out _ HB3.out h0⟩) (by rw [HLY.out, HL1.out]; exact Nat.le_refl _) HOY.out w.heap.size w HB3.out (Nat.le_refl _) ?_)
    intro w4 HG4 hb4
    have HB4 := Lib.hid hb4
    have HI4 := Lib.hid (HFIN.out w4 HG4)
    clear hb4 HG4
    go_wp2
    go_ret
    exact ⟨w.heap.size, by rfl, HI4.out, HB4.out⟩
set_option maxHeartbeats 8000000 in
set_option maxRecDepth 100000 in
theorem jChkNum_any (A : Option Addr) (c : Nat) (xs : List Int) (w : World) (hr : Rd w 0 w.heap.size 1 A xs.length (ints xs)) (hl : xs.length ≤ 100000) :
    Calls Tryz.prog 36 #[.slice A xs.length c] w fun e w' => e = .returned (.int .i64 (if okZ xs = true then 0 else 9)) ∧ Below w.heap.size w w' := by
  have HR := Lib.hid hr
  have HIN := Lib.hid (fun x W => jInside_any x (-1000000) 1000000 W)
  have hall : (∀ j x, xs[j]? = some x → (decide (-1000000 ≤ x) && decide (x ≤ 1000000)) = true) → okZ xs = true := fun h => by
    unfold okZ
    rw [List.all_eq_true]
    intro x hx
    obtain ⟨j, hj⟩ := List.getElem?_of_mem hx
    exact h j x hj
  have hbad : ∀ j x, xs[j]? = some x → (decide (-1000000 ≤ x) && decide (x ≤ 1000000)) = false → ¬ okZ xs = true := fun j x hj h hk => by
    have := List.all_eq_true.1 hk x (List.mem_of_getElem? hj)
    rw [h] at this; cases this
  obtain ⟨V, hV⟩ : ∃ V : Int, V = if okZ xs = true then 0 else 9 := ⟨_, rfl⟩
  have HALL := Lib.hid (fun h => show V = 0 by rw [hV, if_pos (hall h)])
  have HBAD := Lib.hid (fun j x hj h => show V = 9 by rw [hV, if_neg (hbad j x hj h)])
  rw [← hV]
  clear hr hV hall hbad
  go_enter Tryz.func36, Tryz.ntmps36
  go_wp2
  go_loopw [4, 7] (fun _ kv wr => ∃ k : Nat, kv = .int .i64 (k : Nat) ∧ k ≤ xs.length ∧ (∀ j x, j < k → xs[j]? = some x → (decide (-1000000 ≤ x) && decide (x ≤ 1000000)) = true) ∧ Below w.heap.size w wr) (fun _ kv _ => xs.length - (intOf kv).toNat)
  case atStart => exact ⟨0, rfl, Nat.zero_le _, fun j x h => by omega, Below.refl _ _⟩
  case round =>
    obtain ⟨k, rfl, hk, hok, hbw⟩ := hrel
    have HBW := Lib.hid hbw
    have HOK := Lib.hid hok
    by_cases hlt : k < xs.length
    · obtain ⟨b, o, u, rfl, hb, hu, qk⟩ := (HR.out.old hbw).at1 hlt
      obtain ⟨x, ht, rfl⟩ := ints_get hu
      have HT := Lib.hid ht
      obtain ⟨zb, hzb⟩ : ∃ zb, zb = (decide (-1000000 ≤ x) && decide (x ≤ 1000000)) := ⟨_, rfl⟩
      have HI := Lib.hid (HIN.out x wr)
      rw [← hzb] at HI
      have HZB := Lib.hid hzb
      clear hok hbw hu ht hzb
      go_wp2_with fail
      (with_reducible refine (HI.out).mono ?_)
      rintro e w1 ⟨rfl, hw1⟩
      have hw1' := hw1.symm
      subst hw1'
      cases zb with
      | true =>
        go_wp2
        go_roundw
        case rel => exact ⟨k + 1, by go_num, by omega, fun j z hj hz => by
          rcases Nat.lt_or_ge j k with g | g
          · exact HOK.out j z g hz
          · obtain rfl : j = k := by omega
            rw [HT.out] at hz
            obtain rfl := Option.some.inj hz
            exact HZB.out.symm, HBW.out⟩
        case measure => simp [intOf]; omega
      | false =>
        have HV := Lib.hid (HBAD.out k x HT.out HZB.out.symm)
        go_wp2
        go_ret
        exact ⟨by rw [HV.out]; rfl, HBW.out⟩
    · have HV := Lib.hid (HALL.out (fun j x hj => HOK.out j x (by have := (List.getElem?_eq_some_iff.1 hj).1; omega) hj))
      clear hok hbw
      go_wp2
      go_ret
      exact ⟨by rw [HV.out]; rfl, HBW.out⟩
end Go.Proofs.YtnapdhfkgfjjfaaGreatDoor
