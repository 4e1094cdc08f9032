import Derived.Test.YtepfmoaihhonlaaGreatDoorFirst
/- Package load: arrival. -/
namespace Go.Proofs.YtepfmoaihhonlaaGreatDoor
open Go Go.RowKit Go.Proofs

/-- the arrival k -/
def arr (l : List (Int × Int × Int)) (k : Nat) : Option Nat := fst (2 * k + 1) 2 0 0 (stgs l)
set_option maxHeartbeats 2000000 in
set_option maxRecDepth 100000 in
theorem arrival_any (P : Nat) (A : Option Addr) (c : Nat) (l : List (Int × Int × Int)) (k : Nat) (w : World) (hL : LineR w P A c l) (hok : OkL l) (hk : k ≤ 9223372036854775807) :
    Calls Tryz.prog 141 #[.pointer (some ⟨P, 0, none⟩), .int .i64 k] w fun e w' => e = .returned (firstV (arr l k)) ∧ Below w.heap.size w w' := by
  have HPR := Lib.hid (fun (W : World) B (hW : W.heap[B]? = some (.cells #[.int .i64 2, .int .i64 k] 3 (0, 0))) => prod_block (zs := [2, (k : Int)]) (W := W) (B := B) hW (by simp) (by intro q hq; simp at hq; omega))
  have HO1 := Lib.hid (fun W => natOf_any 1 W (by omega))
  have HO2 := Lib.hid (fun W => natOf_any 2 W (by omega))
  have hpk : prodN [2, (k : Int)] = 2 * k := by simp only [prodN, Nat.mul_one]; show 2 * k = _; rfl
  have hW3 : W64 ^ 3 = 6277101735386680763835789423207666416102355444464034512896 := by unfold W64; rfl
  have HAD := Lib.hid (fun (W : World) A5 c5 l5 A6 c6 l6 (h5 : NatR W A5 c5 l5 (prodN [2, (k : Int)])) (h6 : NatR W A6 c6 l6 (1 : Int).toNat) => natAdd_any A5 A6 c5 c6 l5 l6 _ _ W h5 h6 (by have := small_len h5 (by have := W9c; omega); omega) (by have := small_len h6 (by have := W9c; show 1 < _; omega); omega))
  have HFI := Lib.hid (fun (W : World) A5 c5 l5 A6 c6 l6 (hb : Below w.heap.size w W) (h5 : NatR W A5 c5 l5 (2 * k + 1)) (h6 : NatR W A6 c6 l6 2) => first_any P A c l A5 A6 c5 c6 l5 l6 (2 * k + 1) 2 W (hL.on hb) hok h5 h6 (by rw [hW3]; omega) (by rw [hW3]; omega))
  have HPK := Lib.hid hpk
  obtain ⟨r, hr⟩ : ∃ r, r = arr l k := ⟨_, rfl⟩
  have hr' : fst (2 * k + 1) 2 0 0 (stgs l) = r := hr.symm
  rw [← hr]
  simp only [hr'] at HFI
  clear hpk hW3 hL hok hr hr'
  cases r with
  | none =>
    simp only [firstV] at HFI ⊢
    go_enter Tryz.func141, Tryz.ntmps141
    go_wp2_with fail
    refine (HPR.out _ _ (alloc_at w _ _ rfl)).mono ?_
    rintro e w1 ⟨A1, c1, l1, rfl, hn1, hb1⟩
    have hb1' : Below w.heap.size w w1 := below_next ((Below.refl _ w).alloc (Nat.le_refl _) _) hb1
    have HN1 := Lib.hid hn1
    have HB1 := Lib.hid hb1'
    clear hn1 hb1 hb1'
    go_wp2_with fail
    refine (HO1.out _).mono ?_
    rintro e w2 ⟨A2, c2, l2, rfl, hn2, hb2⟩
    have HA := Lib.hid (HAD.out w2 A1 c1 l1 A2 c2 l2 (HN1.out.on hb2) hn2)
    have HB2 := Lib.hid (below_next HB1.out hb2)
    clear hn2 hb2
    go_wp2_with fail
    refine HA.out.mono ?_
    rintro e w3 ⟨A3, c3, l3, rfl, hn3, hb3⟩
    have HN3 := Lib.hid hn3
    have HB3 := Lib.hid (below_next HB2.out hb3)
    clear hn3 hb3
    go_wp2_with fail
    refine (HO2.out _).mono ?_
    rintro e w4 ⟨A4, c4, l4, rfl, hn4, hb4⟩
    have HF := Lib.hid (HFI.out w4 A3 c3 l3 A4 c4 l4 (below_next HB3.out hb4) (by have := HN3.out.on hb4; rw [HPK.out] at this; exact this) hn4)
    have HB4 := Lib.hid (below_next HB3.out hb4)
    clear hn4 hb4
    go_wp2_with fail
    refine HF.out.mono ?_
    rintro e w5 ⟨rfl, hb5⟩
    go_wp2
    go_ret2
    exact ⟨rfl, below_next HB4.out hb5⟩
  | some T =>
    simp only [firstV] at HFI ⊢
    go_enter Tryz.func141, Tryz.ntmps141
    go_wp2_with fail
    refine (HPR.out _ _ (alloc_at w _ _ rfl)).mono ?_
    rintro e w1 ⟨A1, c1, l1, rfl, hn1, hb1⟩
    have hb1' : Below w.heap.size w w1 := below_next ((Below.refl _ w).alloc (Nat.le_refl _) _) hb1
    have HN1 := Lib.hid hn1
    have HB1 := Lib.hid hb1'
    clear hn1 hb1 hb1'
    go_wp2_with fail
    refine (HO1.out _).mono ?_
    rintro e w2 ⟨A2, c2, l2, rfl, hn2, hb2⟩
    have HA := Lib.hid (HAD.out w2 A1 c1 l1 A2 c2 l2 (HN1.out.on hb2) hn2)
    have HB2 := Lib.hid (below_next HB1.out hb2)
    clear hn2 hb2
    go_wp2_with fail
    refine HA.out.mono ?_
    rintro e w3 ⟨A3, c3, l3, rfl, hn3, hb3⟩
    have HN3 := Lib.hid hn3
    have HB3 := Lib.hid (below_next HB2.out hb3)
    clear hn3 hb3
    go_wp2_with fail
    refine (HO2.out _).mono ?_
    rintro e w4 ⟨A4, c4, l4, rfl, hn4, hb4⟩
    have HF := Lib.hid (HFI.out w4 A3 c3 l3 A4 c4 l4 (below_next HB3.out hb4) (by have := HN3.out.on hb4; rw [HPK.out] at this; exact this) hn4)
    have HB4 := Lib.hid (below_next HB3.out hb4)
    clear hn4 hb4
    go_wp2_with fail
    refine HF.out.mono ?_
    rintro e w5 ⟨rfl, hb5⟩
    go_wp2
    go_ret2
    exact ⟨rfl, below_next HB4.out hb5⟩

/-- how many arrivals are before a time -/
def befN (l : List (Int × Int × Int)) (t : Nat) : Nat := if t = 0 then 0 else upto (place l (t - 1))
/-- what Count returns: the number and the error -/
def countV (l : List (Int × Int × Int)) (a b : Int) : Int × Int := if codeS l ≠ 0 then (0, codeS l) else if a < 0 ∨ b < a ∨ 1000000000001 < b then (0, 9) else ((befN l b.toNat : Int) - befN l a.toNat, 0)
theorem befN_small {l : List (Int × Int × Int)} (hok : OkL l) (t : Nat) : befN l t ≤ 100000000000000 := by
  unfold befN
  split
  · omega
  · exact (upto_small hok _).1
end Go.Proofs.YtepfmoaihhonlaaGreatDoor

/- Package load: Even; the law's even. -/
namespace Go.Proofs.YtepfmoaihhonlaaGreatDoor
open Go Go.RowKit Go.Proofs

theorem firstV_eq (r : Option Nat) : firstV r = .tuple #[.int .i64 ((r.getD 0 : Nat) : Int), .bool r.isSome] := by cases r <;> rfl
def evs (l : List (Int × Int × Int)) (k : Nat) : List Int := (List.range k).map fun j => (((arr l j).getD 0 : Nat) : Int)
theorem evs_snoc (l : List (Int × Int × Int)) (k : Nat) : evs l (k + 1) = evs l k ++ [(((arr l k).getD 0 : Nat) : Int)] := by simp [evs, List.range_succ]
theorem evs_length (l : List (Int × Int × Int)) (k : Nat) : (evs l k).length = k := by simp [evs]
/-- what Even returns -/
def evenC (l : List (Int × Int × Int)) : Int := if codeS l ≠ 0 then codeS l else if 20000 < befN l 1000000000001 then 3 else 0
def evenL (l : List (Int × Int × Int)) : List Int := if evenC l = 0 then evs l (befN l 1000000000001) else []

set_option maxHeartbeats 2000000 in
set_option maxRecDepth 100000 in
theorem even_any (A : Option Addr) (c : Nat) (l : List (Int × Int × Int)) (w : World) (hr : Rd w 0 w.heap.size 3 A l.length (cells3 l)) (hl : l.length ≤ 9223372036854775807) :
    Calls Tryz.prog 70 #[.slice A l.length c] w fun e w' => ∃ A' c', e = .returned (.tuple #[.slice A' (evenL l).length c', .int .i64 (evenC l)]) ∧ Rd w' 0 w'.heap.size 1 A' (evenL l).length (ints (evenL l)) ∧ Below w.heap.size w w' := by
  obtain ⟨ii, hii, hiz0, hiz1, hiz2⟩ := info_parts infoI3
  have HCK := Lib.hid (loadCheck_any A c l w hr hl)
  have HR := Lib.hid hr
  clear hr
  by_cases hc : codeS l = 0
  · have hok := codeS_ok hc
    rw [hc] at HCK
    have s2 := befN_small hok 1000000000001
    have HNW := Lib.hid (fun (W : World) (hb : Below w.heap.size w W) => newLine_any A c l W (HR.out.old hb) hok)
    have HBF := Lib.hid (fun (W : World) P (hL : LineR W P A c l) => before_any P A c l 1000000000001 W hL hok (by omega))
    have HAR := Lib.hid (fun (W : World) P k (hL : LineR W P A c l) (hk : k ≤ 20000) => arrival_any P A c l k W hL hok (by omega))
    have hEC : evenC l = if 20000 < befN l 1000000000001 then 3 else 0 := by unfold evenC; rw [if_neg (by omega)]
    obtain ⟨n, hn⟩ : ∃ n, n = befN l 1000000000001 := ⟨_, rfl⟩
    rw [← hn] at s2 hEC
    have HN := Lib.hid hn
    have HEC := Lib.hid hEC
    have H1 := Lib.hid (fun (W : World) P (hL : LineR W P A c l) => show Calls Tryz.prog 140 #[.pointer (some ⟨P, 0, none⟩), .int .i64 1000000000001] W fun e w' => e = .returned (.int .i64 (n : Int)) ∧ Below W.heap.size W w' from by rw [hn]; exact HBF.out W P hL)
    clear hok hc hn hEC HBF
    go_enter Tryz.func70, Tryz.ntmps70
    go_wp2_with fail
    refine HCK.out.mono ?_
    rintro e w1 ⟨rfl, hb1⟩
    have HB1 := Lib.hid hb1
    clear hb1
    go_wp2_with fail
    refine (HNW.out _ HB1.out).mono ?_
    rintro e w2 ⟨P, rfl, hP, hL, hb2⟩
    have HB2 := Lib.hid (below_next HB1.out hb2)
    have HL := Lib.hid hL
    clear hL hb2 hP
    go_wp2_with fail
    refine (H1.out w2 P HL.out).mono ?_
    rintro e w3 ⟨rfl, hb3⟩
    have HB3 := Lib.hid (below_next HB2.out hb3)
    have HL3 := Lib.hid (HL.out.on hb3)
    clear hb3
    by_cases hbig : 20000 < n
    · have t1 : decide (20000 < (n : Int)) = true := by simp; omega
      have HE3 := Lib.hid (show evenC l = 3 by rw [HEC.out, if_pos hbig])
      have HEL := Lib.hid (show evenL l = [] by unfold evenL; rw [HE3.out, if_neg (by omega)])
      go_wp2
      go_ret2
      exact ⟨none, 0, by rw [HE3.out, HEL.out]; rfl, by rw [HEL.out]; exact Rd.nil, HB3.out⟩
    · have t1 : decide (20000 < (n : Int)) = false := by simp; omega
      have HE0 := Lib.hid (show evenC l = 0 by rw [HEC.out, if_neg hbig])
      have HEL := Lib.hid (show evenL l = evs l n by unfold evenL; rw [if_pos HE0.out, HN.out])
      go_wp2_with (at_make; refine wpList_make_own _ rfl (.const (.int .i64 0)) (.tmp 22) 36 rfl w3.heap.size 3 ii _ 1 Tryz.underlying36 hii hiz0 hiz1 .i64 .i64 _ n rfl rfl ?m1 ?m2 ?m3 ?m4 ?_)
      case m1 => rfl
      case m2 => rw [hiz2]; omega
      case m3 => unfold maxLen; omega
      case m4 => exact Nat.le_refl _
      intro w4 hown hgr
      have hb4 : Below w3.heap.size w3 w4 := (Below.refl _ w3).grown hgr (Nat.le_refl _) (fun k hk => by cases hk)
      have HO4 := Lib.hid hown
      have HB4 := Lib.hid hb4
      clear hown hgr hb4
      go_wp2_with fail
      go_loopw [7, 8, 9, 10, 25] (fun ov _ _ _ iv wr => ∃ k : Nat, iv = .int .i64 k ∧ k ≤ n ∧ wr.ownsRow w3.heap.size 3 1 ov k (ints (evs l k)) ∧ Below w3.heap.size w3 wr) (fun _ _ _ _ iv _ => n - (intOf iv).toNat)
      case atStart => exact ⟨0, rfl, Nat.zero_le _, HO4.out, HB4.out⟩
      case round =>
        obtain ⟨k, rfl, hk, hown, hbw⟩ := hrel
        have HOW := Lib.hid hown
        have HBW := Lib.hid hbw
        by_cases hlt : k < n
        · have HA := Lib.hid (HAR.out wr P k (HL3.out.on hbw) (by omega))
          rw [firstV_eq] at HA
          obtain ⟨T, hT⟩ : ∃ T, T = (arr l k).getD 0 := ⟨_, rfl⟩
          rw [← hT] at HA
          have HES := Lib.hid (show ints (evs l (k + 1)) = ints (evs l k) ++ [.int .i64 (T : Int)] by rw [evs_snoc, hT]; simp [ints])
          clear hown hbw hT
          go_wp2_with fail
          refine HA.out.mono ?_
          rintro e w5 ⟨rfl, hb5⟩
          have HO5 := Lib.hid (ownsRow_fr HOW.out (Fr.of_below hb5) (fun i hi hm => by have := (ownsRow_block HOW.out hi).2; omega))
          have HB5 := Lib.hid (HBW.out.trans (hb5.mono HBW.out.size))
          have hs5 := HB5.out.size
          clear hb5
          go_wp2_with (at_builtin; refine wpList_append_own _ rfl (.tmp 34) (.tmp 36) 36 rfl w3.heap.size 3 ii _ 1 8 Tryz.underlying36 hii hiz0 hiz1 hiz2 rfl (by decide) _ k (ints (evs l k)) rfl (HO5.out.alloc _) ⟨w5.heap.size, 0, none⟩ 1 1 [.int .i64 (T : Int)] rfl rfl ?c0 (by simp [Value.oneCell']) ?c3 ?c4 ?c5 ?_)
          case c0 => exact cell_one_new w5 (.int .i64 (T : Int)) 3
          case c3 => unfold maxLen; omega
          case c4 => omega
          case c5 => simp; omega
          intro v' w6 hown6 hgr6 _
          have HB6 := Lib.hid (show Below w3.heap.size w3 w6 from (HB5.out.alloc hs5 _).trans ((Fr.of_grown hgr6).below (B := w3.heap.size) (by simp; omega) (fun i hi hm => by have := (ownsRow_block HO5.out hm).1; omega)))
          have HO6 := Lib.hid (show w6.ownsRow w3.heap.size 3 1 v' (k + 1) (ints (evs l (k + 1))) by rw [HES.out]; exact hown6)
          clear hown6 hgr6
          go_wp2
          go_roundw
          case rel => exact ⟨k + 1, by go_num, by omega, HO6.out, HB6.out⟩
          case measure => simp [intOf]; omega
        · obtain rfl : k = n := by omega
          obtain ⟨A', c', rfl, _, _, _⟩ := ownsRow_shape hown
          have HRD := Lib.hid ((Rd.of_own hown).more (Nat.zero_le _) (Nat.le_refl _))
          have HBE := Lib.hid (HB3.out.trans (hbw.mono HB3.out.size))
          clear hown hbw
          go_wp2
          go_ret2
          refine ⟨A', c', ?_, ?_, HBE.out⟩
          · rw [HE0.out, HEL.out, evs_length]; rfl
          · rw [HEL.out, evs_length]; exact HRD.out
  · obtain ⟨cc, hcc⟩ : ∃ cc, cc = codeS l := ⟨_, rfl⟩
    have HE := Lib.hid (show evenC l = cc by unfold evenC; rw [if_pos hc, hcc])
    rw [← hcc] at HCK hc
    have t1 : (cc != 0) = true := by simpa using hc
    have HEL := Lib.hid (show evenL l = [] by unfold evenL; rw [HE.out, if_neg hc])
    clear hcc
    go_enter Tryz.func70, Tryz.ntmps70
    go_wp2_with fail
    refine HCK.out.mono ?_
    rintro e w1 ⟨rfl, hb1⟩
    go_wp2
    go_ret2
    exact ⟨none, 0, by rw [HE.out, HEL.out]; rfl, by rw [HEL.out]; exact Rd.nil, hb1⟩

theorem even_const : evenC [(2000000, 2000, 2000)] = 0 ∧ evenL [(2000000, 2000, 2000)] = [250000, 750000, 1250000, 1750000] := by decide +kernel

set_option maxHeartbeats 1000000 in
set_option maxRecDepth 100000 in
theorem lawEven_any (w : World) : Calls Tryz.prog 19 #[] w fun e w' => e = .returned (.bool true) ∧ Below w.heap.size w w' := by
  obtain ⟨W0, hW0⟩ : ∃ W0, W0 = w.alloc (.cells #[.int .i64 2000000, .int .i64 2000, .int .i64 2000] 86) := ⟨_, rfl⟩
  have hblk : W0.heap[w.heap.size]? = some (.cells #[.int .i64 2000000, .int .i64 2000, .int .i64 2000] 86 (0, 0)) := by rw [hW0]; exact alloc_at _ _ _ rfl
  have hb0 : Below w.heap.size w W0 := by rw [hW0]; exact (Below.refl _ w).alloc (Nat.le_refl _) _
  have hE := even_any (some ⟨w.heap.size, 0, none⟩) 1 [(2000000, 2000, 2000)] W0 ⟨by simp [cells3], fun _ => ⟨w.heap.size, 0, rfl, Nat.zero_le _, heap_lt hblk, fun j u hj => by rw [cellsAt hblk, Nat.zero_add]; simpa [cells3] using hj⟩⟩ (by simp)
  rw [even_const.1, even_const.2] at hE
  have HE := Lib.hid hE
  have HB0 := Lib.hid hb0
  clear hE hb0 hblk
  go_enter Tryz.func19, Tryz.ntmps19
  go_wp2_with fail
  rw [← hW0]
  clear hW0
  refine HE.out.mono ?_
  rintro e w1 ⟨A', c', rfl, hrd, hb1⟩
  obtain ⟨b, o, rfl, _, _, hcl⟩ := hrd.2 (by simp)
  have q0 : w1.cell? ⟨b, o, none⟩ = some (.int .i64 250000) := by have := hcl 0 (.int .i64 250000) (by simp [ints]); simpa using this
  have q3 : w1.cell? ⟨b, o + 3, none⟩ = some (.int .i64 1750000) := hcl 3 (.int .i64 1750000) (by simp [ints])
  have HB1 := Lib.hid (below_next HB0.out hb1)
  clear hrd hcl hb1
  go_wp2
  go_ret
  exact ⟨rfl, HB1.out⟩
end Go.Proofs.YtepfmoaihhonlaaGreatDoor
