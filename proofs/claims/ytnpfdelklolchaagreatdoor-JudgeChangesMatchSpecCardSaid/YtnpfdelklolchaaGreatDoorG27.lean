import Derived.Test.YtnpfdelklolchaaGreatDoorG17
import Derived.Test.YtnpfdelklolchaaGreatDoorG23
import Derived.Test.YtnpfdelklolchaaGreatDoorG6
import Derived.Test.YtnpfdelklolchaaGreatDoorG19
import Derived.Lib.IndexBytes
import Derived.Test.YtnpfdelklolchaaGreatDoorG11
import Derived.Test.YtnpfdelklolchaaGreatDoorG14
import Derived.Maps.AppendAt
import Derived.Test.YtnpfdelklolchaaGreatDoorG12
import Derived.IntWalk
/- Package judge: row, the weights of all numbers of successes. -/
namespace Go.Proofs.YtnpfdelklolchaaGreatDoor
open Go Go.RowKit Go.Proofs

theorem infoNN : (Tryz.prog.info? 61).map (fun i => (i.zero, i.size, i.bytes)) = some (some (.slice none 0 0), 1, 24) := by kernel_rfl
theorem made_s (n : Nat) : (madeCells #[Value.slice none 0 0] n).toList = List.replicate n (Value.slice none 0 0) := by
  apply List.ext_getElem
  · simp [madeCells]
  · intro i h1 h2
    simp [madeCells, Nat.mod_one]
theorem VBlk.of_own {w : World} {base g n : Nat} {e : TypeId} {vs : List Value} (h : w.ownsRow base e 1 (.slice (some ⟨g, 0, none⟩) n n) n vs) : VBlk w g e vs ∧ vs.length = n := by
  have hl : vs.length = n := by have := h.1; simpa using this
  rcases h.2 with ⟨hv, _⟩ | ⟨g', cap, cur, hv, hb, hh, h1, h2, h3, h4⟩
  · cases hv
  · simp only [Value.slice.injEq, Option.some.injEq, Addr.mk.injEq] at hv
    obtain ⟨⟨rfl, _⟩, _, rfl⟩ := hv
    refine ⟨?_, hl⟩
    unfold VBlk
    rw [hh]
    have e : cur = vs.toArray := by
      apply Array.toList_inj.1
      rw [← h4, List.take_of_length_le (by simp; omega)]
    rw [e]
/-- the row so far -/
def RowIn (x q n : Nat) (w wr : World) (g : Nat) (k : Nat) : Prop :=
  ∃ ns, ns.length = n + 1 ∧ NRow wr g 61 ns ∧ (nmVals ns).take k = (bwL x q n).take k ∧ Below w.heap.size w wr
theorem RowIn.next {x q n : Nat} {w wr w4 : World} {g k : Nat} {ns : List Nm} {z : Nm} (hnl : ns.length = n + 1) (hrow : NRow wr g 61 ns) (hv : (nmVals ns).take k = (bwL x q n).take k) (hb : Below w.heap.size w wr) (h4 : Below wr.heap.size wr w4) (hk : k < n + 1) (hg : w.heap.size ≤ g) (hz : NatR w4 z.A z.c z.l z.x) (hx : z.x = bw x q n k) :
    RowIn x q n w (w4.setCell ⟨g, k, none⟩ z.v) g (k + 1) := by
  refine ⟨ns.set k z, by simpa using hnl, (hrow.on h4).set k z hz, ?_, (below_next hb h4).setCell hg _⟩
  have e : nmVals (ns.set k z) = (nmVals ns).set k z.x := by unfold nmVals; rw [List.map_set]
  rw [e, take_set_succ (by rw [nmVals_length]; omega), hv, hx, take_snoc' (bwL_get x q n k (by omega))]
set_option maxHeartbeats 8000000 in
set_option maxRecDepth 100000 in
theorem jRow_any (n : Nat) (u : Value) (x y : Nat) (w : World) (hu : JF w u false x y) (hn : n ≤ 200) (hxy : x ≤ y) (hy : y ≤ W64 ^ 2) :
    Calls Tryz.prog 84 #[.int .i64 n, u] w fun e w' => ∃ g ns, e = .returned (.slice (some ⟨g, 0, none⟩) (n + 1) (n + 1)) ∧ NRow w' g 61 ns ∧ nmVals ns = bwL x (y - x) n ∧ w.heap.size ≤ g ∧ Below w.heap.size w w' := by
  obtain ⟨i0, hi0, hz0, hz1, hz2⟩ := info_parts infoNN
  obtain ⟨A1, c1, l1, A2, c2, l2, rfl, h1, h2⟩ := hu
  obtain ⟨q, hq⟩ : ∃ q, q = y - x := ⟨_, rfl⟩
  rw [← hq]
  have hW : (1 : Nat) < W64 := by unfold W64; omega
  have hy3 : y < W64 ^ 3 := Nat.lt_of_le_of_lt hy (Nat.pow_lt_pow_right hW (by omega))
  have hl1 : l1.length ≤ 3 := h1.len (by omega)
  have hl2 : l2.length ≤ 3 := h2.len hy3
  obtain ⟨K, hK0, hK⟩ : ∃ K, 401 ≤ K ∧ K ≤ 401 := ⟨401, Nat.le_refl _, Nat.le_refl _⟩
  have hps : ∀ z j, z ≤ y → j ≤ 200 → z ^ j < W64 ^ K := fun z j hz hj => Nat.lt_of_lt_of_le (pow_small (K := 2) (n := j) (Nat.le_trans hz hy) hW) (Nat.pow_le_pow_right (by omega) (by omega))
  have HPX := Lib.hid (show ∀ j, j ≤ 200 → x ^ j < W64 ^ K from fun j hj => hps x j hxy hj)
  have HPQ := Lib.hid (show ∀ j, j ≤ 200 → q ^ j < W64 ^ K from fun j hj => hps q j (by omega) hj)
  have HCH := Lib.hid (show ∀ j, ch n j < W64 ^ K from fun j => by
    rcases Nat.lt_or_ge n j with h | h
    · rw [ch_over n j h]; exact Nat.pow_pos (by omega)
    · refine Nat.lt_of_le_of_lt (ch_le n j h) (Nat.lt_of_le_of_lt (Nat.pow_le_pow_left (show 2 ≤ W64 by unfold W64; omega) n) (Nat.pow_lt_pow_right hW (by omega))))
  have hmul : ∀ {a b s t : Nat}, a < W64 ^ s → b < W64 ^ t → a * b < W64 ^ (s + t) := fun h1 h2 => by rw [Nat.pow_add]; exact Nat.mul_lt_mul'' h1 h2
  obtain ⟨W0, hW0⟩ : ∃ W0, W0 = w.alloc (.cells #[.bool false, .slice A1 l1.length c1, .slice A2 l2.length c2] 73) := ⟨_, rfl⟩
  have HST0 := Lib.hid (show St w W0 [(w.heap.size, .cells #[.bool false, .slice A1 l1.length c1, .slice A2 l2.length c2] 73 (0, 0))] by rw [hW0]; exact (St.start w).alloc _ _ rfl)
  have HN1 := Lib.hid (h1.on HST0.out.below)
  have HSB := Lib.hid (natSub_any A2 A1 c2 c1 l2 l1 y x W0 (h2.on HST0.out.below) (h1.on HST0.out.below) (by omega) hxy)
  rw [← hq] at HSB
  have HO := Lib.hid (fun W (j : Nat) (hj : j ≤ 1000) => natOf_any (j : Int) W (by omega))
  have HOZ := Lib.hid (fun (j : Nat) => Int.toNat_natCast j)
  have hq3 : q < W64 ^ 3 := by omega
  have HQ3 := Lib.hid hq3
  have HX3 := Lib.hid (show x < W64 ^ 3 by omega)
  have HCS := Lib.hid (show ∀ X, Below W0.heap.size W0 X → X.cell? ⟨w.heap.size, 1, none⟩ = some (.slice A1 l1.length c1) from fun X hX => (HST0.out.call hX).cell 0 1 rfl rfl)
  have g1 := HST0.out.cell 0 1 rfl rfl
  have g2 := HST0.out.cell 0 2 rfl rfl
  clear h1 h2 hxy hy hy3 hq hps hq3
  go_enter Tryz.func84, Tryz.ntmps84
  go_wp2_with fail
  rw [← hW0]
  clear hW0
  go_wp2_with fail
  (with_reducible refine (HSB.out).mono ?_)
  rintro e w1 ⟨A5, c5, l5, rfl, hn5, hb1⟩
  have hl5 : l5.length ≤ 3 := hn5.len HQ3.out
  have HB1 := Lib.hid hb1
  have HN5 := Lib.hid hn5
  have HX1 := Lib.hid (HN1.out.on hb1)
  clear hb1 hn5 g1 g2
  go_wp2_with (at_make; refine wpList_make_full _ rfl (.tmp 15) (.tmp 15) 63 rfl w1.heap.size 61 i0 _ 1 Tryz.underlying63 hi0 hz0 hz1 .i64 .i64 _ _ (n + 1) rfl rfl ?m1 ?m2 ?m3 ?m4 ?m5 ?_)
  case m1 => omega
  case m2 => omega
  case m3 => rw [hz2]; omega
  case m4 => unfold maxLen; omega
  case m5 => exact Nat.le_refl _
  intro w2 hown hgr
  rw [made_s] at hown
  obtain ⟨hblk, _⟩ := VBlk.of_own hown
  have hb2 : Below w1.heap.size w1 w2 := (Below.refl _ w1).grown hgr (Nat.le_refl _) (fun k hk => by cases hk)
  have HRZ := Lib.hid (NRow.zero w2 w1.heap.size (n + 1) _ hblk (natr_nil _))
  have HB2 := Lib.hid hb2
  clear hown hgr hblk hb2
  go_wp2_with fail
  have HO1 := Lib.hid (natOf_any 1 w2 (by omega))
  rw [show (1 : Int).toNat = 1 from rfl] at HO1
  (with_reducible refine (HO1.out).mono ?_)
  rintro e w3 ⟨A6, c6, l6, rfl, hn6, hb3⟩
  have HN6 := Lib.hid hn6
  have HROW := Lib.hid (show RowIn x q n w1 w3 w1.heap.size 0 from ⟨_, by simp, HRZ.out.on hb3, by rw [List.take_zero, List.take_zero], below_next HB2.out hb3⟩)
  have hlen : (((n + 1 : Nat)) : Int) = (n : Int) + 1 := by omega
  clear hn6 hb3 HO1
  go_wp2
  go_loopw [7, 8, 20] (fun wv _ iv wr => ∃ k : Nat, iv = .int .i64 k ∧ k ≤ n + 1 ∧ ∃ Aw cw lw, wv = .slice Aw (lw : List Nat).length cw ∧ NatR wr Aw cw lw (ch n k) ∧ RowIn x q n w1 wr w1.heap.size k) (fun _ _ iv _ => n + 1 - (intOf iv).toNat)
  case atStart => exact ⟨0, rfl, Nat.zero_le _, A6, c6, l6, rfl, by rw [ch_zero]; exact HN6.out, HROW.out⟩
  case round =>
    obtain ⟨k, rfl, hk, Aw, cw, lw, rfl, hnw, ns, hnl, hrow, hvl, hbw⟩ := hrel
    have HNW := Lib.hid hnw
    have HR := Lib.hid hrow
    have HVL := Lib.hid hvl
    have HBW := Lib.hid hbw
    have hgl := hrow.lt
    have hlw : lw.length ≤ K := hnw.len (HCH.out k)
    by_cases hlt : k < n + 1
    · obtain ⟨r, hr⟩ : ∃ r : Nat, (n : Int) - (k : Int) = (r : Int) := ⟨n - k, by omega⟩
      have HRR := Lib.hid (show r = n - k by omega)
      have hr2 : r ≤ 200 := by omega
      obtain ⟨z0, hz⟩ : ∃ z, ns[k]? = some z := ⟨ns[k]'(by omega), List.getElem?_eq_getElem (by omega)⟩
      have HZC := Lib.hid (nmCells_get hz)
      have g1 := HCS.out wr (below_next HB1.out hbw)
      have HP1 := Lib.hid (natPow_any A1 c1 l1 x k 3 wr (HX1.out.on hbw) HX3.out (by omega) (by omega))
      clear hnw hrow hvl hbw hz
      go_wp2_with fail
      (with_reducible refine (HP1.out).mono ?_)
      rintro e w4 ⟨A7, c7, l7, rfl, hn7, hb4⟩
      have HN7 := Lib.hid hn7
      have HB4 := Lib.hid hb4
      have HP2 := Lib.hid (natPow_any A5 c5 l5 q r 3 w4 (HN5.out.on (below_next HBW.out hb4)) HQ3.out (by omega) (by omega))
      clear HP1 hn7 hb4 g1
      go_wp2_with fail
      (with_reducible refine (HP2.out).mono ?_)
      rintro e w5 ⟨A8, c8, l8, rfl, hn8, hb5⟩
      have hl7 : l7.length ≤ K := HN7.out.len (HPX.out k (by omega))
      have hl8 : l8.length ≤ K := hn8.len (HPQ.out r hr2)
      have HM1 := Lib.hid (natMul_any A7 A8 c7 c8 l7 l8 _ _ w5 (HN7.out.on hb5) hn8 (by omega) (by omega))
      have HB5 := Lib.hid (below_next HB4.out hb5)
      clear HP2 hn8 hb5
      go_wp2_with fail
      (with_reducible refine (HM1.out).mono ?_)
      rintro e w6 ⟨A9, c9, l9, rfl, hn9, hb6⟩
      have hl9 : l9.length ≤ K + K := hn9.len (hmul (HPX.out k (by omega)) (HPQ.out r hr2))
      have HB6 := Lib.hid (below_next HB5.out hb6)
      have HM2 := Lib.hid (natMul_any Aw A9 cw c9 lw l9 _ _ w6 (HNW.out.on HB6.out) hn9 (by omega) (by omega))
      clear HM1 hn9 hb6
      go_wp2_with fail
      (with_reducible refine (HM2.out).mono ?_)
      rintro e w7 ⟨A0, c0, l0, rfl, hn0, hb7⟩
      have hb7' := below_next HB6.out hb7
      have HB7 := Lib.hid hb7'
      have hr7 := HR.out.on hb7'
      have q0 := hr7.1.cell HZC.out
      have z1 := hr7.1.frozen k
      have hgl7 := hr7.lt
      obtain ⟨W8, hW8⟩ : ∃ W8, W8 = w7.setCell ⟨w1.heap.size, k, none⟩ (.slice A0 l0.length c0) := ⟨_, rfl⟩
      have HROW8 := Lib.hid (show RowIn x q n w1 W8 w1.heap.size (k + 1) by
        rw [hW8]
        exact RowIn.next (z := ⟨A0, c0, l0, _⟩) hnl HR.out HVL.out HBW.out hb7' hlt (Nat.le_refl _) hn0 (by unfold bw; rw [HRR.out]))
      have HNW8 := Lib.hid (show NatR W8 Aw cw lw (ch n k) by rw [hW8]; exact (HNW.out.on hb7').setN hr7.1 k _)
      clear HM2 hn0 hb7 hb7' hr7
      go_wp2_with fail
      rw [← hW8]
      clear hW8
      have HO2 := Lib.hid (HO.out W8 r (by omega))
      rw [HOZ.out] at HO2
      (with_reducible refine (HO2.out).mono ?_)
      rintro e w9 ⟨A3, c3, l3, rfl, hn3, hb9⟩
      have hl3 : l3.length ≤ 1 := hn3.len (W64_gt r (by omega))
      have HM3 := Lib.hid (natMul_any Aw A3 cw c3 lw l3 _ _ w9 (HNW8.out.on hb9) hn3 (by omega) (by omega))
      have HB9 := Lib.hid hb9
      clear HO2 hn3 hb9 q0 z1
      go_wp2_with fail
      (with_reducible refine (HM3.out).mono ?_)
      rintro e w10 ⟨A4, c4, l4, rfl, hn4, hb10⟩
      have hl4 : l4.length ≤ K + 1 := hn4.len (hmul (HCH.out k) (W64_gt r (by omega)))
      have HN4 := Lib.hid hn4
      have HB10 := Lib.hid (below_next HB9.out hb10)
      have HO3 := Lib.hid (HO.out w10 (k + 1) (by omega))
      rw [HOZ.out, show (((k + 1 : Nat)) : Int) = (k : Int) + 1 by omega] at HO3
      clear HM3 hn4 hb10
      go_wp2_with fail
      (with_reducible refine (HO3.out).mono ?_)
      rintro e w11 ⟨A2', c2', l2', rfl, hn2, hb11⟩
      have hl2' : l2'.length ≤ 1 := hn2.len (W64_gt (k + 1) (by omega))
      have HDM := Lib.hid (natDivMod_any A4 A2' c4 c2' l4 l2' _ _ w11 (HN4.out.on hb11) hn2 (by omega) (by omega) (by omega))
      have HB11 := Lib.hid (below_next HB10.out hb11)
      rw [HRR.out, ch_next] at HDM
      clear HO3 hn2 hb11
      go_wp2_with fail
      (with_reducible refine (HDM.out).mono ?_)
      rintro e w12 ⟨AQ, cQ, lQ, AR, cR, lR, rfl, hnQ, -, hb12⟩
      have HNQ := Lib.hid hnQ
      have HROW12 := Lib.hid (show RowIn x q n w1 w12 w1.heap.size (k + 1) by
        obtain ⟨ms, m1, m2, m3, m4⟩ := HROW8.out
        have hb := below_next HB11.out hb12
        exact ⟨ms, m1, m2.on hb, m3, below_next m4 hb⟩)
      clear HDM hnQ hb12
      go_wp2
      go_roundw
      case rel => exact ⟨k + 1, by go_num, by omega, AQ, cQ, lQ, rfl, HNQ.out, HROW12.out⟩
      case measure => simp [intOf]; omega
    · obtain rfl : k = n + 1 := by omega
      have HV := Lib.hid (show nmVals ns = bwL x q n by
        have := HVL.out
        rwa [List.take_of_length_le (by rw [nmVals_length]; omega), List.take_of_length_le (by rw [bwL_length]; omega)] at this)
      have HBE := Lib.hid (below_next HST0.out.below (below_next HB1.out hbw))
      have HSZ := Lib.hid (show w.heap.size ≤ w1.heap.size from Nat.le_trans HST0.out.below.size HB1.out.size)
      clear hnw hrow hvl hbw
      go_wp2
      go_ret
      exact ⟨w1.heap.size, ns, rfl, HR.out, HV.out, HSZ.out, HBE.out⟩
end Go.Proofs.YtnpfdelklolchaaGreatDoor

/- ref0.FromRatio. Printed by gen_fromrn.py. -/
namespace Go.Proofs.YtnpfdelklolchaaGreatDoor
open Go Go.RowKit Go.Proofs

end Go.Proofs.YtnpfdelklolchaaGreatDoor

/- Package dynamometerref10: short ratios (shortFault), FromRatio of a ratio that is one. -/
namespace Go.Proofs.YtnpfdelklolchaaGreatDoor
open Go Go.RowKit Go.Proofs

end Go.Proofs.YtnpfdelklolchaaGreatDoor

/- Package dynamometerref10: chances. -/
namespace Go.Proofs.YtnpfdelklolchaaGreatDoor
open Go Go.RowKit Go.Proofs

end Go.Proofs.YtnpfdelklolchaaGreatDoor

/- Package dynamometerref0: Pow. -/
namespace Go.Proofs.YtnpfdelklolchaaGreatDoor
open Go Go.RowKit Go.Proofs

end Go.Proofs.YtnpfdelklolchaaGreatDoor

/- Binomial: three throws, at most one. Plain. -/
namespace Go.Proofs.YtnpfdelklolchaaGreatDoor
open Go

theorem bin_half : binE 3 1 [49] [50] = 0 ∧ binV 3 1 [49] [50] = ([49], [50]) := by
  have e1 : ratX [49] [50] = mkRat 1 2 := by
    unfold ratX
    rfl
  have hs : binC 3 [49] [50] = 0 := by
    have h1 : cRt [49] [50] = 0 := by decide
    unfold binC shC
    rw [if_neg (by decide), e1, h1, if_neg (by decide), if_neg (by decide)]
    decide
  have e2 : binQ 3 1 (mkRat 1 2) = mkRat 1 2 := by decide
  have e3 : Lib.decDigits 1 = [49] := by rw [Lib.decDigits]; rfl
  have e4 : Lib.decDigits 2 = [50] := by rw [Lib.decDigits]; rfl
  have h1 : frS (mkRat 1 2) = false := by decide
  have h2 : frN (mkRat 1 2) = 1 := by decide
  have h3 : (mkRat 1 2).den = 2 := by decide
  have hr : ratQ (mkRat 1 2) = ([49], [50]) := by unfold ratQ; rw [h2, h3, e3, e4]
  have hf : fitQ (mkRat 1 2) = true := by unfold fitQ; rw [hr]; rfl
  unfold binE binV
  rw [if_pos hs, if_pos hs, e1, show (3 : Int).toNat = 3 from rfl, e2]
  unfold rtC rtT txtQ
  rw [if_pos hf, if_pos hf, h1, hr]
  exact ⟨rfl, rfl⟩
end Go.Proofs.YtnpfdelklolchaaGreatDoor

/- Package dynamometerref10: Binomial. -/
namespace Go.Proofs.YtnpfdelklolchaaGreatDoor
open Go Go.RowKit Go.Proofs

theorem binV_bad {n k : Int} {a b : List UInt8} (h : binC n a b ≠ 0) : binV n k a b = ([], []) ∧ binE n k a b = binC n a b := by
  unfold binV binE; rw [if_neg h, if_neg h]; exact ⟨rfl, rfl⟩
theorem binV_good {n k : Int} {a b : List UInt8} (h : binC n a b = 0) : binV n k a b = rtT (binQ n.toNat k (ratX a b)) ∧ binE n k a b = rtC (binQ n.toNat k (ratX a b)) := by
  unfold binV binE; rw [if_pos h, if_pos h]; exact ⟨rfl, rfl⟩
theorem rat_none : ratOf ([], []) = .agg #[.string ⟨#[]⟩, .string ⟨#[]⟩] := rfl
/-- a share's parts -/
theorem share_parts {a b : List UInt8} (h : shC .share a b = 0) : frN (ratX a b) ≤ (ratX a b).den ∧ (ratX a b).den ≤ T4 ^ 2 := by
  obtain ⟨h1, h2, h3, h4⟩ := shC_zero h
  obtain ⟨s1, s2, _⟩ := shC_small h
  simp only [inQ, Bool.and_eq_true, decide_eq_true_eq] at h4
  refine ⟨h4.2, ?_⟩
  have : T4 ^ 2 = 100000000 := by unfold T4; rfl
  omega
end Go.Proofs.YtnpfdelklolchaaGreatDoor
