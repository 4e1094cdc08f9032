/- Package dynamometerref7: areaTo. -/
import Derived.Test.YtepfmoaihhonlaaGreatDoorGFrac
import Derived.Test.YtepfmoaihhonlaaGreatDoorR7Math
namespace Go.Proofs.YtepfmoaihhonlaaGreatDoor
open Go Go.RowKit Go.Proofs

/-- box B holds the fraction q -/
def VarQ (w : World) (B : Nat) (q : Rat) : Prop := ∃ A1 c1 l1 A2 c2 l2, w.heap[B]? = some (.cells #[.bool (frS q), .slice A1 l1.length c1, .slice A2 l2.length c2] 39 (0, 0)) ∧ RNatR w A1 c1 l1 (frN q) ∧ RNatR w A2 c2 l2 q.den
theorem VarQ.on {w w' : World} {B : Nat} {q : Rat} (h : VarQ w B q) (hb : Below w.heap.size w w') : VarQ w' B q := by
  obtain ⟨A1, c1, l1, A2, c2, l2, e, h1, h2⟩ := h
  exact ⟨A1, c1, l1, A2, c2, l2, (hb.block B (heap_lt e)).trans e, h1.on hb, h2.on hb⟩
theorem below_realloc {B : Nat} {w x : World} {Z Y : Obj} (h : Below B w (x.alloc Z)) (hB : B ≤ x.heap.size) : Below B w (x.alloc Y) := ⟨h.os, h.tape, h.output, by simpa using h.size, fun k hk => by
  have := h.block k hk
  rw [Below.heap_alloc _ _ _ (by omega)] at this ⊢
  exact this⟩
theorem varq_set {w : World} {B : Nat} {u0 u1 u2 : Value} {A1 A2 : Option Addr} {c1 c2 : Nat} {l1 l2 : List Nat} {q : Rat} (hX : w.heap[B]? = some (.cells #[u0, u1, u2] 39 (0, 0))) (hne : ∀ z, u0 ≠ .int .i64 z ∧ u1 ≠ .int .i64 z ∧ u2 ≠ .int .i64 z) (h1 : RNatR w A1 c1 l1 (frN q)) (h2 : RNatR w A2 c2 l2 q.den) :
    VarQ (((w.setCell ⟨B, 0, none⟩ (.bool (frS q))).setCell ⟨B, 1, none⟩ (.slice A1 l1.length c1)).setCell ⟨B, 2, none⟩ (.slice A2 l2.length c2)) B q := by
  have hf := fr3 (w := w) (B := B) (.bool (frS q)) (.slice A1 l1.length c1) (.slice A2 l2.length c2)
  have key : ∀ A c l x, RNatR w A c l x → RNatR (((w.setCell ⟨B, 0, none⟩ (.bool (frS q))).setCell ⟨B, 1, none⟩ (.slice A1 l1.length c1)).setCell ⟨B, 2, none⟩ (.slice A2 l2.length c2)) A c l x := fun A c l x h => h.keep hf.size (fun b o e hb hl => hf.block b hb (h.apart hX (by intro v hv z; have := hne z; simp at hv; rcases hv with rfl | rfl | rfl <;> simp [this]) b o e hl))
  refine ⟨A1, c1, l1, A2, c2, l2, ?_, key _ _ _ _ h1, key _ _ _ _ h2⟩
  simp [World.setCell, Array.getElem?_modify, hX]
theorem sz13 {z : Int} (h1 : -1000000000000 ≤ z) (h2 : z ≤ 1000000000000) : z.natAbs < T4 ^ 4 := by rw [T4_4]; omega

set_option maxHeartbeats 8000000 in
set_option maxRecDepth 100000 in
theorem r7Area_any (A : Option Addr) (c : Nat) (l : List (Int × Int × Int)) (t : Int) (w : World) (hr : Rd w 0 w.heap.size 3 A l.length (cells3 l)) (hl : l.length ≤ 50) (hok : ∀ s ∈ l, OkS s) (ht : t ≤ 1000000000000) :
    Calls Tryz.prog 69 #[.slice A l.length c, .int .i64 t] w fun e w' => FracPost (arQ l t) w e w' ∧ Sz 1501 (arQ l t) := by
  have HW := Lib.hid (fun n W h0 h1 => rWhole_any n W h0 h1)
  have HR := Lib.hid hr
  have HC := Lib.hid hok
  clear hr hok
  obtain ⟨W0, hW0⟩ : ∃ W0, W0 = w.alloc (.cells #[.bool false, .slice none 0 0, .slice none 0 0] 39) := ⟨_, rfl⟩
  have HB0 := Lib.hid (show Below w.heap.size w W0 by rw [hW0]; exact (Below.refl _ w).alloc (Nat.le_refl _) _)
  have HX0 := Lib.hid (show FBox W0 w.heap.size by rw [hW0]; exact alloc_at _ _ _ rfl)
  go_enter Tryz.func69, Tryz.ntmps69
  go_wp2_with fail
  rw [← hW0]
  clear hW0
  refine (HW.out 0 _ (by omega) (by omega)).mono ?_
  rintro e w1 ⟨v1, rfl, hv1, hb1⟩
  obtain ⟨A1, c1, l1, A2, c2, l2, rfl, h1, h2⟩ := hv1
  go_wp2_with fail
  have HV2 := Lib.hid (show VarQ (w1.alloc (.cells #[.bool (frS ((0 : Int) : Rat)), .slice A1 l1.length c1, .slice A2 l2.length c2] 39)) w1.heap.size 0 from ⟨A1, c1, l1, A2, c2, l2, alloc_at _ _ _ rfl, h1.on ((Below.refl _ _).alloc (Nat.le_refl _) _), h2.on ((Below.refl _ _).alloc (Nat.le_refl _) _)⟩)
  have HB1 := Lib.hid hb1
  have hs1 := hb1.size
  have hs0 := HB0.out.size
  clear h1 h2 hb1
  go_loopw [6, 7, 8, 9, 10] (fun bv iv _ _ _ wr => ∃ k : Nat, iv = .int .i64 k ∧ k ≤ l.length ∧ bv = .int .i64 (lenS (l.take k)) ∧ VarQ wr w1.heap.size (accR l t k) ∧ Sz (30 * k + 1) (accR l t k) ∧ (∀ j, j < k → lenS (l.take j) < t) ∧ Below w1.heap.size w1 wr) (fun _ iv _ _ _ _ => l.length - (intOf iv).toNat)
  case atStart => exact ⟨0, rfl, Nat.zero_le _, by simp [lenS], HV2.out, ⟨by show 0 < _; exact Nat.pow_pos (by unfold T4; omega), by show 1 < _; unfold T4; decide⟩, fun j hj => absurd hj (by omega), (Below.refl _ w1).alloc (Nat.le_refl _) _⟩
  case round =>
    obtain ⟨k, rfl, hk, rfl, hvq, hsz, hlow, hbw⟩ := hrel
    have HWX := Lib.hid (below_next HB0.out (below_next HB1.out hbw))
    have HVQ := Lib.hid hvq
    have HSZ := Lib.hid hsz
    have HLOW := Lib.hid hlow
    have HBW := Lib.hid hbw
    have hsw := hbw.size
    have hbd := lenS_bd (l := l.take k) (fun s hs => HC.out s (List.mem_of_mem_take hs))
    rw [List.length_take] at hbd
    clear hvq hsz hbw hlow
    by_cases hlt : k < l.length
    · have tl : decide (k < l.length) = true := by simpa using hlt
      have tl' : decide ((k : Int) < (l.length : Int)) = true := by simpa using hlt
      obtain ⟨bk, o, F, x, y, rfl, _, hbk, hx, c0, c1, c2⟩ := HR.out.at3 hlt
      have HXK := Lib.hid hx
      have hm := HC.out _ (List.mem_of_getElem? hx)
      obtain ⟨m1, m2, m3, m4, m5, m6⟩ := hm
      simp only at m1 m2 m3 m4 m5 m6
      have HST := Lib.hid (lenS_take hx)
      obtain ⟨b, hbe⟩ : ∃ b, b = lenS (l.take k) := ⟨_, rfl⟩
      rw [← hbe] at hbd ⊢ HST
      have HBE := Lib.hid hbe
      clear hbe hx
      by_cases hbt : b < t
      · have tb : decide (b < t) = true := by simpa using hbt
        have HCE := Lib.hid (show ∀ X, Below w.heap.size w X → X.cell? ⟨bk, o + k * 3, none⟩ = some (.int .i64 F) ∧ X.cell? ⟨bk, o + k * 3 + 1, none⟩ = some (.int .i64 x) ∧ X.cell? ⟨bk, o + k * 3 + 2, none⟩ = some (.int .i64 y) from fun X hX => ⟨(hX.cell (p := ⟨bk, o + k * 3, none⟩) hbk).trans c0, (hX.cell (p := ⟨bk, o + k * 3 + 1, none⟩) hbk).trans c1, (hX.cell (p := ⟨bk, o + k * 3 + 2, none⟩) hbk).trans c2⟩)
        have HKS := Lib.hid (show ∀ X, Below wr.heap.size wr X → (fun X => Below wr.heap.size wr X ∧ X.cell? ⟨bk, o + k * 3, none⟩ = some (.int .i64 F) ∧ X.cell? ⟨bk, o + k * 3 + 1, none⟩ = some (.int .i64 x) ∧ X.cell? ⟨bk, o + k * 3 + 2, none⟩ = some (.int .i64 y)) X from fun X hX => ⟨hX, HCE.out X (below_next HWX.out hX)⟩)
        clear c0 c1 c2
        obtain ⟨c0, c1, c2⟩ := HCE.out wr HWX.out
        obtain ⟨long, hlg⟩ : ∃ long, long = min F (t - b) := ⟨_, rfl⟩
        have hl1 : 1 ≤ long := by omega
        have hl2 : long ≤ 100000000000 := by omega
        have HX := Lib.hid (fun W => HW.out x W (by omega) (by omega))
        have HY := Lib.hid (fun W => HW.out (y - x) W (by omega) (by omega))
        have HP := Lib.hid (fun W => rPart_any long F W (by omega) (by omega) m1 (by omega))
        have HWR := Lib.hid (show IntKind.i64.wrap (y - x) = y - x from IntWalk.i64_in _ (by omega))
        have hT4 := T4_4
        have z1 := sz_int (n := 4) (z := x) (by omega) (sz13 (by omega) (by omega))
        have z2 := sz_int (n := 4) (z := y - x) (by omega) (sz13 (by omega) (by omega))
        have z3 := sz_part (n := 4) (z := long) (d := F.toNat) (by omega) (sz13 (by omega) (by omega)) (by rw [T4_4]; omega)
        have HT := Lib.hid (fun W u v hu hv => rTimes_any 4 u v _ _ W (by omega) hu hv z2 z3)
        have HPL := Lib.hid (fun W u v hu hv => rPlus_any 8 u v _ _ W (by omega) hu hv (sz_mono z1 (by omega)) (sz_mul z2 z3))
        obtain ⟨qe, hqe⟩ : ∃ qe, qe = (x : Rat) + ((y - x : Int) : Rat) * mkRat long F.toNat := ⟨_, rfl⟩
        have z4 : Sz 13 qe := by rw [hqe]; exact sz_add z1 (sz_mul z2 z3)
        have HPE := Lib.hid (fun W u v hu hv => rPlus_any 13 u v _ _ W (by omega) hu hv (sz_mono z1 (by omega)) z4)
        have HH := Lib.hid (fun W => rPart_any 1 2 W (by omega) (by omega) (by omega) (by omega))
        have z5 := sz_part (n := 4) (z := 1) (d := (2 : Int).toNat) (by decide) (sz13 (by omega) (by omega)) (by rw [T4_4]; decide)
        have HTM := Lib.hid (fun W u v hu hv => rTimes_any 18 u v _ _ W (by omega) hu hv (sz_add z1 z4) (sz_mono z5 (by omega)))
        obtain ⟨qm, hqm⟩ : ∃ qm, qm = ((x : Rat) + qe) * mkRat 1 (2 : Int).toNat := ⟨_, rfl⟩
        have z6 : Sz 22 qm := by rw [hqm]; exact sz_mul (sz_add z1 z4) z5
        have HB := Lib.hid (fun W => rPart_any long 1000000000 W (by omega) (by omega) (by omega) (by omega))
        have z7 := sz_part (n := 4) (z := long) (d := (1000000000 : Int).toNat) (by decide) (sz13 (by omega) (by omega)) (by rw [T4_4]; decide)
        have HTB := Lib.hid (fun W u v hu hv => rTimes_any 22 u v _ _ W (by omega) hu hv z6 (sz_mono z7 (by omega)))
        obtain ⟨qs, hqs⟩ : ∃ qs, qs = accR l t k := ⟨_, rfl⟩
        rw [← hqs] at HVQ HSZ
        have HPS := Lib.hid (fun W u v hu hv => rPlus_any 1531 u v qs (qm * mkRat long (1000000000 : Int).toNat) W (by omega) hu hv (sz_mono HSZ.out (by omega)) (sz_mono (sz_mul z6 z7) (by omega)))
        have HSZ2 := Lib.hid (sz_mono (m := 30 * (k + 1) + 1) (sz_add HSZ.out (sz_mul z6 z7)) (by omega))
        have HACC := Lib.hid (show accR l t (k + 1) = qs + qm * mkRat long (1000000000 : Int).toNat by
          rw [accR, HXK.out, hqs, hqm, hqe, hlg]
          have e1 : ((l.take k).map (·.1)).sum = b := by rw [HBE.out]; rfl
          simp only [e1, stA]
          rfl)
        obtain ⟨qn, hqn⟩ : ∃ qn, qn = qs + qm * mkRat long (1000000000 : Int).toNat := ⟨_, rfl⟩
        rw [← hqn] at HPS HSZ2 HACC
        clear hqn
        have HLW := Lib.hid (show ∀ j, j < k + 1 → lenS (l.take j) < t from fun j hj => by
          rcases Nat.eq_or_lt_of_le (Nat.le_of_lt_succ hj) with e | e
          · rw [e, ← HBE.out]; exact hbt
          · exact HLOW.out j e)
        rw [← hqe] at HPL
        rw [← hqm] at HTM
        simp only [← hqe] at *
        clear hqs hqm hqe z1 z2 z3 z4 z5 z6 z7 HSZ HBE hT4
        go_upto_region 7 with fail
        rw [← hlg]
        clear hlg
        go_cut [9] from 12 to 81 (fun v wx => ∃ B, v = .pointer (some ⟨B, 0, none⟩) ∧ VarQ wx B qe ∧ Below wr.heap.size wr wx)
        case first =>
          go_region_held3 (fun X => Below wr.heap.size wr X ∧ X.cell? ⟨bk, o + k * 3, none⟩ = some (.int .i64 F) ∧ X.cell? ⟨bk, o + k * 3 + 1, none⟩ = some (.int .i64 x) ∧ X.cell? ⟨bk, o + k * 3 + 2, none⟩ = some (.int .i64 y))
            (first
              | exact HKS.out _ (Below.refl _ wr).drew
              | exact HKS.out _ ((Below.refl _ wr).alloc (Nat.le_refl _) _).drew
              | (go_split_ands; refine HKS.out _ (below_next ?_ hb3); assumption)
              | (go_split_ands; refine HKS.out _ (below_next ?_ hb4); assumption)
              | (go_split_ands; refine HKS.out _ (below_next ?_ hb5); assumption)
              | (go_split_ands; refine HKS.out _ (below_next ?_ hb6); assumption)
              | (go_split_ands; refine HKS.out _ (below_next ?_ hb7); assumption)
              | (go_split_ands; refine HKS.out _ (below_next ?_ ((Below.refl _ _).alloc (Nat.le_refl _) _)); assumption)
              | (go_split_ands; refine HKS.out _ (below_realloc (Z := .cells #[.bool false, .slice none 0 0, .slice none 0 0] 39) ?_ (by omega)); assumption)
              | (go_split_ands; exact HKS.out _ (((Below.setCell (by assumption) (by show wr.heap.size ≤ _; first | exact Nat.le_refl _ | (dsimp only; omega) | omega) _).setCell (by show wr.heap.size ≤ _; first | exact Nat.le_refl _ | (dsimp only; omega) | omega) _).setCell (by show wr.heap.size ≤ _; first | exact Nat.le_refl _ | (dsimp only; omega) | omega) _)))
            (first
              | (go_at_call 26; (with_reducible refine (HX.out _).mono ?_); rintro e w3 ⟨v3, rfl, hv3, hb3⟩; have s3 : wr.heap.size ≤ w3.heap.size := (by first | exact hb3.size | exact Nat.le_trans (Nat.le_of_lt (by simp)) hb3.size | exact Nat.le_trans (Nat.le_succ _) hb3.size))
              | (go_at_call 26; (try rw [HWR.out]); (with_reducible refine (HY.out _).mono ?_); rintro e w4 ⟨v4, rfl, hv4, hb4⟩; have s4 : w3.heap.size ≤ w4.heap.size := (by first | exact hb4.size | exact Nat.le_trans (Nat.le_of_lt (by simp)) hb4.size | exact Nat.le_trans (Nat.le_succ _) hb4.size); have o4 : ∀ {v : Value} {q : Rat}, FracR w3 v q → FracR w4 v q := (fun h => by first | exact h.on hb4 | exact (h.on ((Below.refl _ _).alloc (Nat.le_refl _) _)).on hb4))
              | (go_at_call 82; (with_reducible refine (HP.out _).mono ?_); rintro e w5 ⟨v5, rfl, hv5, hb5⟩; have s5 : w4.heap.size ≤ w5.heap.size := (by first | exact hb5.size | exact Nat.le_trans (Nat.le_of_lt (by simp)) hb5.size | exact Nat.le_trans (Nat.le_succ _) hb5.size); have o5 : ∀ {v : Value} {q : Rat}, FracR w4 v q → FracR w5 v q := (fun h => by first | exact h.on hb5 | exact (h.on ((Below.refl _ _).alloc (Nat.le_refl _) _)).on hb5))
              | (go_at_call 25; (with_reducible refine (HT.out _ v4 v5 ?_ ?_).mono ?_); (first | exact o5 (hv4) | exact FracR.on (o5 (hv4)) ((Below.refl _ _).alloc (Nat.le_refl _) _)); (first | exact hv5 | exact FracR.on (hv5) ((Below.refl _ _).alloc (Nat.le_refl _) _)); rintro e w6 ⟨v6, rfl, hv6, hb6⟩; have s6 : w5.heap.size ≤ w6.heap.size := (by first | exact hb6.size | exact Nat.le_trans (Nat.le_of_lt (by simp)) hb6.size | exact Nat.le_trans (Nat.le_succ _) hb6.size); have o6 : ∀ {v : Value} {q : Rat}, FracR w5 v q → FracR w6 v q := (fun h => by first | exact h.on hb6 | exact (h.on ((Below.refl _ _).alloc (Nat.le_refl _) _)).on hb6))
              | (go_at_call 23; (with_reducible refine (HPL.out _ v3 v6 ?_ ?_).mono ?_); (first | exact o6 (o5 (o4 (hv3))) | exact FracR.on (o6 (o5 (o4 (hv3)))) ((Below.refl _ _).alloc (Nat.le_refl _) _)); (first | exact hv6 | exact FracR.on (hv6) ((Below.refl _ _).alloc (Nat.le_refl _) _)); rintro e w7 ⟨_, rfl, ⟨A7, c7, l7, A8, c8, l8, rfl, h7, h8⟩, hb7⟩; have s7 : w6.heap.size ≤ w7.heap.size := (by first | exact hb7.size | exact Nat.le_trans (Nat.le_of_lt (by simp)) hb7.size | exact Nat.le_trans (Nat.le_succ _) hb7.size); (first | (have HBX := (FBox.on (alloc_at w6 _ _ rfl : FBox (w6.alloc (.cells #[.bool false, .slice none 0 0, .slice none 0 0] 39)) w6.heap.size) hb7)) | (have HBX := (FBox.on (FBox.on (alloc_at w5 _ _ rfl : FBox (w5.alloc (.cells #[.bool false, .slice none 0 0, .slice none 0 0] 39)) w5.heap.size) hb6) hb7)) | (have HBX := (FBox.on (FBox.on (FBox.on (alloc_at w4 _ _ rfl : FBox (w4.alloc (.cells #[.bool false, .slice none 0 0, .slice none 0 0] 39)) w4.heap.size) hb5) hb6) hb7)) | (have HBX := (FBox.on (FBox.on (FBox.on (FBox.on (alloc_at w3 _ _ rfl : FBox (w3.alloc (.cells #[.bool false, .slice none 0 0, .slice none 0 0] 39)) w3.heap.size) hb4) hb5) hb6) hb7)) | (have HBX := (FBox.on (FBox.on (FBox.on (FBox.on (FBox.on (show FBox ((wr.alloc (.cells #[.bool false, .slice none 0 0, .slice none 0 0] 39)).drew) wr.heap.size from alloc_at wr _ _ rfl) hb3) hb4) hb5) hb6) hb7)) | have HBX := True.intro); (try obtain ⟨p0, p1, p2, z0, z1, z2, hlt⟩ := HBX.facts)))
          all_goals go_wp2_with fail
          all_goals go_meet
          all_goals first
            | exact ⟨_, rfl, varq_set HBX (by simp) h7 h8, by go_split_ands; assumption⟩
            | exact ⟨_, rfl, ⟨A7, c7, l7, A8, c8, l8, alloc_at _ _ _ rfl, h7.on ((Below.refl _ _).alloc (Nat.le_refl _) _), h8.on ((Below.refl _ _).alloc (Nat.le_refl _) _)⟩, by go_split_ands; assumption⟩
        case rest =>
          obtain ⟨wb, hwb⟩ : ∃ z : World, z = wc := ⟨_, rfl⟩
          subst hwb
          obtain ⟨B9, rfl, hv9, hbc⟩ := hcut
          obtain ⟨A9, c9, l9, A0, c0', l0, e9, n9, n0⟩ := hv9
          have HE9 := Lib.hid e9
          have HFE := Lib.hid (show ∀ W, Below wb.heap.size wb W → FracR W (.agg #[.bool (frS qe), .slice A9 l9.length c9, .slice A0 l0.length c0']) qe from fun W hW => ⟨A9, c9, l9, A0, c0', l0, rfl, n9.on hW, n0.on hW⟩)
          have HBC := Lib.hid hbc
          have HKS8 := Lib.hid (show ∀ X, Below wb.heap.size wb X → (fun X => Below wb.heap.size wb X ∧ X.cell? ⟨bk, o + k * 3 + 1, none⟩ = some (.int .i64 x) ∧ X.cell? ⟨B9, 0, none⟩ = some (.bool (frS qe)) ∧ X.cell? ⟨B9, 1, none⟩ = some (.slice A9 l9.length c9) ∧ X.cell? ⟨B9, 2, none⟩ = some (.slice A0 l0.length c0')) X from fun X hX => by
            have e := (hX.block B9 (heap_lt HE9.out)).trans HE9.out
            exact ⟨hX, (HCE.out X (below_next HWX.out (below_next HBC.out hX))).2.1, by rw [cellsAt e]; rfl, by rw [cellsAt e]; rfl, by rw [cellsAt e]; rfl⟩)
          obtain ⟨_, f1, g0, g1, g2⟩ := HKS8.out wb (Below.refl _ wb)
          clear c0 c1 c2 e9 n9 n0 hbc
          go_upto_region 8 with fail
          go_cut [10] from 12 to 81 (fun v wx => ∃ B, v = .pointer (some ⟨B, 0, none⟩) ∧ VarQ wx B qm ∧ Below wb.heap.size wb wx)
          case first =>
            go_region_held3 (fun X => Below wb.heap.size wb X ∧ X.cell? ⟨bk, o + k * 3 + 1, none⟩ = some (.int .i64 x) ∧ X.cell? ⟨B9, 0, none⟩ = some (.bool (frS qe)) ∧ X.cell? ⟨B9, 1, none⟩ = some (.slice A9 l9.length c9) ∧ X.cell? ⟨B9, 2, none⟩ = some (.slice A0 l0.length c0'))
              (first
                | exact HKS8.out _ (Below.refl _ wb).drew
                | exact HKS8.out _ ((Below.refl _ wb).alloc (Nat.le_refl _) _).drew
                | (go_split_ands; refine HKS8.out _ (below_next ?_ hb3); assumption)
                | (go_split_ands; refine HKS8.out _ (below_next ?_ hb4); assumption)
                | (go_split_ands; refine HKS8.out _ (below_next ?_ hb5); assumption)
                | (go_split_ands; refine HKS8.out _ (below_next ?_ hb6); assumption)
                | (go_split_ands; refine HKS8.out _ (below_next ?_ ((Below.refl _ _).alloc (Nat.le_refl _) _)); assumption)
                | (go_split_ands; refine HKS8.out _ (below_realloc (Z := .cells #[.bool false, .slice none 0 0, .slice none 0 0] 39) ?_ (by omega)); assumption)
                | (go_split_ands; exact HKS8.out _ (((Below.setCell (by assumption) (by show wb.heap.size ≤ _; first | exact Nat.le_refl _ | (dsimp only; omega) | omega) _).setCell (by show wb.heap.size ≤ _; first | exact Nat.le_refl _ | (dsimp only; omega) | omega) _).setCell (by show wb.heap.size ≤ _; first | exact Nat.le_refl _ | (dsimp only; omega) | omega) _)))
              (first
                | (go_at_call 26; (with_reducible refine (HX.out _).mono ?_); rintro e w3 ⟨v3, rfl, hv3, hb3⟩; have s3 : wb.heap.size ≤ w3.heap.size := (by first | exact hb3.size | exact Nat.le_trans (Nat.le_of_lt (by simp)) hb3.size | exact Nat.le_trans (Nat.le_succ _) hb3.size))
                | (go_at_call 23; (with_reducible refine (HPE.out _ v3 _ ?_ ?_).mono ?_); (first | exact hv3 | exact FracR.on (hv3) ((Below.refl _ _).alloc (Nat.le_refl _) _)); exact HFE.out _ (by go_split_ands; assumption); rintro e w4 ⟨v4, rfl, hv4, hb4⟩; have s4 : w3.heap.size ≤ w4.heap.size := (by first | exact hb4.size | exact Nat.le_trans (Nat.le_of_lt (by simp)) hb4.size | exact Nat.le_trans (Nat.le_succ _) hb4.size); have o4 : ∀ {v : Value} {q : Rat}, FracR w3 v q → FracR w4 v q := (fun h => by first | exact h.on hb4 | exact (h.on ((Below.refl _ _).alloc (Nat.le_refl _) _)).on hb4))
                | (go_at_call 82; (with_reducible refine (HH.out _).mono ?_); rintro e w5 ⟨v5, rfl, hv5, hb5⟩; have s5 : w4.heap.size ≤ w5.heap.size := (by first | exact hb5.size | exact Nat.le_trans (Nat.le_of_lt (by simp)) hb5.size | exact Nat.le_trans (Nat.le_succ _) hb5.size); have o5 : ∀ {v : Value} {q : Rat}, FracR w4 v q → FracR w5 v q := (fun h => by first | exact h.on hb5 | exact (h.on ((Below.refl _ _).alloc (Nat.le_refl _) _)).on hb5))
                | (go_at_call 25; (with_reducible refine (HTM.out _ v4 v5 ?_ ?_).mono ?_); (first | exact o5 (hv4) | exact FracR.on (o5 (hv4)) ((Below.refl _ _).alloc (Nat.le_refl _) _)); (first | exact hv5 | exact FracR.on (hv5) ((Below.refl _ _).alloc (Nat.le_refl _) _)); rintro e w6 ⟨_, rfl, ⟨A7, c7, l7, A8, c8, l8, rfl, h7, h8⟩, hb6⟩; have s6 : w5.heap.size ≤ w6.heap.size := (by first | exact hb6.size | exact Nat.le_trans (Nat.le_of_lt (by simp)) hb6.size | exact Nat.le_trans (Nat.le_succ _) hb6.size); (first | (have HBX := (FBox.on (alloc_at w5 _ _ rfl : FBox (w5.alloc (.cells #[.bool false, .slice none 0 0, .slice none 0 0] 39)) w5.heap.size) hb6)) | (have HBX := (FBox.on (FBox.on (alloc_at w4 _ _ rfl : FBox (w4.alloc (.cells #[.bool false, .slice none 0 0, .slice none 0 0] 39)) w4.heap.size) hb5) hb6)) | (have HBX := (FBox.on (FBox.on (FBox.on (alloc_at w3 _ _ rfl : FBox (w3.alloc (.cells #[.bool false, .slice none 0 0, .slice none 0 0] 39)) w3.heap.size) hb4) hb5) hb6)) | (have HBX := (FBox.on (FBox.on (FBox.on (FBox.on (show FBox ((wb.alloc (.cells #[.bool false, .slice none 0 0, .slice none 0 0] 39)).drew) wb.heap.size from alloc_at wb _ _ rfl) hb3) hb4) hb5) hb6)) | have HBX := True.intro); (try obtain ⟨p0, p1, p2, z0, z1, z2, hlt⟩ := HBX.facts)))
            all_goals go_wp2_with fail
            all_goals go_meet
            all_goals first
              | exact ⟨_, rfl, varq_set HBX (by simp) h7 h8, by go_split_ands; assumption⟩
              | exact ⟨_, rfl, ⟨A7, c7, l7, A8, c8, l8, alloc_at _ _ _ rfl, h7.on ((Below.refl _ _).alloc (Nat.le_refl _) _), h8.on ((Below.refl _ _).alloc (Nat.le_refl _) _)⟩, by go_split_ands; assumption⟩
          case rest =>
            obtain ⟨B10, rfl, hv10, hbd0⟩ := hcut
            have HBD := Lib.hid (below_next HBC.out hbd0)
            obtain ⟨A5, c5, l5, A6, c6, l6, e10, n5, n6⟩ := hv10
            obtain ⟨A3, c3, l3, A4, c4, l4, e5, n3, n4⟩ := HVQ.out.on HBD.out
            have HE10 := Lib.hid e10
            have HE5 := Lib.hid e5
            have HFM := Lib.hid (show ∀ W, Below wc.heap.size wc W → FracR W (.agg #[.bool (frS qm), .slice A5 l5.length c5, .slice A6 l6.length c6]) qm from fun W hW => ⟨A5, c5, l5, A6, c6, l6, rfl, n5.on hW, n6.on hW⟩)
            have HFS := Lib.hid (show ∀ W, Below wc.heap.size wc W → FracR W (.agg #[.bool (frS qs), .slice A3 l3.length c3, .slice A4 l4.length c4]) qs from fun W hW => ⟨A3, c3, l3, A4, c4, l4, rfl, n3.on hW, n4.on hW⟩)
            clear HKS
            have HKS := Lib.hid (show ∀ X, Below wc.heap.size wc X → (fun X => Below wc.heap.size wc X ∧ X.cell? ⟨w1.heap.size, 0, none⟩ = some (.bool (frS qs)) ∧ X.cell? ⟨w1.heap.size, 1, none⟩ = some (.slice A3 l3.length c3) ∧ X.cell? ⟨w1.heap.size, 2, none⟩ = some (.slice A4 l4.length c4) ∧ X.cell? ⟨B10, 0, none⟩ = some (.bool (frS qm)) ∧ X.cell? ⟨B10, 1, none⟩ = some (.slice A5 l5.length c5) ∧ X.cell? ⟨B10, 2, none⟩ = some (.slice A6 l6.length c6)) X from fun X hX => by
              have e := (hX.block w1.heap.size (heap_lt HE5.out)).trans HE5.out
              have e' := (hX.block B10 (heap_lt HE10.out)).trans HE10.out
              exact ⟨hX, by rw [cellsAt e]; rfl, by rw [cellsAt e]; rfl, by rw [cellsAt e]; rfl, by rw [cellsAt e']; rfl, by rw [cellsAt e']; rfl, by rw [cellsAt e']; rfl⟩)
            obtain ⟨_, h0, h1, h2, h3, h4, h5⟩ := HKS.out wc (Below.refl _ wc)
            clear f1 g0 g1 g2 e10 e5 n5 n6 n3 n4 hbd0 HKS8
            go_upto_region 9 with fail
            refine wp_region_last (init := #[_, _, _, _, _, _]) (last := _) rfl (by kernel_rfl) (by kernel_rfl) (by kernel_rfl) ?_
            show wpAny _ _ _ _ 6 (Array.replicate 6 false) _ _
            refine wpAny_of_held (S := (fun X => Below wc.heap.size wc X ∧ X.cell? ⟨w1.heap.size, 0, none⟩ = some (.bool (frS qs)) ∧ X.cell? ⟨w1.heap.size, 1, none⟩ = some (.slice A3 l3.length c3) ∧ X.cell? ⟨w1.heap.size, 2, none⟩ = some (.slice A4 l4.length c4) ∧ X.cell? ⟨B10, 0, none⟩ = some (.bool (frS qm)) ∧ X.cell? ⟨B10, 1, none⟩ = some (.slice A5 l5.length c5) ∧ X.cell? ⟨B10, 2, none⟩ = some (.slice A6 l6.length c6))) _ _ _ _ ?_
            have HS0 := HKS.out _ (Below.refl _ wc).drew
            refine wpAnyH_take (i := 0) (v := ?_) rfl (by kernel_rfl) (by kernel_rfl) (by kernel_rfl) (fun _ _ _ h => h) (Or.inl ⟨by rfl, ?_⟩) HS0 ?_
            rotate_left
            · intro W hW; (try dsimp only at hW); go_simp; try (with_reducible rfl)
            (try simp only [List.getElem_toArray, List.getElem_cons_zero, Act.put, List.setIfInBounds_toArray, List.set_cons_zero, List.set_cons_succ])
            refine wpAnyH_take (i := 1) (v := ?_) rfl (by kernel_rfl) (by kernel_rfl) (by kernel_rfl) (fun _ _ _ h => h) (Or.inl ⟨by rfl, ?_⟩) HS0 ?_
            rotate_left
            · intro W hW; (try dsimp only at hW); go_simp; try (with_reducible rfl)
            (try simp only [List.getElem_toArray, List.getElem_cons_succ, List.getElem_cons_zero, Act.put, List.setIfInBounds_toArray, List.set_cons_zero, List.set_cons_succ])
            refine wpAnyH_take (i := 2) (v := ?_) rfl (by kernel_rfl) (by kernel_rfl) (by kernel_rfl) (fun _ _ _ h => h) (Or.inl ⟨by rfl, ?_⟩) HS0 ?_
            rotate_left
            · intro W hW; (try dsimp only at hW); go_simp; try (with_reducible rfl)
            (try simp only [List.getElem_toArray, List.getElem_cons_succ, List.getElem_cons_zero, Act.put, List.setIfInBounds_toArray, List.set_cons_zero, List.set_cons_succ])
            refine run_one (i := 3) (by kernel_rfl) rfl rfl ?_
            intro K hK
            go_simp
            refine (HB.out _).mono ?_
            rintro e w15 ⟨v15, rfl, hv15, hb15⟩
            refine hK.out _ _ (HKS.out _ (below_next HS0.1 hb15)) ?_
            clear hK K
            have HSP := HS0
            clear HS0
            intro HS0
            refine run_one (i := 4) (by kernel_rfl) rfl rfl ?_
            intro K hK
            go_simp
            refine (HTB.out _ _ v15 (HFM.out _ HS0.1) hv15).mono ?_
            rintro e w16 ⟨v16, rfl, hv16, hb16⟩
            refine hK.out _ _ (HKS.out _ (below_next HS0.1 hb16)) ?_
            clear hK K
            have HSP := HS0
            clear HS0
            intro HS0
            refine run_one (i := 5) (by kernel_rfl) rfl rfl ?_
            intro K hK
            go_simp
            refine (HPS.out _ _ v16 (HFS.out _ HS0.1) hv16).mono ?_
            rintro e w17 ⟨v17, rfl, hv17, hb17⟩
            refine hK.out _ _ (HKS.out _ (below_next HS0.1 hb17)) ?_
            clear hK K
            have HSP := HS0
            clear HS0
            intro HS0
            refine wpAnyH_done (by kernel_rfl) ?_ _
            simp only [LastQ]
            obtain ⟨A7, c7, l7, A8, c8, l8, rfl, n7, n8⟩ := hv17
            have HW17 := Lib.hid (below_next HWX.out (below_next HBD.out HS0.1))
            have hE := (HS0.1.block w1.heap.size (heap_lt HE5.out)).trans HE5.out
            have p0 : w17.cell? ⟨w1.heap.size, 0, none⟩ = some (.bool (frS qs)) := by rw [cellsAt hE]; rfl
            have p1 : w17.cell? ⟨w1.heap.size, 1, none⟩ = some (.slice A3 l3.length c3) := by rw [cellsAt hE]; rfl
            have p2 : w17.cell? ⟨w1.heap.size, 2, none⟩ = some (.slice A4 l4.length c4) := by rw [cellsAt hE]; rfl
            have z0 := frozenAt hE 0
            have z1 := frozenAt hE 1
            have z2 := frozenAt hE 2
            have hlt5 := heap_lt hE
            obtain ⟨W5, hW5⟩ : ∃ W5, W5 = ((w17.setCell ⟨w1.heap.size, 0, none⟩ (.bool (frS qn))).setCell ⟨w1.heap.size, 1, none⟩ (.slice A7 l7.length c7)).setCell ⟨w1.heap.size, 2, none⟩ (.slice A8 l8.length c8) := ⟨_, rfl⟩
            have HV5 := Lib.hid (show VarQ W5 w1.heap.size qn by rw [hW5]; exact varq_set hE (by simp) n7 n8)
            have HB5 := Lib.hid (show Below w1.heap.size w1 W5 by rw [hW5]; exact (((HBW.out.trans ((below_next HBD.out HS0.1).mono hsw)).setCell (Nat.le_refl _) _).setCell (Nat.le_refl _) _).setCell (Nat.le_refl _) _)
            have HWX5 := Lib.hid (show Below w.heap.size w W5 by rw [hW5]; exact (((HW17.out.setCell (p := ⟨w1.heap.size, 0, none⟩) (by dsimp only; omega) _).setCell (p := ⟨w1.heap.size, 1, none⟩) (by dsimp only; omega) _).setCell (p := ⟨w1.heap.size, 2, none⟩) (by dsimp only; omega) _))
            clear HS0 hE n7 n8 hb15 hb16 hv15 hv16 h0 h1 h2 h3 h4 h5
            go_simp
            rw [← hW5]
            clear hW5 p0 p1 p2 z0 z1 z2
            obtain ⟨c0, c1, c2⟩ := HCE.out W5 HWX5.out
            go_wp2
            go_roundw
            case rel => exact ⟨k + 1, by go_num, by omega, by rw [HST.out], by rw [HACC.out]; exact HV5.out, by rw [HACC.out]; exact HSZ2.out, HLW.out, HB5.out⟩
            case measure => simp [intOf]; omega
      · have tb : decide (b < t) = false := by simpa using hbt
        have HQ := Lib.hid (show accR l t k = arQ l t by
          have := accR_arQ l t k hk HLOW.out
          rw [arQ_le _ (by rw [← HBE.out]; omega), Rat.add_zero] at this
          exact this)
        rw [HQ.out] at HVQ HSZ
        have HSZ2 := Lib.hid (sz_mono (m := 1501) HSZ.out (by omega))
        clear HQ HSZ
        obtain ⟨A3, c3, l3, A4, c4, l4, e5, n3, n4⟩ := HVQ.out
        have HB1r := Lib.hid (below_next HB1.out HBW.out)
        have HF := Lib.hid (fun W (hf : Fr (fun i => i = w.heap.size) wr W) => frac_ret2 (w0 := w) (v := .agg #[.bool (frS (arQ l t)), .slice A3 l3.length c3, .slice A4 l4.length c4]) (HX0.out.on HB1r.out) ⟨A3, c3, l3, A4, c4, l4, rfl, n3, n4⟩ HWX.out (Nat.le_refl _) hf)
        obtain ⟨k0, k1, k2, z0, z1, z2, hlt5⟩ := (HX0.out.on HB1r.out).facts
        have p0 : wr.cell? ⟨w1.heap.size, 0, none⟩ = some (.bool (frS (arQ l t))) := by rw [cellsAt e5]; rfl
        have p1 : wr.cell? ⟨w1.heap.size, 1, none⟩ = some (.slice A3 l3.length c3) := by rw [cellsAt e5]; rfl
        have p2 : wr.cell? ⟨w1.heap.size, 2, none⟩ = some (.slice A4 l4.length c4) := by rw [cellsAt e5]; rfl
        clear e5 n3 n4
        go_wp2
        refine bodyPost_ret (v := .agg #[.bool (frS (arQ l t)), .slice A3 l3.length c3, .slice A4 l4.length c4]) (by simp [results, Tryz.results69, go_sem, k0, k1, k2]) rfl ⟨⟨_, rfl, HF.out _ (fr3 _ _ _)⟩, HSZ2.out⟩
    · have tl : decide (k < l.length) = false := by simpa using hlt
      have tl' : decide ((k : Int) < (l.length : Int)) = false := by simpa using hlt
      have HQ := Lib.hid (show accR l t k = arQ l t by
        have := accR_arQ l t k hk HLOW.out
        rw [List.drop_eq_nil_of_le (by omega), arQ, Rat.add_zero] at this
        exact this)
      rw [HQ.out] at HVQ HSZ
      have HSZ2 := Lib.hid (sz_mono (m := 1501) HSZ.out (by omega))
      clear HQ HSZ
      obtain ⟨A3, c3, l3, A4, c4, l4, e5, n3, n4⟩ := HVQ.out
      have HB1r := Lib.hid (below_next HB1.out HBW.out)
      have HF := Lib.hid (fun W (hf : Fr (fun i => i = w.heap.size) wr W) => frac_ret2 (w0 := w) (v := .agg #[.bool (frS (arQ l t)), .slice A3 l3.length c3, .slice A4 l4.length c4]) (HX0.out.on HB1r.out) ⟨A3, c3, l3, A4, c4, l4, rfl, n3, n4⟩ HWX.out (Nat.le_refl _) hf)
      obtain ⟨k0, k1, k2, z0, z1, z2, hlt5⟩ := (HX0.out.on HB1r.out).facts
      have p0 : wr.cell? ⟨w1.heap.size, 0, none⟩ = some (.bool (frS (arQ l t))) := by rw [cellsAt e5]; rfl
      have p1 : wr.cell? ⟨w1.heap.size, 1, none⟩ = some (.slice A3 l3.length c3) := by rw [cellsAt e5]; rfl
      have p2 : wr.cell? ⟨w1.heap.size, 2, none⟩ = some (.slice A4 l4.length c4) := by rw [cellsAt e5]; rfl
      clear e5 n3 n4
      go_wp2
      refine bodyPost_ret (v := .agg #[.bool (frS (arQ l t)), .slice A3 l3.length c3, .slice A4 l4.length c4]) (by simp [results, Tryz.results69, go_sem, k0, k1, k2]) rfl ⟨⟨_, rfl, HF.out _ (fr3 _ _ _)⟩, HSZ2.out⟩
end Go.Proofs.YtepfmoaihhonlaaGreatDoor
