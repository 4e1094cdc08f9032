/- Package dynamometerref7: first. Printed by gen_first.py. -/
import Derived.Test.YtkoodmoilfgafaaGreatDoorR7Area
namespace Go.Proofs.YtkoodmoilfgafaaGreatDoor
open Go Go.RowKit Go.Proofs

/-- before the stage k -/
def bfQ : List (Int × Int × Int) → Nat → Rat
  | _, 0 => 0
  | l, k + 1 => bfQ l k + (match l[k]? with | some s => whQ s | none => 0)
theorem fstQ_step (q : Rat) (l : List (Int × Int × Int)) : ∀ k, k ≤ l.length → (∀ j, j < k → bfQ l (j + 1) < q) → fstQ q 0 0 l = fstQ q (bfQ l k) (lenS (l.take k)) (l.drop k)
  | 0, _, _ => by simp [bfQ, lenS]
  | k + 1, hk, h => by
    rw [fstQ_step q l k (by omega) (fun j hj => h j (by omega))]
    obtain ⟨s, hs⟩ : ∃ s, l[k]? = some s := ⟨l[k]'(by omega), List.getElem?_eq_getElem (by omega)⟩
    have hd : l.drop k = s :: l.drop (k + 1) := by
      rw [List.drop_eq_getElem_cons (by omega)]
      congr 1
      rw [List.getElem?_eq_getElem (by omega)] at hs
      exact Option.some.inj hs
    have h1 := h k (by omega)
    have e : bfQ l (k + 1) = bfQ l k + whQ s := by rw [bfQ, hs]
    rw [hd, fstQ, if_pos (by rw [← e]; exact h1), ← e]
    congr 1
    rw [List.take_add_one, hs]; simp [lenS]
theorem bs_step {p : Nat → Bool} {f lo hi : Nat} (h : lo < hi) (hf : hi - lo < 2 ^ f) : ∃ f', hi - ((lo + hi) / 2 + 1) < 2 ^ f' ∧ (lo + hi) / 2 - lo < 2 ^ f' ∧ bs p f lo hi = (if p ((lo + hi) / 2) = true then bs p f' lo ((lo + hi) / 2) else bs p f' ((lo + hi) / 2 + 1) hi) := by
  cases f with
  | zero => simp at hf; omega
  | succ f =>
    rw [Nat.pow_succ] at hf
    refine ⟨f, by omega, by omega, ?_⟩
    rw [bs, if_pos h]
theorem bs_end {p : Nat → Bool} {f lo hi : Nat} (h : ¬ lo < hi) : bs p f lo hi = lo := by
  cases f with
  | zero => rfl
  | succ f => rw [bs, if_neg h]
theorem ordQ_lt {a b : Rat} : (ordQ a b < 0) ↔ a < b := by
  unfold ordQ
  split
  · simp [*]
  · rename_i h
    split <;> simp [h]

set_option maxHeartbeats 4000000 in
set_option maxRecDepth 100000 in
theorem r7First_any (A : Option Addr) (c : Nat) (l : List (Int × Int × Int)) (v : Value) (q : Rat) (w : World) (hr : Rd w 0 w.heap.size 3 A l.length (cells3 l)) (hl : l.length ≤ 50) (hok : ∀ s ∈ l, OkS s) (hv : FracR w v q) (hq : Sz 1600 q) (hq0 : 0 < q) :
    Calls Tryz.prog 108 #[.slice A l.length c, v] w fun e w' => e = .returned (.int .i64 (fstQ q 0 0 l)) ∧ Below w.heap.size w w' := by
  obtain ⟨A1, c1, l1, A2, c2, l2, rfl, hv1, hv2⟩ := hv
  have HW := Lib.hid (fun n W h0 h1 => rWhole_any n W h0 h1)
  have HR := Lib.hid hr
  have HC := Lib.hid hok
  obtain ⟨W0, hW0⟩ : ∃ W0, W0 = w.alloc (.cells #[.bool (frS q), .slice A1 l1.length c1, .slice A2 l2.length c2] 39) := ⟨_, rfl⟩
  have HB0 := Lib.hid (show Below w.heap.size w W0 by rw [hW0]; exact (Below.refl _ w).alloc (Nat.le_refl _) _)
  have HVQ0 := Lib.hid (show VarQ W0 w.heap.size q by rw [hW0]; exact ⟨A1, c1, l1, A2, c2, l2, alloc_at _ _ _ rfl, hv1.on ((Below.refl _ _).alloc (Nat.le_refl _) _), hv2.on ((Below.refl _ _).alloc (Nat.le_refl _) _)⟩)
  have HSG := Lib.hid (fun W u (h : FracR W u q) => rSign_any u q W h)
  rw [show sgnQ q = 1 by unfold sgnQ; rw [if_neg (by grind), if_neg (by grind)]] at HSG
  have HSQ := Lib.hid hq
  clear hr hok hv1 hv2 hq
  go_enter Tryz.func108, Tryz.ntmps108
  go_wp2_with fail
  rw [← hW0]
  clear hW0
  refine (HW.out 0 _ (by omega) (by omega)).mono ?_
  rintro e w1 ⟨v1, rfl, hv1, hb1⟩
  obtain ⟨A3, c3, l3, A4, c4, l4, rfl, h1, h2⟩ := hv1
  obtain ⟨A5, c5, l5, A6, c6, l6, e5, h5, h6⟩ := HVQ0.out.on hb1
  obtain ⟨W2, hW2⟩ : ∃ W2, W2 = w1.alloc (.cells #[.bool (frS (0 : Rat)), .slice A3 l3.length c3, .slice A4 l4.length c4] 39) := ⟨_, rfl⟩
  have HB2 := Lib.hid (show Below w1.heap.size w1 W2 by rw [hW2]; exact (Below.refl _ _).alloc (Nat.le_refl _) _)
  have HV2 := Lib.hid (show VarQ W2 w1.heap.size (bfQ l 0) by rw [hW2]; exact ⟨A3, c3, l3, A4, c4, l4, alloc_at _ _ _ rfl, h1.on ((Below.refl _ _).alloc (Nat.le_refl _) _), h2.on ((Below.refl _ _).alloc (Nat.le_refl _) _)⟩)
  have e5' := (HB2.out.block _ (heap_lt e5)).trans e5
  have HSG2 := Lib.hid (HSG.out W2 _ ⟨A5, c5, l5, A6, c6, l6, rfl, h5.on HB2.out, h6.on HB2.out⟩)
  have p0 : W2.cell? ⟨w.heap.size, 0, none⟩ = some (.bool (frS q)) := by rw [cellsAt e5']; rfl
  have p1 : W2.cell? ⟨w.heap.size, 1, none⟩ = some (.slice A5 l5.length c5) := by rw [cellsAt e5']; rfl
  have p2 : W2.cell? ⟨w.heap.size, 2, none⟩ = some (.slice A6 l6.length c6) := by rw [cellsAt e5']; rfl
  have HB1 := Lib.hid hb1
  have hs1 := hb1.size
  have hs0 := HB0.out.size
  have hs2 := HB2.out.size
  have hlw := heap_lt e5
  clear h1 h2 h5 h6 hb1 e5 e5'
  go_upto_region 3 with fail
  rw [← hW2]
  clear hW2
  go_wp2_with fail
  (with_reducible refine HSG2.out.mono ?_)
  rintro e w2 ⟨rfl, hb2⟩
  have HB12 := Lib.hid (HB2.out.trans (hb2.mono hs2))
  have HV3 := Lib.hid (HV2.out.on hb2)
  clear hb2 p0 p1 p2
  go_wp2_with fail
  go_loopw [5, 7, 8, 9, 10, 11, 12, 13, 14] (fun bv iv _ _ _ _ _ _ _ wr => ∃ k : Nat, iv = .int .i64 k ∧ k ≤ l.length ∧ bv = .int .i64 (lenS (l.take k)) ∧ VarQ wr w1.heap.size (bfQ l k) ∧ Sz (30 * k + 1) (bfQ l k) ∧ (∀ j, j < k → bfQ l (j + 1) < q) ∧ Below w1.heap.size w1 wr) (fun _ iv _ _ _ _ _ _ _ _ => l.length - (intOf iv).toNat)
  case atStart => exact ⟨0, rfl, Nat.zero_le _, by simp [lenS], HV3.out, ⟨by show 0 < _; exact Nat.pow_pos (by unfold T4; omega), by show 1 < _; unfold T4; decide⟩, fun j hj => absurd hj (by omega), HB12.out⟩
  case round =>
    obtain ⟨k, rfl, hk, rfl, hvq, hsz, hlow, hbw⟩ := hrel
    have HWX := Lib.hid (below_next HB0.out (below_next HB1.out hbw))
    have HVQ := Lib.hid hvq
    have HSZ := Lib.hid hsz
    have HLOW := Lib.hid hlow
    have HBW := Lib.hid hbw
    have HAQ := Lib.hid ((HVQ0.out.on HB1.out).on hbw)
    have hsw := hbw.size
    have hlw1 : w1.heap.size < wr.heap.size := by
      obtain ⟨_, _, _, _, _, _, e, _, _⟩ := hvq
      exact heap_lt e
    have hbd := lenS_bd (l := l.take k) (fun s hs => HC.out s (List.mem_of_mem_take hs))
    rw [List.length_take] at hbd
    clear hvq hsz hbw hlow HV3 HV2 HSG HSG2
    by_cases hlt : k < l.length
    · have tl : decide (k < l.length) = true := by simpa using hlt
      have tl' : decide ((k : Int) < (l.length : Int)) = true := by simpa using hlt
      obtain ⟨bk, o, F, x, y, rfl, _, hbk, hx, c0, c1, c2⟩ := HR.out.at3 hlt
      have HXK := Lib.hid hx
      have HSK := Lib.hid (HC.out _ (List.mem_of_getElem? hx))
      have hm := HSK.out
      obtain ⟨m1, m2, m3, m4, m5, m6⟩ := hm
      simp only at m1 m2 m3 m4 m5 m6
      have HST := Lib.hid (lenS_take hx)
      obtain ⟨b, hbe⟩ : ∃ b, b = lenS (l.take k) := ⟨_, rfl⟩
      rw [← hbe] at hbd ⊢ HST
      have HBE := Lib.hid hbe
      clear hbe hx
      have HCE := Lib.hid (show ∀ X, Below w.heap.size w X → X.cell? ⟨bk, o + k * 3, none⟩ = some (.int .i64 F) ∧ X.cell? ⟨bk, o + k * 3 + 1, none⟩ = some (.int .i64 x) ∧ X.cell? ⟨bk, o + k * 3 + 2, none⟩ = some (.int .i64 y) from fun X hX => ⟨(hX.cell (p := ⟨bk, o + k * 3, none⟩) hbk).trans c0, (hX.cell (p := ⟨bk, o + k * 3 + 1, none⟩) hbk).trans c1, (hX.cell (p := ⟨bk, o + k * 3 + 2, none⟩) hbk).trans c2⟩)
      clear c0 c1 c2
      obtain ⟨c0, c1, c2⟩ := HCE.out wr HWX.out
      obtain ⟨W8, hW8⟩ : ∃ W8, W8 = wr.alloc (.cells #[.int .i64 F, .int .i64 x, .int .i64 y] 55) := ⟨_, rfl⟩
      have HB8 := Lib.hid (show Below wr.heap.size wr W8 by rw [hW8]; exact (Below.refl _ _).alloc (Nat.le_refl _) _)
      have HS8 := Lib.hid (show W8.heap[wr.heap.size]? = some (.cells #[.int .i64 F, .int .i64 x, .int .i64 y] 55 (0, 0)) by rw [hW8]; exact alloc_at _ _ _ rfl)
      go_upto_region 9 with fail
      rw [← hW8]
      clear hW8
      have HSC := Lib.hid (show ∀ X, Below W8.heap.size W8 X → X.cell? ⟨wr.heap.size, 0, none⟩ = some (.int .i64 F) ∧ X.cell? ⟨wr.heap.size, 1, none⟩ = some (.int .i64 x) ∧ X.cell? ⟨wr.heap.size, 2, none⟩ = some (.int .i64 y) from fun X hX => by
        have e := (hX.block _ (heap_lt HS8.out)).trans HS8.out
        exact ⟨by rw [cellsAt e]; rfl, by rw [cellsAt e]; rfl, by rw [cellsAt e]; rfl⟩)
      have HKS := Lib.hid (show ∀ X, Below W8.heap.size W8 X → (fun X => Below W8.heap.size W8 X ∧ X.cell? ⟨wr.heap.size, 0, none⟩ = some (.int .i64 F) ∧ X.cell? ⟨wr.heap.size, 1, none⟩ = some (.int .i64 x) ∧ X.cell? ⟨wr.heap.size, 2, none⟩ = some (.int .i64 y)) X from fun X hX => ⟨hX, HSC.out X hX⟩)
      clear c0 c1 c2
      obtain ⟨c0, c1, c2⟩ := HSC.out W8 (Below.refl _ _)
      have HWR := Lib.hid (show IntKind.i64.wrap (x + y) = x + y from IntWalk.i64_in _ (by omega))
      have hT4 := T4_4
      have HP1 := Lib.hid (fun W => rPart_any (x + y) 2 W (by omega) (by omega) (by omega) (by omega))
      have HP2 := Lib.hid (fun W => rPart_any F 1000000000 W (by omega) (by omega) (by omega) (by omega))
      have z1 := sz_part (n := 4) (z := x + y) (d := (2 : Int).toNat) (by decide) (sz13 (by omega) (by omega)) (by rw [T4_4]; decide)
      have z2 := sz_part (n := 4) (z := F) (d := (1000000000 : Int).toNat) (by decide) (sz13 (by omega) (by omega)) (by rw [T4_4]; decide)
      have HTW := Lib.hid (show ∀ W u v, FracR W u (mkRat (x + y) (2 : Int).toNat) → FracR W v (mkRat F (1000000000 : Int).toNat) → Calls Tryz.prog 23 #[u, v] W (FracPost (whQ (F, x, y)) W) from fun W u v hu hv => rTimes_any 4 u v _ _ W (by omega) hu hv z1 z2)
      have z3 : Sz 8 (whQ (F, x, y)) := sz_mul z1 z2
      obtain ⟨qw, hqw⟩ : ∃ qw, qw = whQ (F, x, y) := ⟨_, rfl⟩
      obtain ⟨qb, hqb⟩ : ∃ qb, qb = bfQ l k := ⟨_, rfl⟩
      rw [← hqb] at HVQ HSZ
      rw [← hqw] at HTW z3
      have HPA := Lib.hid (fun W u v hu hv => rPlus_any 1520 u v qb qw W (by omega) hu hv (sz_mono HSZ.out (by omega)) (sz_mono z3 (by omega)))
      have HNX := Lib.hid (show bfQ l (k + 1) = qb + qw by rw [bfQ, HXK.out, hqb, hqw])
      have HSA := Lib.hid (sz_mono (m := 30 * (k + 1) + 1) (sz_add HSZ.out z3) (by omega))
      have HZQ := Lib.hid (sz_mono (m := 1510) HSZ.out (by omega))
      have HQW := Lib.hid hqw
      have HQB := Lib.hid hqb
      clear HSZ hT4 z1 z2 z3 hqw hqb
      go_cut [9] from 19 to 79 (fun v wx => ∃ B, v = .pointer (some ⟨B, 0, none⟩) ∧ VarQ wx B qw ∧ Below W8.heap.size W8 wx)
      case first =>
        go_region_held3 (fun X => Below W8.heap.size W8 X ∧ X.cell? ⟨wr.heap.size, 0, none⟩ = some (.int .i64 F) ∧ X.cell? ⟨wr.heap.size, 1, none⟩ = some (.int .i64 x) ∧ X.cell? ⟨wr.heap.size, 2, none⟩ = some (.int .i64 y))
          (first
            | exact HKS.out _ (Below.refl _ W8).drew
            | exact HKS.out _ ((Below.refl _ W8).alloc (Nat.le_refl _) _).drew
            | (go_split_ands; refine HKS.out _ (below_next ?_ hb3); assumption)
            | (go_split_ands; refine HKS.out _ (below_next ?_ hb4); assumption)
            | (go_split_ands; refine HKS.out _ (below_next ?_ hb5); assumption)
            | (go_split_ands; refine HKS.out _ (below_next ?_ ((Below.refl _ _).alloc (Nat.le_refl _) _)); assumption)
            | (go_split_ands; refine HKS.out _ (below_realloc (Z := .cells #[.bool false, .slice none 0 0, .slice none 0 0] 39) ?_ (by omega)); assumption)
            | (go_split_ands; exact HKS.out _ (((Below.setCell (by assumption) (by show W8.heap.size ≤ _; first | exact Nat.le_refl _ | (dsimp only; omega) | omega) _).setCell (by show W8.heap.size ≤ _; first | exact Nat.le_refl _ | (dsimp only; omega) | omega) _).setCell (by show W8.heap.size ≤ _; first | exact Nat.le_refl _ | (dsimp only; omega) | omega) _)))
          (first
            | (go_at_call 60; (try rw [HWR.out]); (with_reducible refine (HP1.out _).mono ?_); rintro e w3 ⟨v3, rfl, hv3, hb3⟩; have s3 : W8.heap.size ≤ w3.heap.size := (by first | exact hb3.size | exact Nat.le_trans (Nat.le_of_lt (by simp)) hb3.size | exact Nat.le_trans (Nat.le_succ _) hb3.size))
            | (go_at_call 60; (with_reducible refine (HP2.out _).mono ?_); rintro e w4 ⟨v4, rfl, hv4, hb4⟩; have s4 : w3.heap.size ≤ w4.heap.size := (by first | exact hb4.size | exact Nat.le_trans (Nat.le_of_lt (by simp)) hb4.size | exact Nat.le_trans (Nat.le_succ _) hb4.size); have o4 : ∀ {v : Value} {q : Rat}, FracR w3 v q → FracR w4 v q := (fun h => by first | exact h.on hb4 | exact (h.on ((Below.refl _ _).alloc (Nat.le_refl _) _)).on hb4))
            | (go_at_call 23; (with_reducible refine (HTW.out _ v3 v4 ?_ ?_).mono ?_); (first | exact o4 (hv3) | exact FracR.on (o4 (hv3)) ((Below.refl _ _).alloc (Nat.le_refl _) _)); (first | exact hv4 | exact FracR.on (hv4) ((Below.refl _ _).alloc (Nat.le_refl _) _)); rintro e w5 ⟨_, rfl, ⟨A7, c7, l7, A8, c8, l8, rfl, h7, h8⟩, hb5⟩; have s5 : w4.heap.size ≤ w5.heap.size := (by first | exact hb5.size | exact Nat.le_trans (Nat.le_of_lt (by simp)) hb5.size | exact Nat.le_trans (Nat.le_succ _) hb5.size); (first | (have HBX := (FBox.on (alloc_at w4 _ _ rfl : FBox (w4.alloc (.cells #[.bool false, .slice none 0 0, .slice none 0 0] 39)) w4.heap.size) hb5)) | (have HBX := (FBox.on (FBox.on (alloc_at w3 _ _ rfl : FBox (w3.alloc (.cells #[.bool false, .slice none 0 0, .slice none 0 0] 39)) w3.heap.size) hb4) hb5)) | (have HBX := (FBox.on (FBox.on (FBox.on (show FBox ((W8.alloc (.cells #[.bool false, .slice none 0 0, .slice none 0 0] 39)).drew) W8.heap.size from alloc_at W8 _ _ rfl) hb3) hb4) hb5)) | have HBX := True.intro); (try obtain ⟨p0, p1, p2, z0, z1, z2, hlt⟩ := HBX.facts)))
        all_goals go_wp2_with fail
        all_goals go_meet
        all_goals first
          | exact ⟨_, rfl, varq_set HBX (by simp) h7 h8, by go_split_ands; assumption⟩
          | exact ⟨_, rfl, ⟨A7, c7, l7, A8, c8, l8, alloc_at _ _ _ rfl, h7.on ((Below.refl _ _).alloc (Nat.le_refl _) _), h8.on ((Below.refl _ _).alloc (Nat.le_refl _) _)⟩, by go_split_ands; assumption⟩
      case rest =>
        obtain ⟨wb, hwb⟩ : ∃ z : World, z = wc := ⟨_, rfl⟩
        subst hwb
        obtain ⟨B9, rfl, hv9, hbc⟩ := hcut
        have HBC := Lib.hid hbc
        obtain ⟨A9, c9, l9, A0, c0', l0, e9, n9, n0⟩ := hv9
        obtain ⟨A3', c3', l3', A4', c4', l4', e3, n3, n4⟩ := HVQ.out.on (below_next HB8.out hbc)
        have p0 : wb.cell? ⟨B9, 0, none⟩ = some (.bool (frS qw)) := by rw [cellsAt e9]; rfl
        have p1 : wb.cell? ⟨B9, 1, none⟩ = some (.slice A9 l9.length c9) := by rw [cellsAt e9]; rfl
        have p2 : wb.cell? ⟨B9, 2, none⟩ = some (.slice A0 l0.length c0') := by rw [cellsAt e9]; rfl
        have p3 : wb.cell? ⟨w1.heap.size, 0, none⟩ = some (.bool (frS qb)) := by rw [cellsAt e3]; rfl
        have p4 : wb.cell? ⟨w1.heap.size, 1, none⟩ = some (.slice A3' l3'.length c3') := by rw [cellsAt e3]; rfl
        have p5 : wb.cell? ⟨w1.heap.size, 2, none⟩ = some (.slice A4' l4'.length c4') := by rw [cellsAt e3]; rfl
        have HPA2 := Lib.hid (HPA.out wb _ _ ⟨A3', c3', l3', A4', c4', l4', rfl, n3, n4⟩ ⟨A9, c9, l9, A0, c0', l0, rfl, n9, n0⟩)
        clear e9 e3 n9 n0 n3 n4 hbc
        go_wp2_with fail
        (with_reducible refine HPA2.out.mono ?_)
        rintro e w3 ⟨v3, rfl, hv3, hb3⟩
        obtain ⟨A7, c7, l7, A8, c8, l8, rfl, n7, n8⟩ := hv3
        obtain ⟨W3, hW3⟩ : ∃ W3, W3 = w3.alloc (.cells #[.bool (frS (qb + qw)), .slice A7 l7.length c7, .slice A8 l8.length c8] 39) := ⟨_, rfl⟩
        have HB3 := Lib.hid (show Below wb.heap.size wb W3 by rw [hW3]; exact below_next hb3 ((Below.refl _ _).alloc (Nat.le_refl _) _))
        have hbr : Below wr.heap.size wr W3 := below_next HB8.out (below_next HBC.out HB3.out)
        have HBR := Lib.hid hbr
        have hs3 := hb3.size
        have hAT : W3.heap[w3.heap.size]? = some (.cells #[.bool (frS (qb + qw)), .slice A7 l7.length c7, .slice A8 l8.length c8] 39 (0, 0)) := by rw [hW3]; exact alloc_at _ _ _ rfl
        obtain ⟨A3, c3, l3, A4, c4, l4, e5, n3, n4⟩ := HAQ.out.on hbr
        have q0 : W3.cell? ⟨w.heap.size, 0, none⟩ = some (.bool (frS q)) := by rw [cellsAt e5]; rfl
        have q1 : W3.cell? ⟨w.heap.size, 1, none⟩ = some (.slice A3 l3.length c3) := by rw [cellsAt e5]; rfl
        have q2 : W3.cell? ⟨w.heap.size, 2, none⟩ = some (.slice A4 l4.length c4) := by rw [cellsAt e5]; rfl
        have q3 : W3.cell? ⟨w3.heap.size, 0, none⟩ = some (.bool (frS (qb + qw))) := by rw [cellsAt hAT]; rfl
        have q4 : W3.cell? ⟨w3.heap.size, 1, none⟩ = some (.slice A7 l7.length c7) := by rw [cellsAt hAT]; rfl
        have q5 : W3.cell? ⟨w3.heap.size, 2, none⟩ = some (.slice A8 l8.length c8) := by rw [cellsAt hAT]; rfl
        have h7 : RNatR W3 A7 c7 l7 (frN (qb + qw)) := by rw [hW3]; exact n7.on ((Below.refl _ _).alloc (Nat.le_refl _) _)
        have h8 : RNatR W3 A8 c8 l8 (qb + qw).den := by rw [hW3]; exact n8.on ((Below.refl _ _).alloc (Nat.le_refl _) _)
        have HOR := Lib.hid (rOrder_any 1600 _ _ (qb + qw) q W3 (by omega) ⟨A7, c7, l7, A8, c8, l8, rfl, h7, h8⟩ ⟨A3, c3, l3, A4, c4, l4, rfl, n3, n4⟩ (sz_mono HSA.out (by omega)) HSQ.out)
        have HFQ := Lib.hid (show ∀ W, Below W3.heap.size W3 W → FracR W (.agg #[.bool (frS q), .slice A3 l3.length c3, .slice A4 l4.length c4]) q from fun W hW => ⟨A3, c3, l3, A4, c4, l4, rfl, n3.on hW, n4.on hW⟩)
        have HE5 := Lib.hid e5
        have HAT := Lib.hid hAT
        have HN78 := Lib.hid (And.intro h7 h8)
        clear p0 p1 p2 p3 p4 p5 hb3 n7 n8 n3 n4 h7 h8 hbr e5 hAT
        go_upto_region 11 with fail
        rw [← hW3]
        clear hW3
        obtain ⟨od, hod⟩ : ∃ od, od = ordQ (qb + qw) q := ⟨_, rfl⟩
        rw [← hod] at HOR
        have hod2 := ordQ_lt (a := qb + qw) (b := q)
        rw [← hod] at hod2
        have HOD := Lib.hid hod2
        clear hod hod2
        go_wp2_with fail
        (with_reducible refine HOR.out.mono ?_)
        rintro e w4 ⟨rfl, hb4⟩
        have HB4 := Lib.hid hb4
        have hs4 := hb4.size
        by_cases hlt4 : od < 0
        · have tod : decide (od < 0) = true := by simpa using hlt4
          have HLW := Lib.hid (show ∀ j, j < k + 1 → bfQ l (j + 1) < q from fun j hj => by
            rcases Nat.eq_or_lt_of_le (Nat.le_of_lt_succ hj) with e | e
            · rw [e, HNX.out]; exact HOD.out.1 hlt4
            · exact HLOW.out j e)
          obtain ⟨A3', c3', l3', A4', c4', l4', e3, n3, n4⟩ := HVQ.out.on (below_next HBR.out hb4)
          have hA4 := (hb4.block _ (heap_lt HAT.out)).trans HAT.out
          have p0 : w4.cell? ⟨w3.heap.size, 0, none⟩ = some (.bool (frS (qb + qw))) := by rw [cellsAt hA4]; rfl
          have p1 : w4.cell? ⟨w3.heap.size, 1, none⟩ = some (.slice A7 l7.length c7) := by rw [cellsAt hA4]; rfl
          have p2 : w4.cell? ⟨w3.heap.size, 2, none⟩ = some (.slice A8 l8.length c8) := by rw [cellsAt hA4]; rfl
          have p3 : w4.cell? ⟨w1.heap.size, 0, none⟩ = some (.bool (frS qb)) := by rw [cellsAt e3]; rfl
          have p4 : w4.cell? ⟨w1.heap.size, 1, none⟩ = some (.slice A3' l3'.length c3') := by rw [cellsAt e3]; rfl
          have p5 : w4.cell? ⟨w1.heap.size, 2, none⟩ = some (.slice A4' l4'.length c4') := by rw [cellsAt e3]; rfl
          have z0 := frozenAt e3 0
          have z1 := frozenAt e3 1
          have z2 := frozenAt e3 2
          have hlt5 := heap_lt e3
          obtain ⟨W5, hW5⟩ : ∃ W5, W5 = ((w4.setCell ⟨w1.heap.size, 0, none⟩ (.bool (frS (qb + qw)))).setCell ⟨w1.heap.size, 1, none⟩ (.slice A7 l7.length c7)).setCell ⟨w1.heap.size, 2, none⟩ (.slice A8 l8.length c8) := ⟨_, rfl⟩
          have HV5 := Lib.hid (show VarQ W5 w1.heap.size (qb + qw) by rw [hW5]; exact varq_set e3 (by simp) (HN78.out.1.on hb4) (HN78.out.2.on hb4))
          have HB5 := Lib.hid (show Below w1.heap.size w1 W5 by rw [hW5]; exact (((HBW.out.trans ((below_next HBR.out hb4).mono hsw)).setCell (Nat.le_refl _) _).setCell (Nat.le_refl _) _).setCell (Nat.le_refl _) _)
          have hF5 : W5.cell? ⟨wr.heap.size, 0, none⟩ = some (.int .i64 F) := by
            have e := (HSC.out w4 (below_next HBC.out (below_next HB3.out hb4))).1
            have hne : ∀ j, (⟨w1.heap.size, j, none⟩ : Addr) ≠ ⟨wr.heap.size, 0, none⟩ := fun j h => by simp only [Addr.mk.injEq] at h; omega
            rw [hW5, World.cell?_setCell_other _ _ _ _ (hne 2), World.cell?_setCell_other _ _ _ _ (hne 1), World.cell?_setCell_other _ _ _ _ (hne 0)]
            exact e
          clear e3 n3 n4 hA4 q0 q1 q2 q3 q4 q5 hb4
          go_upto_region 13 with fail
          rw [← hW5]
          clear hW5 p0 p1 p2 p3 p4 p5 z0 z1 z2 c0 c1 c2
          go_wp2
          go_roundw
          case rel => exact ⟨k + 1, by go_num, by omega, by rw [HST.out], by rw [HNX.out]; exact HV5.out, by rw [HNX.out]; exact HSA.out, HLW.out, HB5.out⟩
          case measure => simp [intOf]; omega
        · have tod : decide (od < 0) = false := by simpa using hlt4
          have hod : ¬ qb + qw < q := fun h => hlt4 (HOD.out.2 h)
          have hbq : qb ≤ q := by
            rcases Nat.eq_zero_or_pos k with h | h
            · rw [HQB.out, h]; exact Rat.le_of_lt hq0
            · have := HLOW.out (k - 1) (by omega)
              rw [Nat.sub_add_cancel h, ← HQB.out] at this
              exact Rat.le_of_lt this
          have HRES := Lib.hid (show fstQ q 0 0 l = b + ((bs (fun z => rchB F x y (z : Int) (wantQ (F, x, y) q qb)) 64 0 F.toNat : Nat) : Int) by
            have hd : l.drop k = (F, x, y) :: l.drop (k + 1) := by
              rw [List.drop_eq_getElem_cons (by omega)]
              congr 1
              have := HXK.out
              rw [List.getElem?_eq_getElem (by omega)] at this
              exact Option.some.inj this
            rw [fstQ_step q l k hk HLOW.out, hd, fstQ, ← HQB.out, ← HQW.out, if_neg hod, ← HBE.out])
          obtain ⟨qn, hqn⟩ : ∃ qn, qn = wantQ (F, x, y) q qb := ⟨_, rfl⟩
          rw [← hqn] at HRES
          have HW2 := Lib.hid (show IntKind.i64.wrap (2 * F) = 2 * F from IntWalk.i64_in _ (by omega))
          have HWF := Lib.hid (fun W => HW.out (2 * F) W (by omega) (by omega))
          have HWB := Lib.hid (fun W => HW.out 1000000000 W (by omega) (by omega))
          have hT4 := T4_4
          have y1 := sz_int (n := 4) (z := 2 * F) (by omega) (sz13 (by omega) (by omega))
          have y2 := sz_int (n := 4) (z := 1000000000) (by omega) (sz13 (by omega) (by omega))
          have y3 := sz_sub HSQ.out HZQ.out
          have HLS := Lib.hid (fun W u v hu hv => rLess_any 1600 u v q qb W (by omega) hu hv HSQ.out (sz_mono HZQ.out (by omega)))
          have HT1 := Lib.hid (fun W u v hu hv => rTimes_any 4 u v _ _ W (by omega) hu hv y1 y2)
          have HT2 := Lib.hid (fun W u v hu hv => rTimes_any 3111 u v (q - qb) (((2 * F : Int) : Rat) * ((1000000000 : Int) : Rat)) W (by omega) hu hv y3 (sz_mono (sz_mul y1 y2) (by omega)))
          have HZN := Lib.hid (show Sz 3119 qn by rw [hqn]; exact sz_mul y3 (sz_mul y1 y2))
          have hqn' : (q - qb) * (((2 * F : Int) : Rat) * ((1000000000 : Int) : Rat)) = qn := hqn.symm
          rw [hqn'] at HT2
          obtain ⟨A3', c3', l3', A4', c4', l4', e3, n3, n4⟩ := HVQ.out.on (below_next HBR.out hb4)
          have HFQB := Lib.hid (show ∀ W, Below w4.heap.size w4 W → FracR W (.agg #[.bool (frS qb), .slice A3' l3'.length c3', .slice A4' l4'.length c4']) qb from fun W hW => ⟨A3', c3', l3', A4', c4', l4', rfl, n3.on hW, n4.on hW⟩)
          have HE3 := Lib.hid e3
          have HKS4 := Lib.hid (show ∀ X, Below w4.heap.size w4 X → (fun X => Below w4.heap.size w4 X ∧ X.cell? ⟨w.heap.size, 0, none⟩ = some (.bool (frS q)) ∧ X.cell? ⟨w.heap.size, 1, none⟩ = some (.slice A3 l3.length c3) ∧ X.cell? ⟨w.heap.size, 2, none⟩ = some (.slice A4 l4.length c4) ∧ X.cell? ⟨w1.heap.size, 0, none⟩ = some (.bool (frS qb)) ∧ X.cell? ⟨w1.heap.size, 1, none⟩ = some (.slice A3' l3'.length c3') ∧ X.cell? ⟨w1.heap.size, 2, none⟩ = some (.slice A4' l4'.length c4') ∧ X.cell? ⟨wr.heap.size, 0, none⟩ = some (.int .i64 F)) X from fun X hX => by
            have e := (hX.block _ (heap_lt HE3.out)).trans HE3.out
            have h5 := (HB4.out.block _ (heap_lt HE5.out)).trans HE5.out
            have e' := (hX.block _ (heap_lt h5)).trans h5
            exact ⟨hX, by rw [cellsAt e']; rfl, by rw [cellsAt e']; rfl, by rw [cellsAt e']; rfl, by rw [cellsAt e]; rfl, by rw [cellsAt e]; rfl, by rw [cellsAt e]; rfl, (HSC.out X (below_next HBC.out (below_next HB3.out (below_next HB4.out hX)))).1⟩)
          obtain ⟨_, p0, p1, p2, p3, p4, p5, p6⟩ := HKS4.out w4 (Below.refl _ _)
          clear hqn hqn' y1 y2 y3 hT4 e3 n3 n4 q0 q1 q2 q3 q4 q5 c0 c1 c2 hod
          go_upto_region 14 with fail
          go_cut [11] from 19 to 79 (fun v wx => ∃ B, v = .pointer (some ⟨B, 0, none⟩) ∧ VarQ wx B qn ∧ Below w4.heap.size w4 wx)
          case first =>
            go_region_held3 (fun X => Below w4.heap.size w4 X ∧ X.cell? ⟨w.heap.size, 0, none⟩ = some (.bool (frS q)) ∧ X.cell? ⟨w.heap.size, 1, none⟩ = some (.slice A3 l3.length c3) ∧ X.cell? ⟨w.heap.size, 2, none⟩ = some (.slice A4 l4.length c4) ∧ X.cell? ⟨w1.heap.size, 0, none⟩ = some (.bool (frS qb)) ∧ X.cell? ⟨w1.heap.size, 1, none⟩ = some (.slice A3' l3'.length c3') ∧ X.cell? ⟨w1.heap.size, 2, none⟩ = some (.slice A4' l4'.length c4') ∧ X.cell? ⟨wr.heap.size, 0, none⟩ = some (.int .i64 F))
              (first
                | exact HKS4.out _ (Below.refl _ w4).drew
                | exact HKS4.out _ ((Below.refl _ w4).alloc (Nat.le_refl _) _).drew
                | (go_split_ands; refine HKS4.out _ (below_next ?_ hb23); assumption)
                | (go_split_ands; refine HKS4.out _ (below_next ?_ hb24); assumption)
                | (go_split_ands; refine HKS4.out _ (below_next ?_ hb25); assumption)
                | (go_split_ands; refine HKS4.out _ (below_next ?_ hb26); assumption)
                | (go_split_ands; refine HKS4.out _ (below_next ?_ hb27); assumption)
                | (go_split_ands; refine HKS4.out _ (below_next ?_ ((Below.refl _ _).alloc (Nat.le_refl _) _)); assumption)
                | (go_split_ands; refine HKS4.out _ (below_realloc (Z := .cells #[.bool false, .slice none 0 0, .slice none 0 0] 39) ?_ (by omega)); assumption)
                | (go_split_ands; exact HKS4.out _ (((Below.setCell (by assumption) (by show w4.heap.size ≤ _; first | exact Nat.le_refl _ | (dsimp only; omega) | omega) _).setCell (by show w4.heap.size ≤ _; first | exact Nat.le_refl _ | (dsimp only; omega) | omega) _).setCell (by show w4.heap.size ≤ _; first | exact Nat.le_refl _ | (dsimp only; omega) | omega) _)))
              (first
                | (go_at_call 52; (with_reducible refine (HLS.out _ _ _ ?_ ?_).mono ?_); exact HFQ.out _ (below_next HB4.out (by go_split_ands; assumption)); exact HFQB.out _ (by go_split_ands; assumption); rintro e w23 ⟨v23, rfl, hv23, hb23⟩; have s23 : w4.heap.size ≤ w23.heap.size := (by first | exact hb23.size | exact Nat.le_trans (Nat.le_of_lt (by simp)) hb23.size | exact Nat.le_trans (Nat.le_succ _) hb23.size))
                | (go_at_call 24; (try rw [HW2.out]); (with_reducible refine (HWF.out _).mono ?_); rintro e w24 ⟨v24, rfl, hv24, hb24⟩; have s24 : w23.heap.size ≤ w24.heap.size := (by first | exact hb24.size | exact Nat.le_trans (Nat.le_of_lt (by simp)) hb24.size | exact Nat.le_trans (Nat.le_succ _) hb24.size); have o24 : ∀ {v : Value} {q : Rat}, FracR w23 v q → FracR w24 v q := (fun h => by first | exact h.on hb24 | exact (h.on ((Below.refl _ _).alloc (Nat.le_refl _) _)).on hb24))
                | (go_at_call 24; (with_reducible refine (HWB.out _).mono ?_); rintro e w25 ⟨v25, rfl, hv25, hb25⟩; have s25 : w24.heap.size ≤ w25.heap.size := (by first | exact hb25.size | exact Nat.le_trans (Nat.le_of_lt (by simp)) hb25.size | exact Nat.le_trans (Nat.le_succ _) hb25.size); have o25 : ∀ {v : Value} {q : Rat}, FracR w24 v q → FracR w25 v q := (fun h => by first | exact h.on hb25 | exact (h.on ((Below.refl _ _).alloc (Nat.le_refl _) _)).on hb25))
                | (go_at_call 23; (with_reducible refine (HT1.out _ v24 v25 ?_ ?_).mono ?_); (first | exact o25 (hv24) | exact FracR.on (o25 (hv24)) ((Below.refl _ _).alloc (Nat.le_refl _) _)); (first | exact hv25 | exact FracR.on (hv25) ((Below.refl _ _).alloc (Nat.le_refl _) _)); rintro e w26 ⟨v26, rfl, hv26, hb26⟩; have s26 : w25.heap.size ≤ w26.heap.size := (by first | exact hb26.size | exact Nat.le_trans (Nat.le_of_lt (by simp)) hb26.size | exact Nat.le_trans (Nat.le_succ _) hb26.size); have o26 : ∀ {v : Value} {q : Rat}, FracR w25 v q → FracR w26 v q := (fun h => by first | exact h.on hb26 | exact (h.on ((Below.refl _ _).alloc (Nat.le_refl _) _)).on hb26))
                | (go_at_call 23; (with_reducible refine (HT2.out _ v23 v26 ?_ ?_).mono ?_); (first | exact o26 (o25 (o24 (hv23))) | exact FracR.on (o26 (o25 (o24 (hv23)))) ((Below.refl _ _).alloc (Nat.le_refl _) _)); (first | exact hv26 | exact FracR.on (hv26) ((Below.refl _ _).alloc (Nat.le_refl _) _)); rintro e w27 ⟨_, rfl, ⟨A7, c7, l7, A8, c8, l8, rfl, h7, h8⟩, hb27⟩; have s27 : w26.heap.size ≤ w27.heap.size := (by first | exact hb27.size | exact Nat.le_trans (Nat.le_of_lt (by simp)) hb27.size | exact Nat.le_trans (Nat.le_succ _) hb27.size); (first | (have HBX := (FBox.on (alloc_at w26 _ _ rfl : FBox (w26.alloc (.cells #[.bool false, .slice none 0 0, .slice none 0 0] 39)) w26.heap.size) hb27)) | (have HBX := (FBox.on (FBox.on (alloc_at w25 _ _ rfl : FBox (w25.alloc (.cells #[.bool false, .slice none 0 0, .slice none 0 0] 39)) w25.heap.size) hb26) hb27)) | (have HBX := (FBox.on (FBox.on (FBox.on (alloc_at w24 _ _ rfl : FBox (w24.alloc (.cells #[.bool false, .slice none 0 0, .slice none 0 0] 39)) w24.heap.size) hb25) hb26) hb27)) | (have HBX := (FBox.on (FBox.on (FBox.on (FBox.on (alloc_at w23 _ _ rfl : FBox (w23.alloc (.cells #[.bool false, .slice none 0 0, .slice none 0 0] 39)) w23.heap.size) hb24) hb25) hb26) hb27)) | (have HBX := (FBox.on (FBox.on (FBox.on (FBox.on (FBox.on (show FBox ((w4.alloc (.cells #[.bool false, .slice none 0 0, .slice none 0 0] 39)).drew) w4.heap.size from alloc_at w4 _ _ rfl) hb23) hb24) hb25) hb26) hb27)) | have HBX := True.intro); (try obtain ⟨p0, p1, p2, z0, z1, z2, hlt⟩ := HBX.facts)))
            all_goals go_wp2_with fail
            all_goals go_meet
            all_goals first
              | exact ⟨_, rfl, varq_set HBX (by simp) h7 h8, by go_split_ands; assumption⟩
              | exact ⟨_, rfl, ⟨A7, c7, l7, A8, c8, l8, alloc_at _ _ _ rfl, h7.on ((Below.refl _ _).alloc (Nat.le_refl _) _), h8.on ((Below.refl _ _).alloc (Nat.le_refl _) _)⟩, by go_split_ands; assumption⟩
          case rest =>
            obtain ⟨B11, rfl, hv11, hbc⟩ := hcut
            have HC4 := Lib.hid (below_next HBC.out (below_next HB3.out (below_next HB4.out hbc)))
            have HCW := Lib.hid (below_next HWX.out (below_next HB8.out HC4.out))
            have HV11 := Lib.hid hv11
            obtain ⟨c0, c1, c2⟩ := HSC.out wc HC4.out
            clear p0 p1 p2 p3 p4 p5 p6 hbc hv11 HKS HKS4
            go_wp2_with fail
            go_quiet (fail)
            go_wp2_with fail
            obtain ⟨wq, hwq⟩ : ∃ wq : World, wq = wc := ⟨_, rfl⟩
            subst hwq
            obtain ⟨wo, hwo⟩ : ∃ z : World, z = wr := ⟨_, rfl⟩
            subst hwo
            go_loopw [12, 13, 14] (fun lov hiv _ wz => ∃ lo hi f : Nat, lov = .int .i64 lo ∧ hiv = .int .i64 hi ∧ lo ≤ hi ∧ hi ≤ F.toNat ∧ hi - lo < 2 ^ f ∧ bs (fun z => rchB F x y (z : Int) qn) 64 0 F.toNat = bs (fun z => rchB F x y (z : Int) qn) f lo hi ∧ Below wq.heap.size wq wz) (fun lov hiv _ _ => (intOf hiv - intOf lov).toNat)
            case atStart => exact ⟨0, F.toNat, 64, rfl, by go_num, Nat.zero_le _, Nat.le_refl _, by omega, rfl, by first | exact Below.refl _ wq | exact below_drewN (Below.refl _ wq) _ | exact below_drewN (below_drewN (Below.refl _ wq) _) _ | exact below_drewN (below_drewN (below_drewN (Below.refl _ wq) _) _) _⟩
            case round =>
              obtain ⟨lo, hi, f, rfl, rfl, hlh, hhF, hf, hbs, hbz⟩ := hrel
              have HBZ := Lib.hid hbz
              have HBS := Lib.hid hbs
              clear c0 c1 c2
              obtain ⟨c0, c1, c2⟩ := HSC.out wr (below_next HC4.out hbz)
              obtain ⟨A5', c5', l5', A6', c6', l6', e11, n11, n12⟩ := HV11.out.on hbz
              have r0 : wr.cell? ⟨B11, 0, none⟩ = some (.bool (frS qn)) := by rw [cellsAt e11]; rfl
              have r1 : wr.cell? ⟨B11, 1, none⟩ = some (.slice A5' l5'.length c5') := by rw [cellsAt e11]; rfl
              have r2 : wr.cell? ⟨B11, 2, none⟩ = some (.slice A6' l6'.length c6') := by rw [cellsAt e11]; rfl
              have HRE := Lib.hid (fun (p : Nat) (hp : p ≤ F.toNat) => r7Reached_any 3119 F x y p _ qn wr (by omega) HSK.out (by omega) (by omega) ⟨A5', c5', l5', A6', c6', l6', rfl, n11, n12⟩ HZN.out)
              clear hbs hbz e11 n11 n12
              by_cases hlt' : lo < hi
              · obtain ⟨mid, hmid⟩ : ∃ mid, mid = (lo + hi) / 2 := ⟨_, rfl⟩
                have hm1 : ((lo : Int) + hi) / 2 = (mid : Int) := by rw [hmid]; omega
                have hm2 : mid < hi := by omega
                have hm3 : lo ≤ mid := by omega
                have t8 : decide ((lo : Int) < (hi : Int)) = true := by simpa using hlt'
                obtain ⟨f', g1, g2, g3⟩ := bs_step (p := fun z => rchB F x y (z : Int) qn) hlt' hf
                rw [← hmid] at g1 g2 g3
                have HRM := Lib.hid (HRE.out mid (by omega))
                obtain ⟨bv, hbv⟩ : ∃ bv, bv = rchB F x y (mid : Int) qn := ⟨_, rfl⟩
                rw [← hbv] at HRM g3
                have HG1 := Lib.hid g1
                have HG2 := Lib.hid g2
                have HG3 := Lib.hid g3
                clear hmid hf g1 g2 g3 hbv
                go_wp2_with fail
                (with_reducible refine HRM.out.mono ?_)
                rintro e w9 ⟨rfl, hb9⟩
                have HB9 := Lib.hid (below_next HBZ.out hb9)
                clear hb9
                cases bv with
                | true =>
                  go_wp2
                  go_roundw
                  case rel => exact ⟨lo, mid, f', rfl, rfl, hm3, by omega, HG2.out, by rw [HBS.out, HG3.out]; simp, HB9.out⟩
                  case measure => simp [intOf]; omega
                | false =>
                  go_wp2
                  go_roundw
                  case rel => exact ⟨mid + 1, hi, f', by go_num, rfl, by omega, hhF, HG1.out, by rw [HBS.out, HG3.out]; simp, HB9.out⟩
                  case measure => simp [intOf]; omega
              · have t8 : decide ((lo : Int) < (hi : Int)) = false := by simpa using hlt'
                have HEQ := Lib.hid (show bs (fun z => rchB F x y (z : Int) qn) 64 0 F.toNat = lo by rw [HBS.out, bs_end hlt'])
                clear hf
                go_wp2
                go_ret
                exact ⟨by rw [HRES.out, HEQ.out]; rfl, below_next HCW.out HBZ.out⟩
    · have tl : decide (k < l.length) = false := by simpa using hlt
      have tl' : decide ((k : Int) < (l.length : Int)) = false := by simpa using hlt
      have HQ := Lib.hid (show fstQ q 0 0 l = -1 by
        rw [fstQ_step q l k hk HLOW.out, List.drop_eq_nil_of_le (by omega)]; rfl)
      go_wp2
      go_ret
      exact ⟨by rw [HQ.out]; rfl, HWX.out⟩
end Go.Proofs.YtkoodmoilfgafaaGreatDoor
