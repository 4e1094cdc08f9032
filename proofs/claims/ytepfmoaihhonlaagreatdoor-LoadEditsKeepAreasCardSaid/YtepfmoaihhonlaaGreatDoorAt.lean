/- Package load: at, before. -/
import Derived.Test.YtepfmoaihhonlaaGreatDoorArea
namespace Go.Proofs.YtepfmoaihhonlaaGreatDoor
open Go Go.RowKit Go.Proofs

theorem frac_store {wD : World} {B : Nat} {t : TypeId} {A : Option Addr} {c : Nat} {l : List Nat} {x : Nat} (u0 u1 : Value) (hRB : wD.heap[B]? = some (.cells #[.slice none 0 0, .slice none 0 0] t (0, 0))) (h : NatR wD A c l x) : NatR ((wD.setCell ⟨B, 0, none⟩ u0).setCell ⟨B, 1, none⟩ u1) A c l x := by
  have hf : Fr (fun i => i = B) wD ((wD.setCell ⟨B, 0, none⟩ u0).setCell ⟨B, 1, none⟩ u1) := ((Fr.refl (fun i => i = B) wD).setCell (fun _ => rfl) _).setCell (fun _ => rfl) _
  exact h.keep hf.size (fun b o e hb hl => hf.block b hb (h.apart hRB (by intro v hv z; simp at hv; rw [hv]; intro e; cases e) b o e hl))
theorem stgs_ne {l : List (Int × Int × Int)} (h : OkL l) : stgs l ≠ [] := by
  intro e
  have h0 := h.ne
  have h1 : (stgs l).length = l.length := by simp [stgs]
  rw [e] at h1
  rw [← h1] at h0
  exact absurd h0 (by simp)
theorem stIx_le : ∀ (l : List Stg) (t : Nat), (stIx l t).2 ≤ t
  | [], _ => Nat.le_refl _
  | [_], _ => Nat.le_refl _
  | s :: s' :: r, t => by
    unfold stIx
    split
    · exact Nat.le_refl _
    · have := stIx_le (s' :: r) (t - s.F); simp only; omega
/-- the place of a time -/
abbrev place (l : List (Int × Int × Int)) (t : Nat) : Nat × Stg × Nat := loc 0 (stgs l) t

set_option maxHeartbeats 2000000 in
set_option maxRecDepth 100000 in
theorem at_any (P : Nat) (A : Option Addr) (c : Nat) (l : List (Int × Int × Int)) (t : Nat) (w : World) (hL : LineR w P A c l) (hok : OkL l) (ht : t ≤ 9223372036854775807) :
    Calls Tryz.prog 68 #[.pointer (some ⟨P, 0, none⟩), .int .i64 t] w fun e w' => ∃ A1 c1 l1 A2 c2 l2, e = .returned (.agg #[.slice A1 l1.length c1, .slice A2 l2.length c2]) ∧
      NatR w' A1 c1 l1 ((place l t).2.1.num (place l t).1 (place l t).2.2) ∧ NatR w' A2 c2 l2 (place l t).2.1.den ∧ Below w.heap.size w w' := by
  have hne := stgs_ne hok
  obtain ⟨s, hs1, hs2⟩ := loc_stIx (stgs l) 0 t hne
  obtain ⟨i, hi⟩ : ∃ i, i = (stIx (stgs l) t).1 := ⟨_, rfl⟩
  obtain ⟨x, hx⟩ : ∃ x, x = (stIx (stgs l) t).2 := ⟨_, rfl⟩
  have hSA := fun (W : World) (hb : Below w.heap.size w W) => stageAt_any A c l t W (hL.on hb).st hok ht
  rw [← hi] at hs1
  rw [← hi, ← hx, Nat.zero_add] at hs2
  simp only [← hi, ← hx] at hSA
  have hil : i < l.length := by have := (List.getElem?_eq_some_iff.1 hs1).1; simpa [stgs] using this
  obtain ⟨bk, ok, F, y, z, hA, _, hbk, hs, q0, q1, q2⟩ := hL.st.at3 hil
  subst hA
  have hse : s = toStg (F, y, z) := by unfold stgs at hs1; rw [List.getElem?_map, hs] at hs1; simpa using hs1.symm
  subst hse
  have hS := hok.ok _ (List.mem_of_getElem? hs)
  unfold OkS at hS
  simp only at hS
  have hxt : x ≤ t := by rw [hx]; exact stIx_le _ _
  obtain ⟨m, hm⟩ : ∃ m, m = min x F.toNat := ⟨_, rfl⟩
  have hmin : min (x : Int) F = (m : Int) := by rw [hm]; omega
  have HPL := Lib.hid (show place l t = (sumP ((stgs l).take i), toStg (F, y, z), m) by unfold place; rw [hs2, hm]; rfl)
  have HAR := Lib.hid (fun (W : World) (hb : Below w.heap.size w W) => area_any P (some ⟨bk, ok, none⟩) c l i m W (hL.on hb) hok F y z hs (by omega))
  have HSA := Lib.hid hSA
  obtain ⟨v1, v2, A1, c1, A2, c2, rfl, rfl, hbox, _⟩ := hL.ex
  have hPl := hL.lt
  have hle := hok.le
  obtain ⟨W0, hW0⟩ : ∃ W0, W0 = w.alloc (.cells #[.slice none 0 0, .slice none 0 0] 98) := ⟨_, rfl⟩
  have HST0 := Lib.hid (show St w W0 [(w.heap.size, .cells #[.slice none 0 0, .slice none 0 0] 98 (0, 0))] by rw [hW0]; exact (St.start w).alloc _ _ rfl)
  have k00 : w.cell? ⟨P, 0, none⟩ = some (.slice (some ⟨bk, ok, none⟩) l.length c) := by rw [cellsAt hbox]; rfl
  have k0 : W0.cell? ⟨P, 0, none⟩ = some (.slice (some ⟨bk, ok, none⟩) l.length c) := by rw [(HST0.out.below.cell (p := ⟨P, 0, none⟩) hPl), cellsAt hbox]; rfl
  have kF : W0.cell? ⟨bk, ok + i * 3, none⟩ = some (.int .i64 F) := by rw [HST0.out.below.cell (p := ⟨bk, ok + i * 3, none⟩) hbk]; exact q0
  have hii : (i : Int) < (l.length : Int) := by omega
  have hii0 : (0 : Int) ≤ (i : Int) := by omega
  clear hs1 hs2 hi hx hSA hs q0 q1 q2 hm hL hok hbox hne
  go_enter Tryz.func68, Tryz.ntmps68
  go_wp2_with fail
  rw [← hW0]
  clear hW0
  refine (HSA.out W0 HST0.out.below).mono ?_
  rintro e w' ⟨rfl, rfl⟩
  go_wp2_with fail
  refine (HAR.out W0 HST0.out.below).mono ?_
  rintro e w2 ⟨A3, c3, l3, A4, c4, l4, rfl, hn3, hn4, hb2⟩
  have hRB := (HST0.out.call hb2).at 0 rfl
  have r0 := (HST0.out.call hb2).cell 0 0 rfl rfl
  have r1 := (HST0.out.call hb2).cell 0 1 rfl rfl
  have z0 := (HST0.out.call hb2).frozen 0 0 rfl
  have z1 := (HST0.out.call hb2).frozen 0 1 rfl
  have HFIN := Lib.hid (And.intro (frac_store (.slice A3 l3.length c3) (.slice A4 l4.length c4) hRB hn3) (And.intro (frac_store (.slice A3 l3.length c3) (.slice A4 l4.length c4) hRB hn4) (((HST0.out.call hb2).below.setCell (p := ⟨w.heap.size, 0, none⟩) (Nat.le_refl _) (.slice A3 l3.length c3)).setCell (p := ⟨w.heap.size, 1, none⟩) (Nat.le_refl _) (.slice A4 l4.length c4))))
  clear hn3 hn4 hb2 hRB
  go_wp2
  refine bodyPost_ret (v := .agg #[.slice A3 l3.length c3, .slice A4 l4.length c4]) ?_ rfl ⟨A3, c3, l3, A4, c4, l4, rfl, ?_, ?_, HFIN.out.2.2⟩
  · simp [results, Tryz.results68, go_sem, r0, r1]
  · rw [HPL.out]; exact HFIN.out.1
  · rw [HPL.out]; exact HFIN.out.2.1

theorem loc_in {l : List Stg} (P : Stg → Prop) (hl : ∀ s ∈ l, P s) : ∀ (ah t : Nat), l ≠ [] → P (loc ah l t).2.1 ∧ (loc ah l t).2.2 ≤ (loc ah l t).2.1.F ∧ (loc ah l t).1 + (loc ah l t).2.1.parts ≤ ah + sumP l := by
  induction l with
  | nil => intro _ _ h; exact absurd rfl h
  | cons s r ih =>
    intro ah t _
    cases r with
    | nil => unfold loc; exact ⟨hl s (by simp), Nat.min_le_right _ _, by simp [sumP]⟩
    | cons s' r =>
      unfold loc
      split
      · exact ⟨hl s (by simp), by simp only; omega, by simp [sumP]⟩
      · have := ih (fun x hx => hl x (by simp at hx ⊢; right; exact hx)) (ah + s.parts) (t - s.F) (by simp)
        refine ⟨this.1, this.2.1, ?_⟩
        have e : sumP (s :: s' :: r) = s.parts + sumP (s' :: r) := by simp [sumP]
        rw [e]; omega
theorem upto_small {l : List (Int × Int × Int)} (hok : OkL l) (t : Nat) : upto (place l t) ≤ 100000000000000 ∧ 0 < (place l t).2.1.F ∧ (place l t).2.1.den < W64 ^ 4 ∧ (place l t).2.1.num (place l t).1 (place l t).2.2 < W64 ^ 4 := by
  have hne := stgs_ne hok
  have hF : ∀ s ∈ stgs l, 0 < s.F ∧ s.F ≤ 100000000000 := by
    intro s hs
    unfold stgs at hs
    obtain ⟨q, hq, rfl⟩ := List.mem_map.1 hs
    have := hok.ok q hq
    unfold OkS at this
    simp only [toStg]; omega
  have hl := loc_in (fun s => 0 < s.F ∧ s.F ≤ 100000000000) hF 0 t hne
  rw [show loc 0 (stgs l) t = place l t from rfl] at hl
  have hsum := sumP_le hok.ok
  have hle := hok.le
  have h4 := Nat.mul_le_mul_right 200000000000000000000 hle
  obtain ⟨⟨h1, h1b⟩, h2, h3⟩ := hl
  have hnum : (place l t).2.1.num (place l t).1 (place l t).2.2 ≤ 10000000000000000000000 * (place l t).2.1.F := by
    have a1 := num_mono (place l t).1 (place l t).2.1 h2 (Nat.le_refl _)
    rw [num_end] at a1
    have a2 := Nat.mul_le_mul_right (place l t).2.1.F (show (place l t).1 + (place l t).2.1.parts ≤ 10000000000000000000000 by omega)
    omega
  obtain ⟨Fp, hFp⟩ : ∃ f, f = (place l t).2.1.F := ⟨_, rfl⟩
  have hden : (place l t).2.1.den = 2 * Fp * 1000000000 := by unfold Stg.den; rw [hFp]
  rw [← hFp] at hnum
  have hFp1 : 0 < Fp := by rw [hFp]; exact h1
  have hFp2 : Fp ≤ 100000000000 := by rw [hFp]; exact h1b
  have hW : W64 ^ 4 = 115792089237316195423570985008687907853269984665640564039457584007913129639936 := by unfold W64; rfl
  refine ⟨?_, h1, by rw [hden, hW]; omega, by rw [hW]; omega⟩
  unfold upto
  rw [hden]
  refine Nat.div_le_of_le_mul ?_
  omega

set_option maxHeartbeats 2000000 in
set_option maxRecDepth 100000 in
theorem before_any (P : Nat) (A : Option Addr) (c : Nat) (l : List (Int × Int × Int)) (t : Nat) (w : World) (hL : LineR w P A c l) (hok : OkL l) (ht : t ≤ 9223372036854775807) :
    Calls Tryz.prog 140 #[.pointer (some ⟨P, 0, none⟩), .int .i64 t] w fun e w' => e = .returned (.int .i64 (((if t = 0 then 0 else upto (place l (t - 1))) : Nat) : Int)) ∧ Below w.heap.size w w' := by
  rcases Nat.eq_zero_or_pos t with h0 | h0
  · subst h0
    go_enter Tryz.func140, Tryz.ntmps140
    go_wp2
    go_ret
    exact ⟨rfl, Below.refl _ _⟩
  · rw [if_neg (by omega)]
    have t0 : ((t : Int) == 0) = false := by simp; omega
    have HAT := Lib.hid (show Calls Tryz.prog 68 #[.pointer (some ⟨P, 0, none⟩), .int .i64 ((t : Int) - 1)] w _ from by have := at_any P A c l (t - 1) w hL hok (by omega); rwa [show ((t - 1 : Nat) : Int) = (t : Int) - 1 by omega] at this)
    obtain ⟨hu, hF, hden, hnum⟩ := upto_small hok (t - 1)
    obtain ⟨p, hp⟩ : ∃ p, p = place l (t - 1) := ⟨_, rfl⟩
    simp only [← hp] at HAT hu hF hden hnum ⊢
    clear hp hL hok
    have hdp : 0 < p.2.1.den := by unfold Stg.den; omega
    go_enter Tryz.func140, Tryz.ntmps140
    go_wp2_with fail
    refine HAT.out.mono ?_
    rintro e w1 ⟨A3, c3, l3, A4, c4, l4, rfl, hn3, hn4, hb1⟩
    have HB1 := Lib.hid hb1
    have hl3 := small_len hn3 (by have := W9a; omega)
    have hl4 := small_len hn4 (by have := W9a; omega)
    obtain ⟨W1, hW1⟩ : ∃ W1, W1 = w1.alloc (.cells #[.slice A3 l3.length c3, .slice A4 l4.length c4] 98) := ⟨_, rfl⟩
    have hbW1 : Below w1.heap.size w1 W1 := by rw [hW1]; exact (Below.refl _ w1).alloc (Nat.le_refl _) _
    have hbx : W1.heap[w1.heap.size]? = some (.cells #[.slice A3 l3.length c3, .slice A4 l4.length c4] 98 (0, 0)) := by rw [hW1]; exact alloc_at _ _ _ rfl
    have HN3 := Lib.hid (hn3.on hbW1)
    have HN4 := Lib.hid (hn4.on hbW1)
    have HBW1 := Lib.hid hbW1
    have HFACT := Lib.hid (show ∀ X, Below W1.heap.size W1 X → Below W1.heap.size W1 X ∧ X.cell? ⟨w1.heap.size, 0, none⟩ = some (.slice A3 l3.length c3) ∧ X.cell? ⟨w1.heap.size, 1, none⟩ = some (.slice A4 l4.length c4) from fun X hX => by
      have b2 := (hX.block _ (heap_lt hbx)).trans hbx
      exact ⟨hX, by rw [cellsAt b2]; rfl, by rw [cellsAt b2]; rfl⟩)
    have HS1 := Lib.hid (fun (X : World) (hX : Below W1.heap.size W1 X) => natShl_any A3 c3 l3 _ 1 X (HN3.out.on hX) (by omega) (by omega))
    have HS2 := Lib.hid (fun (X : World) (hX : Below W1.heap.size W1 X) => natShl_any A4 c4 l4 _ 1 X (HN4.out.on hX) (by omega) (by omega))
    have HAD := Lib.hid (fun (X : World) A5 c5 l5 (hX : Below W1.heap.size W1 X) (h5 : NatR X A5 c5 l5 (p.2.1.num p.1 p.2.2 * 2 ^ 1)) => natAdd_any A5 A4 c5 c4 l5 l4 _ _ X h5 (HN4.out.on hX) (by have := small_len h5 (by have := W9a; omega); omega) (by omega))
    have HDM := Lib.hid (fun (X : World) A5 c5 l5 A6 c6 l6 (h5 : NatR X A5 c5 l5 (p.2.1.num p.1 p.2.2 * 2 ^ 1 + p.2.1.den)) (h6 : NatR X A6 c6 l6 (p.2.1.den * 2 ^ 1)) => natDivMod_any A5 A6 c5 c6 l5 l6 _ _ X h5 h6 (by have := small_len h5 (by have := W9a; omega); omega) (by have := small_len h6 (by have := W9a; omega); omega) (by omega))
    clear hn3 hn4 hb1 hbW1 hbx
    go_wp2_with fail
    rw [← hW1]
    clear hW1
    obtain ⟨f0, f1, f2⟩ := HFACT.out W1 (Below.refl _ W1)
    go_region_held3 (fun X => Below W1.heap.size W1 X ∧ X.cell? ⟨w1.heap.size, 0, none⟩ = some (.slice A3 l3.length c3) ∧ X.cell? ⟨w1.heap.size, 1, none⟩ = some (.slice A4 l4.length c4))
      (first
        | exact HFACT.out _ (Below.refl _ W1).drew
        | (go_split_ands; refine HFACT.out _ (below_next ?_ hbD); assumption)
        | (go_split_ands; refine HFACT.out _ (below_next ?_ hbT); assumption)
        | (go_split_ands; refine HFACT.out _ (below_next ?_ hbA); assumption)
        | (go_split_ands; refine HFACT.out _ (below_next ?_ hbS); assumption))
      (first
        | (go_at_call_of 169 (Value.slice A3 l3.length c3); refine (HS1.out _ ?_).mono ?_; (go_split_ands; assumption); rintro e wS ⟨AS, cS, lS, rfl, hnS, hbS⟩)
        | (go_at_call 61; refine (HAD.out _ AS cS lS ?_ hnS).mono ?_; (go_split_ands; assumption); rintro e wA ⟨AA, cA, lA, rfl, hnA, hbA⟩)
        | (go_at_call_of 169 (Value.slice A4 l4.length c4); refine (HS2.out _ ?_).mono ?_; (go_split_ands; assumption); rintro e wT ⟨AT, cT, lT, rfl, hnT, hbT⟩)
        | (go_at_call 136; refine (HDM.out _ AA cA lA AT cT lT (hnA.on hbT) hnT).mono ?_; rintro e wD ⟨AD, cD, lD, AE, cE, lE, rfl, hnD, hnE, hbD⟩))
    all_goals
      have hbe : Below W1.heap.size W1 wD := by go_split_ands; assumption
      have hq : (p.2.1.num p.1 p.2.2 * 2 ^ 1 + p.2.1.den) / (p.2.1.den * 2 ^ 1) = upto p := by unfold upto; rfl
      rw [hq] at hnD
      have HIN := Lib.hid (natInt_any AD cD lD (upto p) wD hnD (by have := small_len hnD (by have := W9a; have : W64 ^ 4 = 115792089237316195423570985008687907853269984665640564039457584007913129639936 := by { unfold W64; rfl }; omega); omega) (by omega))
      have HBE := Lib.hid (below_next HB1.out (below_next HBW1.out hbe))
      clear hnD hnE hnS hnA hnT hbe hq
      go_wp2_with fail
      refine HIN.out.mono ?_
      rintro e w' ⟨rfl, rfl⟩
      go_wp2
      go_ret
      exact ⟨rfl, HBE.out⟩
end Go.Proofs.YtepfmoaihhonlaaGreatDoor
