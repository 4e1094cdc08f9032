import Derived.Test.YtnapdhfkgfjjfaaGreatDoorG31
import Derived.Test.YtnapdhfkgfjjfaaGreatDoorR10Tr4
import Derived.Test.YtnapdhfkgfjjfaaGreatDoorR10Tr5
import Derived.Test.YtnapdhfkgfjjfaaGreatDoorCards
import Derived.Test.YtnapdhfkgfjjfaaGreatDoorTie
import Derived.Test.YtnapdhfkgfjjfaaGreatDoorG42
import Derived.Test.YtnapdhfkgfjjfaaGreatDoorG23
import Derived.Lay
import Derived.WalkKit
import Derived.ProofKit
import Derived.OpenShut
import Derived.Deep.DeepHandedRow
import Derived.Lib.LaidTab
/- JudgeTrialMatchesSpec: the law's walk. Printed by gen_lawtrl.py. -/
namespace Go.Proofs.YtnapdhfkgfjjfaaGreatDoor
open Go Go.RowKit Go.Proofs

theorem jgV_form (L : List (ByteArray × ByteArray)) (p q r0 r1 : Rat) (l : List Bool) : ∃ a b c : Int, jgV L p q r0 r1 l = .tuple #[.int .i64 a, .int .i64 b, .int .i64 c] := by
  unfold jgV
  split
  · exact ⟨_, _, _, rfl⟩
  · exact ⟨_, _, _, rfl⟩
theorem calls_some {P : Program} {f : FuncId} {args : Array Value} {w : World} {R : Ending → World → Prop} (h : Calls P f args w R) : ∃ e w', R e w' := by
  obtain ⟨e, w', _, r, _⟩ := h []
  exact ⟨e, w', r⟩
/-- both sides' bounds are the same values -/
theorem bnd_same {L : List (ByteArray × ByteArray)} {p q r0 r1 : Rat} {n : Int} : ∃ a b c : Int, (∀ w e w', BndPost L p q r0 r1 n w e w' → e = .returned (.tuple #[.int .i64 a, .int .i64 b, .int .i64 c]) ∧ Below w.heap.size w w') ∨ (∀ w e w', ¬ BndPost L p q r0 r1 n w e w') := by
  by_cases h : bnC L p q n = 0
  · by_cases hx : ∃ a b : Int, LoAt p q r1 n.toNat a ∧ HiAt p q r0 n.toNat b
    · obtain ⟨a, b, ha, hb⟩ := hx
      refine ⟨a, b, 0, .inl fun w e w' hh => ?_⟩
      rcases hh with ⟨h1, _⟩ | ⟨_, a', b', rfl, ha', hb', hbl⟩
      · exact absurd h h1
      · rw [ha'.uniq ha, hb'.uniq hb]; exact ⟨rfl, hbl⟩
    · refine ⟨0, 0, 0, .inr fun w e w' hh => ?_⟩
      rcases hh with ⟨h1, _⟩ | ⟨_, a', b', _, ha', hb', _⟩
      · exact h1 h
      · exact hx ⟨a', b', ha', hb'⟩
  · refine ⟨0, 0, bnC L p q n, .inl fun w e w' hh => ?_⟩
    rcases hh with ⟨_, h2, h3⟩ | ⟨h1, _⟩
    · exact ⟨h2, h3⟩
    · exact absurd h1 h
set_option maxHeartbeats 8000000 in
set_option maxRecDepth 100000 in
theorem lawTrl_any (S0 S1 S2 S3 S4 S5 S6 S7 : ByteArray) (n : Int) (A : Option Addr) (c : Nat) (l : List Bool) (w : World) (htab : Tab w.heap.size w) (z0 : S0.size ≤ 9223372036854775800) (z1 : S1.size ≤ 9223372036854775800) (z2 : S2.size ≤ 9223372036854775800) (z3 : S3.size ≤ 9223372036854775800) (z4 : S4.size ≤ 9223372036854775800) (z5 : S5.size ≤ 9223372036854775800) (z6 : S6.size ≤ 9223372036854775800) (z7 : S7.size ≤ 9223372036854775800) (hrd : Rd w 0 w.heap.size 1 A l.length (bls l)) (hlm : l.length ≤ 9223372036854775807) :
    Calls Tryz.prog 8 #[.agg #[.string S0, .string S1, .string S2, .string S3, .string S4, .string S5, .string S6, .string S7], .int .i64 n, .slice A l.length c] w fun e w' => e = .returned (.bool true) ∧ Below w.heap.size w w' := by
  have HH := Lib.hid (fun W (hW : Below w.heap.size w W) => halves_any W ((htab.on hW).mono hW.size))
  have HJJ := Lib.hid (fun W (hW : Below w.heap.size w W) => jJudge_any S0 S1 S2 S3 S4 S5 S6 S7 A c l W z0 z1 z2 z3 z4 z5 z6 z7 (hrd.old hW) hlm)
  have HRJ := Lib.hid (fun W (hW : Below w.heap.size w W) => rJudge_any S0 S1 S2 S3 S4 S5 S6 S7 A c l W z0 z1 z2 z3 z4 z5 z6 z7 (hrd.old hW) hlm)
  have HCJ := Lib.hid (fun W => jCheckTrial_any S0 S1 S2 S3 S4 S5 S6 S7 W z0 z1 z2 z3 z4 z5 z6 z7)
  have HCR := Lib.hid (fun W => rCheckTrial_any S0 S1 S2 S3 S4 S5 S6 S7 W z0 z1 z2 z3 z4 z5 z6 z7)
  have HBJ := Lib.hid (fun W => jBoundsP_any S0 S1 S2 S3 S4 S5 S6 S7 n W z0 z1 z2 z3 z4 z5 z6 z7)
  have HBR := Lib.hid (fun W => rBoundsP_any S0 S1 S2 S3 S4 S5 S6 S7 n W z0 z1 z2 z3 z4 z5 z6 z7)
  obtain ⟨L, hL⟩ : ∃ L, L = TL S0 S1 S2 S3 S4 S5 S6 S7 := ⟨_, rfl⟩
  obtain ⟨p, hp⟩ : ∃ q, q = prQ (S0, S1) := ⟨_, rfl⟩
  obtain ⟨q, hq⟩ : ∃ r, r = prQ (S2, S3) := ⟨_, rfl⟩
  obtain ⟨r0, hr0⟩ : ∃ q, q = prQ (S4, S5) := ⟨_, rfl⟩
  obtain ⟨r1, hr1⟩ : ∃ q, q = prQ (S6, S7) := ⟨_, rfl⟩
  rw [← hL, ← hp, ← hq, ← hr0, ← hr1] at HJJ HRJ HBJ HBR
  rw [← hL, ← hp, ← hq] at HCJ HCR
  obtain ⟨C, hC⟩ : ∃ C, C = trCode L p q := ⟨_, rfl⟩
  rw [← hC] at HCJ HCR
  obtain ⟨v1, v2, v3, hv⟩ := jgV_form L p q r0 r1 l
  rw [hv] at HJJ HRJ
  obtain ⟨a, b, d, hbs⟩ := bnd_same (L := L) (p := p) (q := q) (r0 := r0) (r1 := r1) (n := n)
  rcases hbs with hbs | hbs
  · have HBS := Lib.hid hbs
    have HBJ2 := Lib.hid (fun W => (HBJ.out W).mono (R' := fun e w' => e = .returned (.tuple #[.int .i64 a, .int .i64 b, .int .i64 d]) ∧ Below W.heap.size W w') fun e w' h => HBS.out W e w' h)
    have HBR2 := Lib.hid (fun W => (HBR.out W).mono (R' := fun e w' => e = .returned (.tuple #[.int .i64 a, .int .i64 b, .int .i64 d]) ∧ Below W.heap.size W w') fun e w' h => HBS.out W e w' h)
    obtain ⟨W0, hW0⟩ : ∃ W0, W0 = w.alloc (.cells #[.string S0, .string S1, .string S2, .string S3, .string S4, .string S5, .string S6, .string S7] 36) := ⟨_, rfl⟩
    have HST0 := Lib.hid (show St w W0 [(w.heap.size, .cells #[.string S0, .string S1, .string S2, .string S3, .string S4, .string S5, .string S6, .string S7] 36 (0, 0))] by rw [hW0]; exact (St.start w).alloc _ _ rfl)
    have HK := Lib.hid (show ∀ X, Below W0.heap.size W0 X → X.cell? ⟨w.heap.size, 0, none⟩ = some (.string S0) ∧ X.cell? ⟨w.heap.size, 1, none⟩ = some (.string S1) ∧ X.cell? ⟨w.heap.size, 2, none⟩ = some (.string S2) ∧ X.cell? ⟨w.heap.size, 3, none⟩ = some (.string S3) ∧ X.cell? ⟨w.heap.size, 4, none⟩ = some (.string S4) ∧ X.cell? ⟨w.heap.size, 5, none⟩ = some (.string S5) ∧ X.cell? ⟨w.heap.size, 6, none⟩ = some (.string S6) ∧ X.cell? ⟨w.heap.size, 7, none⟩ = some (.string S7) from fun X hX => ⟨(HST0.out.call hX).cell 0 0 rfl rfl, (HST0.out.call hX).cell 0 1 rfl rfl, (HST0.out.call hX).cell 0 2 rfl rfl, (HST0.out.call hX).cell 0 3 rfl rfl, (HST0.out.call hX).cell 0 4 rfl rfl, (HST0.out.call hX).cell 0 5 rfl rfl, (HST0.out.call hX).cell 0 6 rfl rfl, (HST0.out.call hX).cell 0 7 rfl rfl⟩)
    obtain ⟨p0, p1, p2, p3, p4, p5, p6, p7⟩ := HK.out W0 (Below.refl _ _)
    clear hL hp hq hr0 hr1 hC hv hbs HBS HBJ HBR htab hrd z0 z1 z2 z3 z4 z5 z6 z7
    go_enter Tryz.func8, Tryz.ntmps8
    go_wp2_with fail
    rw [← hW0]
    clear hW0
    (with_reducible refine (HBJ2.out _).mono ?_)
    rintro e w1 ⟨rfl, hb1⟩
    have HB1 := Lib.hid hb1
    clear hb1 p0 p1 p2 p3 p4 p5 p6 p7
    obtain ⟨p0, p1, p2, p3, p4, p5, p6, p7⟩ := HK.out _ HB1.out
    go_wp2_with fail
    (with_reducible refine (HBR2.out _).mono ?_)
    rintro e w2 ⟨rfl, hb2⟩
    have HB2 := Lib.hid (below_next HB1.out hb2)
    have HKS := Lib.hid (show ∀ X, Below w2.heap.size w2 X → (fun X => Below w2.heap.size w2 X ∧ X.cell? ⟨w.heap.size, 0, none⟩ = some (.string S0) ∧ X.cell? ⟨w.heap.size, 1, none⟩ = some (.string S1) ∧ X.cell? ⟨w.heap.size, 2, none⟩ = some (.string S2) ∧ X.cell? ⟨w.heap.size, 3, none⟩ = some (.string S3) ∧ X.cell? ⟨w.heap.size, 4, none⟩ = some (.string S4) ∧ X.cell? ⟨w.heap.size, 5, none⟩ = some (.string S5) ∧ X.cell? ⟨w.heap.size, 6, none⟩ = some (.string S6) ∧ X.cell? ⟨w.heap.size, 7, none⟩ = some (.string S7)) X from fun X hX => ⟨hX, HK.out X (below_next HB2.out hX)⟩)
    clear hb2 p0 p1 p2 p3 p4 p5 p6 p7
    go_wp2_with fail
    refine wp_region_noPanic ?_
    refine wp_region_held_drew (S := (fun X => Below w2.heap.size w2 X ∧ X.cell? ⟨w.heap.size, 0, none⟩ = some (.string S0) ∧ X.cell? ⟨w.heap.size, 1, none⟩ = some (.string S1) ∧ X.cell? ⟨w.heap.size, 2, none⟩ = some (.string S2) ∧ X.cell? ⟨w.heap.size, 3, none⟩ = some (.string S3) ∧ X.cell? ⟨w.heap.size, 4, none⟩ = some (.string S4) ∧ X.cell? ⟨w.heap.size, 5, none⟩ = some (.string S5) ∧ X.cell? ⟨w.heap.size, 6, none⟩ = some (.string S6) ∧ X.cell? ⟨w.heap.size, 7, none⟩ = some (.string S7))) (by kernel_rfl) (HKS.out _ (Below.refl _ w2).drew) (fun HS0 => ?_)
    have hbx0 : Below w2.heap.size w2 w2.drew := (Below.refl _ _).drew
    obtain ⟨Xx0, hXx0⟩ : ∃ X, X = w2.drew := ⟨_, rfl⟩
    rw [← hXx0] at hbx0 HS0 ⊢
    have HBx0 := Lib.hid hbx0
    clear hbx0 hXx0
    refine wpAnyH_take (i := 0) (v := ?_) rfl (by kernel_rfl) (by kernel_rfl) (by kernel_rfl) (fun _ _ _ h => h) (Or.inl ⟨by rfl, ?_⟩) HS0 ?_
    rotate_left
    · intro W hW; (try dsimp only at hW); go_simp; try (with_reducible rfl)
    (try simp only [List.getElem_toArray, List.getElem_cons_succ, List.getElem_cons_zero, Act.put, List.setIfInBounds_toArray, List.set_cons_zero, List.set_cons_succ])
    refine wpAnyH_take (i := 2) (v := ?_) rfl (by kernel_rfl) (by kernel_rfl) (by kernel_rfl) (fun _ _ _ h => h) (Or.inl ⟨by rfl, ?_⟩) HS0 ?_
    rotate_left
    · intro W hW; (try dsimp only at hW); go_simp; try (with_reducible rfl)
    (try simp only [List.getElem_toArray, List.getElem_cons_succ, List.getElem_cons_zero, Act.put, List.setIfInBounds_toArray, List.set_cons_zero, List.set_cons_succ])
    clear HS0
    refine run_one (i := 1) (by kernel_rfl) rfl rfl ?_
    intro K hK
    go_simp
    (with_reducible refine (HCJ.out Xx0).mono ?_)
    rintro e Xx1 ⟨rfl, hbx1⟩
    have HBx1 := Lib.hid (below_next (HBx0.out) hbx1)
    refine hK.out _ _ (HKS.out _ HBx1.out) ?_
    clear hK K
    intro _
    (try simp only [List.getElem_toArray, List.getElem_cons_succ, List.getElem_cons_zero, Act.put, List.setIfInBounds_toArray, List.set_cons_zero, List.set_cons_succ])
    refine run_one (i := 3) (by kernel_rfl) rfl rfl ?_
    intro K hK
    go_simp
    (with_reducible refine (HCR.out Xx1).mono ?_)
    rintro e Xx2 ⟨rfl, hbx2⟩
    have HBx2 := Lib.hid (below_next (HBx1.out) hbx2)
    refine hK.out _ _ (HKS.out _ HBx2.out) ?_
    clear hK K
    intro _
    (try simp only [List.getElem_toArray, List.getElem_cons_succ, List.getElem_cons_zero, Act.put, List.setIfInBounds_toArray, List.set_cons_zero, List.set_cons_succ])
    have HS0 := HKS.out _ (HBx2.out)
    refine wpAnyH_take (i := 4) (v := ?_) rfl (by kernel_rfl) (by kernel_rfl) (by kernel_rfl) (fun _ _ _ h => h) (Or.inl ⟨by rfl, ?_⟩) HS0 ?_
    rotate_left
    · intro W hW; (try dsimp only at hW); go_simp; try (with_reducible rfl)
    (try simp only [List.getElem_toArray, List.getElem_cons_succ, List.getElem_cons_zero, Act.put, List.setIfInBounds_toArray, List.set_cons_zero, List.set_cons_succ])
    clear HS0
    have HS0 := HKS.out _ (HBx2.out)
    refine wpAnyH_take (i := 5) (v := ?_) rfl (by kernel_rfl) (by kernel_rfl) (by kernel_rfl) (fun _ _ _ h => h) (Or.inl ⟨by rfl, ?_⟩) HS0 ?_
    rotate_left
    · intro W hW; (try dsimp only at hW); go_simp; try (with_reducible rfl)
    (try simp only [List.getElem_toArray, List.getElem_cons_succ, List.getElem_cons_zero, Act.put, List.setIfInBounds_toArray, List.set_cons_zero, List.set_cons_succ])
    clear HS0
    have HS0 := HKS.out _ (HBx2.out)
    refine wpAnyH_take (i := 6) (v := ?_) rfl (by kernel_rfl) (by kernel_rfl) (by kernel_rfl) (fun _ _ _ h => h) (Or.inl ⟨by rfl, ?_⟩) HS0 ?_
    rotate_left
    · intro W hW; (try dsimp only at hW); go_simp; try (with_reducible rfl)
    (try simp only [List.getElem_toArray, List.getElem_cons_succ, List.getElem_cons_zero, Act.put, List.setIfInBounds_toArray, List.set_cons_zero, List.set_cons_succ])
    clear HS0
    have HS0 := HKS.out _ (HBx2.out)
    refine wpAnyH_take (i := 7) (v := ?_) rfl (by kernel_rfl) (by kernel_rfl) (by kernel_rfl) (fun _ _ _ h => h) (Or.inl ⟨by rfl, ?_⟩) HS0 ?_
    rotate_left
    · intro W hW; (try dsimp only at hW); go_simp; try (with_reducible rfl)
    (try simp only [List.getElem_toArray, List.getElem_cons_succ, List.getElem_cons_zero, Act.put, List.setIfInBounds_toArray, List.set_cons_zero, List.set_cons_succ])
    clear HS0
    have HS0 := HKS.out _ (HBx2.out)
    refine wpAnyH_take (i := 8) (v := ?_) rfl (by kernel_rfl) (by kernel_rfl) (by kernel_rfl) (fun _ _ _ h => h) (Or.inl ⟨by rfl, ?_⟩) HS0 ?_
    rotate_left
    · intro W hW; (try dsimp only at hW); go_simp; try (with_reducible rfl)
    (try simp only [List.getElem_toArray, List.getElem_cons_succ, List.getElem_cons_zero, Act.put, List.setIfInBounds_toArray, List.set_cons_zero, List.set_cons_succ])
    clear HS0
    have HS0 := HKS.out _ (HBx2.out)
    refine wpAnyH_take (i := 9) (v := ?_) rfl (by kernel_rfl) (by kernel_rfl) (by kernel_rfl) (fun _ _ _ h => h) (Or.inl ⟨by rfl, ?_⟩) HS0 ?_
    rotate_left
    · intro W hW; (try dsimp only at hW); go_simp; try (with_reducible rfl)
    (try simp only [List.getElem_toArray, List.getElem_cons_succ, List.getElem_cons_zero, Act.put, List.setIfInBounds_toArray, List.set_cons_zero, List.set_cons_succ])
    clear HS0
    have HS0 := HKS.out _ (HBx2.out)
    refine wpAnyH_take (i := 10) (v := ?_) rfl (by kernel_rfl) (by kernel_rfl) (by kernel_rfl) (fun _ _ _ h => h) (Or.inl ⟨by rfl, ?_⟩) HS0 ?_
    rotate_left
    · intro W hW; (try dsimp only at hW); go_simp; try (with_reducible rfl)
    (try simp only [List.getElem_toArray, List.getElem_cons_succ, List.getElem_cons_zero, Act.put, List.setIfInBounds_toArray, List.set_cons_zero, List.set_cons_succ])
    clear HS0
    have HS0 := HKS.out _ (HBx2.out)
    refine wpAnyH_take (i := 11) (v := ?_) rfl (by kernel_rfl) (by kernel_rfl) (by kernel_rfl) (fun _ _ _ h => h) (Or.inl ⟨by rfl, ?_⟩) HS0 ?_
    rotate_left
    · intro W hW; (try dsimp only at hW); go_simp; try (with_reducible rfl)
    (try simp only [List.getElem_toArray, List.getElem_cons_succ, List.getElem_cons_zero, Act.put, List.setIfInBounds_toArray, List.set_cons_zero, List.set_cons_succ])
    clear HS0
    have HS0 := HKS.out _ (HBx2.out)
    refine wpAnyH_take (i := 12) (v := ?_) rfl (by kernel_rfl) (by kernel_rfl) (by kernel_rfl) (fun _ _ _ h => h) (Or.inl ⟨by rfl, ?_⟩) HS0 ?_
    rotate_left
    · intro W hW; (try dsimp only at hW); go_simp; try (with_reducible rfl)
    (try simp only [List.getElem_toArray, List.getElem_cons_succ, List.getElem_cons_zero, Act.put, List.setIfInBounds_toArray, List.set_cons_zero, List.set_cons_succ])
    clear HS0
    have HS0 := HKS.out _ (HBx2.out)
    refine wpAnyH_take (i := 13) (v := ?_) rfl (by kernel_rfl) (by kernel_rfl) (by kernel_rfl) (fun _ _ _ h => h) (Or.inl ⟨by rfl, ?_⟩) HS0 ?_
    rotate_left
    · intro W hW; (try dsimp only at hW); go_simp; try (with_reducible rfl)
    (try simp only [List.getElem_toArray, List.getElem_cons_succ, List.getElem_cons_zero, Act.put, List.setIfInBounds_toArray, List.set_cons_zero, List.set_cons_succ])
    clear HS0
    have HS0 := HKS.out _ (HBx2.out)
    refine wpAnyH_take (i := 14) (v := ?_) rfl (by kernel_rfl) (by kernel_rfl) (by kernel_rfl) (fun _ _ _ h => h) (Or.inl ⟨by rfl, ?_⟩) HS0 ?_
    rotate_left
    · intro W hW; (try dsimp only at hW); go_simp; try (with_reducible rfl)
    (try simp only [List.getElem_toArray, List.getElem_cons_succ, List.getElem_cons_zero, Act.put, List.setIfInBounds_toArray, List.set_cons_zero, List.set_cons_succ])
    clear HS0
    have HS0 := HKS.out _ (HBx2.out)
    refine wpAnyH_take (i := 15) (v := ?_) rfl (by kernel_rfl) (by kernel_rfl) (by kernel_rfl) (fun _ _ _ h => h) (Or.inl ⟨by rfl, ?_⟩) HS0 ?_
    rotate_left
    · intro W hW; (try dsimp only at hW); go_simp; try (with_reducible rfl)
    (try simp only [List.getElem_toArray, List.getElem_cons_succ, List.getElem_cons_zero, Act.put, List.setIfInBounds_toArray, List.set_cons_zero, List.set_cons_succ])
    clear HS0
    have HS0 := HKS.out _ (HBx2.out)
    refine wpAnyH_take (i := 16) (v := ?_) rfl (by kernel_rfl) (by kernel_rfl) (by kernel_rfl) (fun _ _ _ h => h) (Or.inl ⟨by rfl, ?_⟩) HS0 ?_
    rotate_left
    · intro W hW; (try dsimp only at hW); go_simp; try (with_reducible rfl)
    (try simp only [List.getElem_toArray, List.getElem_cons_succ, List.getElem_cons_zero, Act.put, List.setIfInBounds_toArray, List.set_cons_zero, List.set_cons_succ])
    clear HS0
    have HS0 := HKS.out _ (HBx2.out)
    refine wpAnyH_take (i := 17) (v := ?_) rfl (by kernel_rfl) (by kernel_rfl) (by kernel_rfl) (fun _ _ _ h => h) (Or.inl ⟨by rfl, ?_⟩) HS0 ?_
    rotate_left
    · intro W hW; (try dsimp only at hW); go_simp; try (with_reducible rfl)
    (try simp only [List.getElem_toArray, List.getElem_cons_succ, List.getElem_cons_zero, Act.put, List.setIfInBounds_toArray, List.set_cons_zero, List.set_cons_succ])
    clear HS0
    have HS0 := HKS.out _ (HBx2.out)
    refine wpAnyH_take (i := 18) (v := ?_) rfl (by kernel_rfl) (by kernel_rfl) (by kernel_rfl) (fun _ _ _ h => h) (Or.inl ⟨by rfl, ?_⟩) HS0 ?_
    rotate_left
    · intro W hW; (try dsimp only at hW); go_simp; try (with_reducible rfl)
    (try simp only [List.getElem_toArray, List.getElem_cons_succ, List.getElem_cons_zero, Act.put, List.setIfInBounds_toArray, List.set_cons_zero, List.set_cons_succ])
    clear HS0
    have HS0 := HKS.out _ (HBx2.out)
    refine wpAnyH_take (i := 19) (v := ?_) rfl (by kernel_rfl) (by kernel_rfl) (by kernel_rfl) (fun _ _ _ h => h) (Or.inl ⟨by rfl, ?_⟩) HS0 ?_
    rotate_left
    · intro W hW; (try dsimp only at hW); go_simp; try (with_reducible rfl)
    (try simp only [List.getElem_toArray, List.getElem_cons_succ, List.getElem_cons_zero, Act.put, List.setIfInBounds_toArray, List.set_cons_zero, List.set_cons_succ])
    clear HS0
    refine wpAnyH_done (by kernel_rfl) ?_ _
    refine NoPanic.normal ?_
    have HB3 := Lib.hid (below_next HB2.out (HBx2.out))
    obtain ⟨p0, p1, p2, p3, p4, p5, p6, p7⟩ := HK.out _ HB3.out
    go_wp2_with fail
    (with_reducible refine (HJJ.out _ (below_next HST0.out.below HB3.out)).mono ?_)
    rintro e w5 ⟨rfl, hb5⟩
    have HB5 := Lib.hid (below_next HB3.out hb5)
    clear hb5 p0 p1 p2 p3 p4 p5 p6 p7
    obtain ⟨p0, p1, p2, p3, p4, p5, p6, p7⟩ := HK.out _ HB5.out
    go_wp2_with fail
    (with_reducible refine (HRJ.out _ (below_next HST0.out.below HB5.out)).mono ?_)
    rintro e w6 ⟨rfl, hb6⟩
    have HB6 := Lib.hid (below_next HST0.out.below (below_next HB5.out hb6))
    clear hb6 p0 p1 p2 p3 p4 p5 p6 p7
    go_wp2_with fail
    (with_reducible refine (HH.out _ HB6.out).mono ?_)
    rintro e w7 ⟨rfl, hb7⟩
    have HB7 := Lib.hid (below_next HB6.out hb7)
    clear hb7
    go_wp2
    go_ret
    exact ⟨by rfl, HB7.out⟩
  · obtain ⟨e, w', h⟩ := calls_some (HBJ.out w)
    exact absurd h (hbs w e w')
end Go.Proofs.YtnapdhfkgfjjfaaGreatDoor

/- What every law behind the door shares: the table that its row lists, a world for the witness, and the card out of the row's statement. -/
namespace Go.Proofs.YtnapdhfkgfjjfaaGreatDoor
open Go Go.ChangeShapes Go.WideShapes Go.ChangeAt Go.RowKit

theorem gPow : Tryz.prog.globalNamed "internal/strconv.uint64pow10" = some 2 := by kernel_rfl
theorem gPowType : (Tryz.prog.globals[2]?).map (·.type) = some 201 := by kernel_rfl
theorem cellsPow : Tryz.prog.cellsOf 201 = 20 := by kernel_rfl
theorem cellsU : Tryz.prog.cellsOf 110 = 1 := by kernel_rfl

/-- the list of the rows of this seat -/
abbrev laid3 : List (String × DataW Unit) := [("math/bits.deBruijn32tab", Rows.laid_math_bits_deBruijn32tab), ("math/bits.deBruijn64tab", Rows.laid_math_bits_deBruijn64tab), ("internal/strconv.uint64pow10", Rows.laid_internal_strconv_uint64pow10), ("unicode/utf8.acceptRanges", Rows.laid_unicode_utf8_acceptRanges), ("strconv.ErrRange", Rows.laid_strconv_ErrRange), ("strconv.ErrSyntax", Rows.laid_strconv_ErrSyntax), ("unicode/utf8.first", Rows.laid_unicode_utf8_first)]

theorem table {W : World} (h0 : laidMetH Tryz.prog laid3 W) : Tab W.heap.size W := by
  have h : laidMet Tryz.prog laid3 W := h0
  refine Lib.tabBelow_of_tabIs ?_
  obtain ⟨ps, ⟨g1, t1, cs1, fu1, p1, q1, _, _, _, _, ⟨g2, t2, cs2, fu2, p2, q2, _, _, _, _, ⟨g', t', cs, fuel, p, q, hg', ht', hvar, hd, _, _⟩, _⟩, _⟩, _⟩ := h
  obtain rfl := Option.some.inj (gPow.symm.trans hg')
  obtain rfl := Option.some.inj (gPowType.symm.trans ht')
  unfold Lib.TabIs
  rw [hvar, ← Lib.cells_of_tab Tryz.underlying201 Tryz.underlying110 cellsU cellsPow hd]

/-- A WORLD FOR THE WITNESS: the settled one, the listed variables holding what their initialisers lay. -/
noncomputable def laidWorld (os : Os) : World := World.laidAll Tryz.prog os laid3
theorem laid_met (os : Os) (args : Array Value) : laidMet Tryz.prog laid3 ((laidWorld os).forCall (fun _ _ => 0) ⟨#[], args, []⟩).memory :=
  laidMet_laidAll args (by kernel_rfl) (by kernel_rfl)
end Go.Proofs.YtnapdhfkgfjjfaaGreatDoor
