/- Package judge: read. Printed by gen_jread.py. -/
import Derived.Test.YtnpfdelklolchaaGreatDoorG3
import Derived.Test.YtnpfdelklolchaaGreatDoorG17
import Derived.Test.YtnpfdelklolchaaGreatDoorG19
namespace Go.Proofs.YtnpfdelklolchaaGreatDoor
open Go Go.RowKit Go.Proofs

/-- what read returns -/
def RdPost (a b : List UInt8) (w : World) (e : Ending) (w' : World) : Prop :=
  ∃ v, e = .returned (.tuple #[v, .int .i64 (cRt a b)]) ∧ (cRt a b = 0 → JF w' v (sgB a) (dgV (unsg a)) (dgV b)) ∧ (cRt a b ≠ 0 → v = .agg #[.bool false, .slice none 0 0, .slice none 0 0]) ∧ Below w.heap.size w w'
theorem unsg_zero {a : List UInt8} : (sgB a = true ∧ unsg a = [48]) ↔ a = [45, 48] := by
  constructor
  · rintro ⟨h1, h2⟩
    rw [unsg_neg h1, h2]
  · rintro rfl
    exact ⟨rfl, rfl⟩
theorem dgV_W {L : List UInt8} {E : Nat} (hd : ∀ c ∈ L, 48 ≤ c.toNat ∧ c.toNat ≤ 57) (hl : L.length ≤ E) : dgV L < W64 ^ E :=
  Nat.lt_of_lt_of_le (dgV_lt hd) (Nat.le_trans (Nat.pow_le_pow_right (by omega) hl) (Nat.pow_le_pow_left (by unfold W64; omega) _))
set_option maxHeartbeats 8000000 in
set_option maxRecDepth 100000 in
theorem jRead_any (Sa Sb : ByteArray) (a b : List UInt8) (w : World) (hSa : Sa.data.toList = a) (hSb : Sb.data.toList = b) (ha : Sa.size ≤ 9223372036854775800) (hb : Sb.size ≤ 9223372036854775800) :
    Calls Tryz.prog 104 #[.agg #[.string Sa, .string Sb]] w (RdPost a b w) := by
  have HCP := Lib.hid (fun W => Tryz.strings_CutPrefix Sa ⟨#[45]⟩ W)
  rw [hSa, show (⟨#[45]⟩ : ByteArray).data.toList = [45] from rfl, (cut_minus a).1, (cut_minus a).2] at HCP
  obtain ⟨SU, hSU⟩ : ∃ SU : ByteArray, SU = ⟨(unsg a).toArray⟩ := ⟨_, rfl⟩
  rw [← hSU] at HCP
  have hU : SU.data.toList = unsg a := by rw [hSU]
  have hua : (unsg a).length ≤ a.length := by unfold unsg; split <;> simp
  have hza := ba_size hSa
  have hzb := ba_size hSb
  have hzu := ba_size hU
  have HB1 := Lib.hid (fun W => jDigitsForm_any SU (unsg a) W hU (by omega))
  have HB2 := Lib.hid (fun W => jDigitsForm_any Sb b W hSb (by omega))
  obtain ⟨d1, hd1⟩ : ∃ d, d = dgB (unsg a) := ⟨_, rfl⟩
  obtain ⟨d2, hd2⟩ : ∃ d, d = dgB b := ⟨_, rfl⟩
  obtain ⟨e3, he3⟩ : ∃ d, d = (Sb.toList == [48]) := ⟨_, rfl⟩
  obtain ⟨e4, he4⟩ : ∃ d, d = (SU.toList == [48]) := ⟨_, rfl⟩
  obtain ⟨sg0, hsg⟩ : ∃ d, d = sgB a := ⟨_, rfl⟩
  have hf3 : e3 = true ↔ b = [48] := by rw [he3, ByteArray.toList_eq, hSb, beq_iff_eq]
  have hf4 : (sg0 = true ∧ e4 = true) ↔ a = [45, 48] := by rw [he4, hsg, ByteArray.toList_eq, hU, beq_iff_eq, unsg_zero]
  rw [← hd1] at HB1
  rw [← hd2] at HB2
  rw [← hsg] at HCP
  have x3 := he3.symm
  have x4 := he4.symm
  obtain ⟨W0, hW0⟩ : ∃ W0, W0 = (w.alloc (.cells #[.string Sa, .string Sb] 24)).alloc (.cells #[.bool false, .slice none 0 0, .slice none 0 0] 73) := ⟨_, rfl⟩
  have HST0 := Lib.hid (show St w W0 [(w.heap.size, .cells #[.string Sa, .string Sb] 24 (0, 0)), (w.heap.size + 1, .cells #[.bool false, .slice none 0 0, .slice none 0 0] 73 (0, 0))] by rw [hW0]; exact ((St.start w).alloc _ _ rfl).alloc _ _ (by simp))
  have HX0 := Lib.hid (show JBox W0 (w.heap.size + 1) from HST0.out.at 1 rfl)
  have HFIN := Lib.hid (show ∀ W, Below W0.heap.size W0 W → ∀ x y z, Below w.heap.size w (((W.setCell ⟨w.heap.size + 1, 0, none⟩ x).setCell ⟨w.heap.size + 1, 1, none⟩ y).setCell ⟨w.heap.size + 1, 2, none⟩ z) from fun W hb x y z => (((below_next HST0.out.below hb).setCell (p := ⟨w.heap.size + 1, 0, none⟩) (by simp) x).setCell (p := ⟨w.heap.size + 1, 1, none⟩) (by simp) y).setCell (p := ⟨w.heap.size + 1, 2, none⟩) (by simp) z)
  have HK := Lib.hid (show ∀ X, Below W0.heap.size W0 X → X.cell? ⟨w.heap.size, 0, none⟩ = some (.string Sa) ∧ X.cell? ⟨w.heap.size, 1, none⟩ = some (.string Sb) ∧ X.cell? ⟨w.heap.size + 1, 0, none⟩ = some (.bool false) ∧ X.cell? ⟨w.heap.size + 1, 1, none⟩ = some (.slice none 0 0) ∧ X.cell? ⟨w.heap.size + 1, 2, none⟩ = some (.slice none 0 0) ∧ X.frozen? ⟨w.heap.size + 1, 0, none⟩ = false ∧ X.frozen? ⟨w.heap.size + 1, 1, none⟩ = false ∧ X.frozen? ⟨w.heap.size + 1, 2, none⟩ = false ∧ w.heap.size + 1 < X.heap.size from fun X hX => ⟨(HST0.out.call hX).cell 0 0 rfl rfl, (HST0.out.call hX).cell 0 1 rfl rfl, (HST0.out.call hX).cell 1 0 rfl rfl, (HST0.out.call hX).cell 1 1 rfl rfl, (HST0.out.call hX).cell 1 2 rfl rfl, (HST0.out.call hX).frozen 1 0 rfl, (HST0.out.call hX).frozen 1 1 rfl, (HST0.out.call hX).frozen 1 2 rfl, (HST0.out.call hX).lt 1 rfl⟩)
  obtain ⟨p0, p1, k0, k1, k2, z0, z1, z2, hl0⟩ := HK.out W0 (Below.refl _ _)
  have HFM := Lib.hid (fun h => cRt_form (a := a) (b := b) h)
  have HSZ := Lib.hid (fun h => cRt_size (a := a) (b := b) h)
  have HGC := Lib.hid (fun h h2 G hG => cRt_gcd (a := a) (b := b) h h2 G hG)
  unfold RdPost
  obtain ⟨rv, hrv⟩ : ∃ rv, rv = cRt a b := ⟨_, rfl⟩
  rw [← hrv] at HFM HSZ HGC ⊢
  have HRV := Lib.hid hrv
  clear hrv
  cases d1 with
  | false =>
    have HR := Lib.hid (HFM.out (.inl hd1.symm))
    clear hd1 hd2 he3 he4 hsg hf3 hf4 x3 x4 HFM HSZ HGC hSU hU hSa hSb HRV
    go_enter Tryz.func104, Tryz.ntmps104
    go_wp2_with fail
    rw [← hW0]
    clear hW0
    go_wp2_with fail
    (with_reducible refine (HCP.out _).mono ?_)
    rintro e w1 ⟨rfl, hw1⟩
    have hw2 := hw1.symm
    subst hw2
    clear p0 p1 k0 k1 k2 z0 z1 z2 hl0
    obtain ⟨p0, p1, k0, k1, k2, z0, z1, z2, hl0⟩ := HK.out W0 (Below.refl _ _)
    go_wp2_with fail
    (with_reducible refine (HB1.out _).mono ?_)
    rintro e w2 ⟨rfl, hb2⟩
    have HB2_ := Lib.hid hb2
    clear p0 p1 k0 k1 k2 z0 z1 z2 hl0 hb2
    obtain ⟨p0, p1, k0, k1, k2, z0, z1, z2, hl0⟩ := HK.out w2 HB2_.out
    go_wp2
    refine bodyPost_ret (v := .tuple #[.agg #[.bool false, .slice none 0 0, .slice none 0 0], .int .i64 2]) (by simp [results, Tryz.results104, go_sem, k0, k1, k2]) rfl ⟨_, by rw [HR.out], fun hz => absurd (HR.out.symm.trans hz) (by decide), fun _ => rfl, HFIN.out _ HB2_.out _ _ _⟩
  | true =>
    by_cases h4 : sg0 = true ∧ e4 = true
    · have HR := Lib.hid (HFM.out (.inr (.inr (.inr (hf4.1 h4)))))
      obtain ⟨h41, h42⟩ := h4
      subst h41 h42
      clear hd1 hd2 he3 he4 hsg hf3 hf4 x3 HFM HSZ HGC hSU hU hSa hSb HRV
      go_enter Tryz.func104, Tryz.ntmps104
      go_wp2_with fail
      rw [← hW0]
      clear hW0
      go_wp2_with fail
      (with_reducible refine (HCP.out _).mono ?_)
      rintro e w1 ⟨rfl, hw1⟩
      have hw2 := hw1.symm
      subst hw2
      clear p0 p1 k0 k1 k2 z0 z1 z2 hl0
      obtain ⟨p0, p1, k0, k1, k2, z0, z1, z2, hl0⟩ := HK.out W0 (Below.refl _ _)
      go_wp2_with fail
      (with_reducible refine (HB1.out _).mono ?_)
      rintro e w2 ⟨rfl, hb2⟩
      have HB2_ := Lib.hid hb2
      clear p0 p1 k0 k1 k2 z0 z1 z2 hl0 hb2
      obtain ⟨p0, p1, k0, k1, k2, z0, z1, z2, hl0⟩ := HK.out w2 HB2_.out
      go_wp2
      refine bodyPost_ret (v := .tuple #[.agg #[.bool false, .slice none 0 0, .slice none 0 0], .int .i64 2]) (by simp [results, Tryz.results104, go_sem, k0, k1, k2]) rfl ⟨_, by rw [HR.out], fun hz => absurd (HR.out.symm.trans hz) (by decide), fun _ => rfl, HFIN.out _ HB2_.out _ _ _⟩
    · cases d2 with
      | false =>
        have HR := Lib.hid (HFM.out (.inr (.inl hd2.symm)))
        clear hd1 hd2 he3 he4 hsg hf3 hf4 x3 HFM HSZ HGC hSU hU hSa hSb HRV
        cases sg0 with
        | false =>
          clear h4
          go_enter Tryz.func104, Tryz.ntmps104
          go_wp2_with fail
          rw [← hW0]
          clear hW0
          go_wp2_with fail
          (with_reducible refine (HCP.out _).mono ?_)
          rintro e w1 ⟨rfl, hw1⟩
          have hw2 := hw1.symm
          subst hw2
          clear p0 p1 k0 k1 k2 z0 z1 z2 hl0
          obtain ⟨p0, p1, k0, k1, k2, z0, z1, z2, hl0⟩ := HK.out W0 (Below.refl _ _)
          go_wp2_with fail
          (with_reducible refine (HB1.out _).mono ?_)
          rintro e w2 ⟨rfl, hb2⟩
          have HB2_ := Lib.hid hb2
          clear p0 p1 k0 k1 k2 z0 z1 z2 hl0 hb2
          obtain ⟨p0, p1, k0, k1, k2, z0, z1, z2, hl0⟩ := HK.out w2 HB2_.out
          go_wp2_with fail
          (with_reducible refine (HB2.out _).mono ?_)
          rintro e w3 ⟨rfl, hb3⟩
          have HB3_ := Lib.hid (below_next HB2_.out hb3)
          clear p0 p1 k0 k1 k2 z0 z1 z2 hl0 hb3
          obtain ⟨p0, p1, k0, k1, k2, z0, z1, z2, hl0⟩ := HK.out w3 HB3_.out
          go_wp2
          refine bodyPost_ret (v := .tuple #[.agg #[.bool false, .slice none 0 0, .slice none 0 0], .int .i64 2]) (by simp [results, Tryz.results104, go_sem, k0, k1, k2]) rfl ⟨_, by rw [HR.out], fun hz => absurd (HR.out.symm.trans hz) (by decide), fun _ => rfl, HFIN.out _ HB3_.out _ _ _⟩
        | true =>
          obtain rfl : e4 = false := by simpa using h4
          clear h4
          go_enter Tryz.func104, Tryz.ntmps104
          go_wp2_with fail
          rw [← hW0]
          clear hW0
          go_wp2_with fail
          (with_reducible refine (HCP.out _).mono ?_)
          rintro e w1 ⟨rfl, hw1⟩
          have hw2 := hw1.symm
          subst hw2
          clear p0 p1 k0 k1 k2 z0 z1 z2 hl0
          obtain ⟨p0, p1, k0, k1, k2, z0, z1, z2, hl0⟩ := HK.out W0 (Below.refl _ _)
          go_wp2_with fail
          (with_reducible refine (HB1.out _).mono ?_)
          rintro e w2 ⟨rfl, hb2⟩
          have HB2_ := Lib.hid hb2
          clear p0 p1 k0 k1 k2 z0 z1 z2 hl0 hb2
          obtain ⟨p0, p1, k0, k1, k2, z0, z1, z2, hl0⟩ := HK.out w2 HB2_.out
          go_wp2_with fail
          (with_reducible refine (HB2.out _).mono ?_)
          rintro e w3 ⟨rfl, hb3⟩
          have HB3_ := Lib.hid (below_next HB2_.out hb3)
          clear p0 p1 k0 k1 k2 z0 z1 z2 hl0 hb3
          obtain ⟨p0, p1, k0, k1, k2, z0, z1, z2, hl0⟩ := HK.out w3 HB3_.out
          go_wp2
          refine bodyPost_ret (v := .tuple #[.agg #[.bool false, .slice none 0 0, .slice none 0 0], .int .i64 2]) (by simp [results, Tryz.results104, go_sem, k0, k1, k2]) rfl ⟨_, by rw [HR.out], fun hz => absurd (HR.out.symm.trans hz) (by decide), fun _ => rfl, HFIN.out _ HB3_.out _ _ _⟩
      | true =>
        cases e3 with
        | true =>
          have HR := Lib.hid (HFM.out (.inr (.inr (.inl (hf3.1 rfl)))))
          clear hd1 hd2 he3 he4 hsg hf3 hf4 HFM HSZ HGC hSU hU hSa hSb HRV
          cases sg0 with
          | false =>
            clear h4
            go_enter Tryz.func104, Tryz.ntmps104
            go_wp2_with fail
            rw [← hW0]
            clear hW0
            go_wp2_with fail
            (with_reducible refine (HCP.out _).mono ?_)
            rintro e w1 ⟨rfl, hw1⟩
            have hw2 := hw1.symm
            subst hw2
            clear p0 p1 k0 k1 k2 z0 z1 z2 hl0
            obtain ⟨p0, p1, k0, k1, k2, z0, z1, z2, hl0⟩ := HK.out W0 (Below.refl _ _)
            go_wp2_with fail
            (with_reducible refine (HB1.out _).mono ?_)
            rintro e w2 ⟨rfl, hb2⟩
            have HB2_ := Lib.hid hb2
            clear p0 p1 k0 k1 k2 z0 z1 z2 hl0 hb2
            obtain ⟨p0, p1, k0, k1, k2, z0, z1, z2, hl0⟩ := HK.out w2 HB2_.out
            go_wp2_with fail
            (with_reducible refine (HB2.out _).mono ?_)
            rintro e w3 ⟨rfl, hb3⟩
            have HB3_ := Lib.hid (below_next HB2_.out hb3)
            clear p0 p1 k0 k1 k2 z0 z1 z2 hl0 hb3
            obtain ⟨p0, p1, k0, k1, k2, z0, z1, z2, hl0⟩ := HK.out w3 HB3_.out
            go_wp2
            refine bodyPost_ret (v := .tuple #[.agg #[.bool false, .slice none 0 0, .slice none 0 0], .int .i64 2]) (by simp [results, Tryz.results104, go_sem, k0, k1, k2]) rfl ⟨_, by rw [HR.out], fun hz => absurd (HR.out.symm.trans hz) (by decide), fun _ => rfl, HFIN.out _ HB3_.out _ _ _⟩
          | true =>
            obtain rfl : e4 = false := by simpa using h4
            clear h4
            go_enter Tryz.func104, Tryz.ntmps104
            go_wp2_with fail
            rw [← hW0]
            clear hW0
            go_wp2_with fail
            (with_reducible refine (HCP.out _).mono ?_)
            rintro e w1 ⟨rfl, hw1⟩
            have hw2 := hw1.symm
            subst hw2
            clear p0 p1 k0 k1 k2 z0 z1 z2 hl0
            obtain ⟨p0, p1, k0, k1, k2, z0, z1, z2, hl0⟩ := HK.out W0 (Below.refl _ _)
            go_wp2_with fail
            (with_reducible refine (HB1.out _).mono ?_)
            rintro e w2 ⟨rfl, hb2⟩
            have HB2_ := Lib.hid hb2
            clear p0 p1 k0 k1 k2 z0 z1 z2 hl0 hb2
            obtain ⟨p0, p1, k0, k1, k2, z0, z1, z2, hl0⟩ := HK.out w2 HB2_.out
            go_wp2_with fail
            (with_reducible refine (HB2.out _).mono ?_)
            rintro e w3 ⟨rfl, hb3⟩
            have HB3_ := Lib.hid (below_next HB2_.out hb3)
            clear p0 p1 k0 k1 k2 z0 z1 z2 hl0 hb3
            obtain ⟨p0, p1, k0, k1, k2, z0, z1, z2, hl0⟩ := HK.out w3 HB3_.out
            go_wp2
            refine bodyPost_ret (v := .tuple #[.agg #[.bool false, .slice none 0 0, .slice none 0 0], .int .i64 2]) (by simp [results, Tryz.results104, go_sem, k0, k1, k2]) rfl ⟨_, by rw [HR.out], fun hz => absurd (HR.out.symm.trans hz) (by decide), fun _ => rfl, HFIN.out _ HB3_.out _ _ _⟩
        | false =>
          have hok : ¬ (dgB (unsg a) = false ∨ dgB b = false ∨ b = [48] ∨ a = [45, 48]) := by
            rw [← hd1, ← hd2, ← hf3, ← hf4]; simp; simpa using h4
          have HSZ := Lib.hid (HSZ.out hok)
          have HGC := Lib.hid (HGC.out hok)
          have hdu := (dgB_digits hd1.symm).2.1
          have hdb := (dgB_digits hd2.symm).2.1
          have hpb := dgV_pos hd2.symm (fun hc => by have := hf3.2 hc; cases this)
          have HP1 := Lib.hid (fun W h => natParse_any SU (unsg a) W hU h hdu)
          have HP2 := Lib.hid (fun W h => natParse_any Sb b W hSb h hdb)
          have HE1 := Lib.hid (fun E h => dgV_W (E := E) hdu h)
          have HE2 := Lib.hid (fun E h => dgV_W (E := E) hdb h)
          clear hd1 hd2 he3 he4 hf3 hf4 HFM hSU hU hSa hSb hdu hdb hok
          by_cases hsz : 2000 < (unsg a).length ∨ 2000 < b.length
          · have HR := Lib.hid (HSZ.out hsz)
            rw [← hzu, ← hzb] at hsz
            clear hsg
            by_cases h1 : 2000 < SU.size
            · have t1 : decide ((2000 : Int) < (SU.size : Int)) = true := decide_eq_true (by omega)
              have t2 : decide (2000 < SU.size) = true := decide_eq_true h1
              cases sg0 with
              | false =>
                clear h4
                go_enter Tryz.func104, Tryz.ntmps104
                go_wp2_with fail
                rw [← hW0]
                clear hW0
                go_wp2_with fail
                (with_reducible refine (HCP.out _).mono ?_)
                rintro e w1 ⟨rfl, hw1⟩
                have hw2 := hw1.symm
                subst hw2
                clear p0 p1 k0 k1 k2 z0 z1 z2 hl0
                obtain ⟨p0, p1, k0, k1, k2, z0, z1, z2, hl0⟩ := HK.out W0 (Below.refl _ _)
                go_wp2_with fail
                (with_reducible refine (HB1.out _).mono ?_)
                rintro e w2 ⟨rfl, hb2⟩
                have HB2_ := Lib.hid hb2
                clear p0 p1 k0 k1 k2 z0 z1 z2 hl0 hb2
                obtain ⟨p0, p1, k0, k1, k2, z0, z1, z2, hl0⟩ := HK.out w2 HB2_.out
                go_wp2_with fail
                (with_reducible refine (HB2.out _).mono ?_)
                rintro e w3 ⟨rfl, hb3⟩
                have HB3_ := Lib.hid (below_next HB2_.out hb3)
                clear p0 p1 k0 k1 k2 z0 z1 z2 hl0 hb3
                obtain ⟨p0, p1, k0, k1, k2, z0, z1, z2, hl0⟩ := HK.out w3 HB3_.out
                go_wp2
                refine bodyPost_ret (v := .tuple #[.agg #[.bool false, .slice none 0 0, .slice none 0 0], .int .i64 3]) (by simp [results, Tryz.results104, go_sem, k0, k1, k2]) rfl ⟨_, by rw [HR.out], fun hz => absurd (HR.out.symm.trans hz) (by decide), fun _ => rfl, HFIN.out _ HB3_.out _ _ _⟩
              | true =>
                obtain rfl : e4 = false := by simpa using h4
                clear h4
                go_enter Tryz.func104, Tryz.ntmps104
                go_wp2_with fail
                rw [← hW0]
                clear hW0
                go_wp2_with fail
                (with_reducible refine (HCP.out _).mono ?_)
                rintro e w1 ⟨rfl, hw1⟩
                have hw2 := hw1.symm
                subst hw2
                clear p0 p1 k0 k1 k2 z0 z1 z2 hl0
                obtain ⟨p0, p1, k0, k1, k2, z0, z1, z2, hl0⟩ := HK.out W0 (Below.refl _ _)
                go_wp2_with fail
                (with_reducible refine (HB1.out _).mono ?_)
                rintro e w2 ⟨rfl, hb2⟩
                have HB2_ := Lib.hid hb2
                clear p0 p1 k0 k1 k2 z0 z1 z2 hl0 hb2
                obtain ⟨p0, p1, k0, k1, k2, z0, z1, z2, hl0⟩ := HK.out w2 HB2_.out
                go_wp2_with fail
                (with_reducible refine (HB2.out _).mono ?_)
                rintro e w3 ⟨rfl, hb3⟩
                have HB3_ := Lib.hid (below_next HB2_.out hb3)
                clear p0 p1 k0 k1 k2 z0 z1 z2 hl0 hb3
                obtain ⟨p0, p1, k0, k1, k2, z0, z1, z2, hl0⟩ := HK.out w3 HB3_.out
                go_wp2
                refine bodyPost_ret (v := .tuple #[.agg #[.bool false, .slice none 0 0, .slice none 0 0], .int .i64 3]) (by simp [results, Tryz.results104, go_sem, k0, k1, k2]) rfl ⟨_, by rw [HR.out], fun hz => absurd (HR.out.symm.trans hz) (by decide), fun _ => rfl, HFIN.out _ HB3_.out _ _ _⟩
            · have t1 : decide ((2000 : Int) < (SU.size : Int)) = false := decide_eq_false (by omega)
              have t2 : decide (2000 < SU.size) = false := decide_eq_false h1
              have t3 : decide ((2000 : Int) < (Sb.size : Int)) = true := decide_eq_true (by omega)
              have t4 : decide (2000 < Sb.size) = true := decide_eq_true (by omega)
              cases sg0 with
              | false =>
                clear h4
                go_enter Tryz.func104, Tryz.ntmps104
                go_wp2_with fail
                rw [← hW0]
                clear hW0
                go_wp2_with fail
                (with_reducible refine (HCP.out _).mono ?_)
                rintro e w1 ⟨rfl, hw1⟩
                have hw2 := hw1.symm
                subst hw2
                clear p0 p1 k0 k1 k2 z0 z1 z2 hl0
                obtain ⟨p0, p1, k0, k1, k2, z0, z1, z2, hl0⟩ := HK.out W0 (Below.refl _ _)
                go_wp2_with fail
                (with_reducible refine (HB1.out _).mono ?_)
                rintro e w2 ⟨rfl, hb2⟩
                have HB2_ := Lib.hid hb2
                clear p0 p1 k0 k1 k2 z0 z1 z2 hl0 hb2
                obtain ⟨p0, p1, k0, k1, k2, z0, z1, z2, hl0⟩ := HK.out w2 HB2_.out
                go_wp2_with fail
                (with_reducible refine (HB2.out _).mono ?_)
                rintro e w3 ⟨rfl, hb3⟩
                have HB3_ := Lib.hid (below_next HB2_.out hb3)
                clear p0 p1 k0 k1 k2 z0 z1 z2 hl0 hb3
                obtain ⟨p0, p1, k0, k1, k2, z0, z1, z2, hl0⟩ := HK.out w3 HB3_.out
                go_wp2
                refine bodyPost_ret (v := .tuple #[.agg #[.bool false, .slice none 0 0, .slice none 0 0], .int .i64 3]) (by simp [results, Tryz.results104, go_sem, k0, k1, k2]) rfl ⟨_, by rw [HR.out], fun hz => absurd (HR.out.symm.trans hz) (by decide), fun _ => rfl, HFIN.out _ HB3_.out _ _ _⟩
              | true =>
                obtain rfl : e4 = false := by simpa using h4
                clear h4
                go_enter Tryz.func104, Tryz.ntmps104
                go_wp2_with fail
                rw [← hW0]
                clear hW0
                go_wp2_with fail
                (with_reducible refine (HCP.out _).mono ?_)
                rintro e w1 ⟨rfl, hw1⟩
                have hw2 := hw1.symm
                subst hw2
                clear p0 p1 k0 k1 k2 z0 z1 z2 hl0
                obtain ⟨p0, p1, k0, k1, k2, z0, z1, z2, hl0⟩ := HK.out W0 (Below.refl _ _)
                go_wp2_with fail
                (with_reducible refine (HB1.out _).mono ?_)
                rintro e w2 ⟨rfl, hb2⟩
                have HB2_ := Lib.hid hb2
                clear p0 p1 k0 k1 k2 z0 z1 z2 hl0 hb2
                obtain ⟨p0, p1, k0, k1, k2, z0, z1, z2, hl0⟩ := HK.out w2 HB2_.out
                go_wp2_with fail
                (with_reducible refine (HB2.out _).mono ?_)
                rintro e w3 ⟨rfl, hb3⟩
                have HB3_ := Lib.hid (below_next HB2_.out hb3)
                clear p0 p1 k0 k1 k2 z0 z1 z2 hl0 hb3
                obtain ⟨p0, p1, k0, k1, k2, z0, z1, z2, hl0⟩ := HK.out w3 HB3_.out
                go_wp2
                refine bodyPost_ret (v := .tuple #[.agg #[.bool false, .slice none 0 0, .slice none 0 0], .int .i64 3]) (by simp [results, Tryz.results104, go_sem, k0, k1, k2]) rfl ⟨_, by rw [HR.out], fun hz => absurd (HR.out.symm.trans hz) (by decide), fun _ => rfl, HFIN.out _ HB3_.out _ _ _⟩
          · have t1 : decide ((2000 : Int) < (SU.size : Int)) = false := decide_eq_false (by omega)
            have t2 : decide (2000 < SU.size) = false := decide_eq_false (by omega)
            have t3 : decide ((2000 : Int) < (Sb.size : Int)) = false := decide_eq_false (by omega)
            have t4 : decide (2000 < Sb.size) = false := decide_eq_false (by omega)
            rw [← hsg]
            clear hsg
            obtain ⟨X, hX⟩ : ∃ X, X = dgV (unsg a) := ⟨_, rfl⟩
            obtain ⟨Y, hY⟩ : ∃ Y, Y = dgV b := ⟨_, rfl⟩
            obtain ⟨G, hG⟩ : ∃ G, G = Nat.gcd X Y := ⟨_, rfl⟩
            have HRV2 := HGC.out hsz G (by rw [hG, hX, hY])
            have HP1 := Lib.hid (fun W => HP1.out W (by omega))
            have HP2 := Lib.hid (fun W => HP2.out W (by omega))
            rw [← hX] at HP1
            rw [← hY] at HP2
            have HE1 := Lib.hid (HE1.out 2000 (by omega))
            have HE2 := Lib.hid (HE2.out 2000 (by omega))
            rw [← hX] at HE1
            rw [← hY] at HE2
            rw [← hX, ← hY]
            have hYp : 0 < Y := by rw [hY]; exact hpb
            have HGD := Lib.hid (show G = Nat.gcd Y X by rw [hG, Nat.gcd_comm])
            have HGL := Lib.hid (show G < W64 ^ 2000 from Nat.lt_of_le_of_lt (by rw [hG]; exact Nat.gcd_le_right _ hYp) HE2.out)
            have HO := Lib.hid (fun W => natOf_any 1 W (by omega))
            rw [show (1 : Int).toNat = 1 from rfl] at HO
            obtain ⟨cv, hcv⟩ : ∃ cv, cv = cmpN G 1 := ⟨_, rfl⟩
            have HCV := Lib.hid hcv
            obtain ⟨zb, hzq⟩ : ∃ zb, zb = (cv != 0) := ⟨_, rfl⟩
            have t5 := hzq.symm
            have HRV2 := Lib.hid (show rv = if zb = true then 2 else 0 by
              rw [HRV2, hzq, hcv, cmp_one]
              by_cases hg1 : G = 1
              · rw [if_pos hg1, if_neg (by simp [hg1])]
              · rw [if_neg hg1, if_pos (by simp [hg1])])
            clear hX hY hG hcv hzq hpb hYp HSZ HGC hsz hza hzb hzu hua
            cases sg0 with
            | false =>
              clear h4
              go_enter Tryz.func104, Tryz.ntmps104
              go_wp2_with fail
              rw [← hW0]
              clear hW0
              go_wp2_with fail
              (with_reducible refine (HCP.out _).mono ?_)
              rintro e w1 ⟨rfl, hw1⟩
              have hw2 := hw1.symm
              subst hw2
              clear p0 p1 k0 k1 k2 z0 z1 z2 hl0
              obtain ⟨p0, p1, k0, k1, k2, z0, z1, z2, hl0⟩ := HK.out W0 (Below.refl _ _)
              go_wp2_with fail
              (with_reducible refine (HB1.out _).mono ?_)
              rintro e w2 ⟨rfl, hb2⟩
              have HB2_ := Lib.hid hb2
              clear p0 p1 k0 k1 k2 z0 z1 z2 hl0 hb2
              obtain ⟨p0, p1, k0, k1, k2, z0, z1, z2, hl0⟩ := HK.out w2 HB2_.out
              go_wp2_with fail
              (with_reducible refine (HB2.out _).mono ?_)
              rintro e w3 ⟨rfl, hb3⟩
              have HB3_ := Lib.hid (below_next HB2_.out hb3)
              clear p0 p1 k0 k1 k2 z0 z1 z2 hl0 hb3
              obtain ⟨p0, p1, k0, k1, k2, z0, z1, z2, hl0⟩ := HK.out w3 HB3_.out
              go_wp2_with fail
              have HKS := Lib.hid (show ∀ X, Below w3.heap.size w3 X → (fun X => Below w3.heap.size w3 X ∧ X.cell? ⟨w.heap.size, 1, none⟩ = some (.string Sb)) X from fun X hX => ⟨hX, (HK.out X (below_next HB3_.out hX)).2.1⟩)
              clear p0 k0 k1 k2 z0 z1 z2 hl0
              go_cut [6] from 54 (fun v wx => ∃ B, v = .pointer (some ⟨B, 0, none⟩) ∧ JVar wx B false X Y ∧ Below w3.heap.size w3 wx)
              case first =>
                go_region_held3 (fun X => Below w3.heap.size w3 X ∧ X.cell? ⟨w.heap.size, 1, none⟩ = some (.string Sb))
                  (first
                    | exact HKS.out _ (Below.refl _ w3).drew
                    | exact HKS.out _ ((Below.refl _ w3).alloc (Nat.le_refl _) _).drew
                    | (go_split_ands; refine HKS.out _ (below_next ?_ hb7); assumption)
                    | (go_split_ands; refine HKS.out _ (below_next ?_ hb8); assumption)
                    | (go_split_ands; refine HKS.out _ (below_next ?_ ((Below.refl _ _).alloc (Nat.le_refl _) _)); assumption)
                    | (go_split_ands; refine HKS.out _ (below_realloc (Z := .cells #[.bool false, .slice none 0 0, .slice none 0 0] 73) ?_ (by omega)); assumption)
                    | (go_split_ands; exact HKS.out _ (((Below.setCell (by assumption) (by show w3.heap.size ≤ _; first | exact Nat.le_refl _ | (dsimp only; omega) | omega) _).setCell (by show w3.heap.size ≤ _; first | exact Nat.le_refl _ | (dsimp only; omega) | omega) _).setCell (by show w3.heap.size ≤ _; first | exact Nat.le_refl _ | (dsimp only; omega) | omega) _)))
                  (first
                    | (go_at_call 121; (with_reducible refine (HP1.out _).mono ?_); rintro e w7 ⟨A7, c7, l7, rfl, hn7, hb7⟩; have s7 : w3.heap.size ≤ w7.heap.size := (by first | exact hb7.size | exact Nat.le_trans (Nat.le_of_lt (by simp)) hb7.size | exact Nat.le_trans (Nat.le_succ _) hb7.size))
                    | (go_at_call 121; (with_reducible refine (HP2.out _).mono ?_); rintro e w8 ⟨A8, c8, l8, rfl, h8, hb8⟩; have s8 : w7.heap.size ≤ w8.heap.size := (by first | exact hb8.size | exact Nat.le_trans (Nat.le_of_lt (by simp)) hb8.size | exact Nat.le_trans (Nat.le_succ _) hb8.size); have h7 : NatR w8 A7 c7 l7 X := (by first | exact hn7.on hb8 | exact (hn7.on ((Below.refl _ _).alloc (Nat.le_refl _) _)).on hb8); (first | (have HBX := JBox.on (show JBox (w7.alloc (.cells #[.bool false, .slice none 0 0, .slice none 0 0] 73)) w7.heap.size from alloc_at w7 _ _ rfl) hb8) | (have HBX := JBox.on (JBox.on (show JBox ((w3.alloc (.cells #[.bool false, .slice none 0 0, .slice none 0 0] 73)).drew) w3.heap.size from alloc_at w3 _ _ rfl) hb7) hb8) | have HBX := True.intro); (try obtain ⟨q0, q1, q2, z0, z1, z2, hlt⟩ := HBX.facts)))
                all_goals go_wp2_with fail
                all_goals go_meet
                all_goals first
                  | exact ⟨_, rfl, jvar_set HBX (by simp) h7 h8, by go_split_ands; assumption⟩
                  | exact ⟨_, rfl, ⟨A7, c7, l7, A8, c8, l8, alloc_at _ _ _ rfl, h7.on ((Below.refl _ _).alloc (Nat.le_refl _) _), h8.on ((Below.refl _ _).alloc (Nat.le_refl _) _)⟩, by go_split_ands; assumption⟩
              case rest =>
                obtain ⟨B6, rfl, hv6, hbc⟩ := hcut
                obtain ⟨A9, c9, l9, A0, c0, l0, hg, n9, n0⟩ := hv6.get
                have HBC := Lib.hid (below_next HB3_.out hbc)
                have hl9 : l9.length ≤ 2000 := n9.len HE1.out
                have hl0_ : l0.length ≤ 2000 := n0.len HE2.out
                have HG := Lib.hid (natGcd_any A0 A9 c0 c9 l0 l9 Y X wc n0 n9 (by omega) (by omega))
                rw [← HGD.out] at HG
                have HGV := Lib.hid hg
                have HN9 := Lib.hid n9
                have HN0 := Lib.hid n0
                obtain ⟨g0, g1, g2⟩ := hg wc (Below.refl _ _)
                clear hbc hg n9 n0 hv6 p1
                go_wp2_with fail
                (with_reducible refine HG.out.mono ?_)
                rintro e w9 ⟨AG, cG, lG, rfl, hnG, hb9⟩
                have HNG := Lib.hid hnG
                have HB9 := Lib.hid hb9
                clear hnG hb9 g0 g1 g2
                go_wp2_with fail
                (with_reducible refine (HO.out _).mono ?_)
                rintro e wO ⟨AO, cO, lO, rfl, hnO, hbO⟩
                have hlG : lG.length ≤ 2000 := HNG.out.len HGL.out
                have hlO : lO.length ≤ 1 := hnO.len (W64_gt 1 (by omega))
                have HC := Lib.hid (natCmp_any AG AO cG cO lG lO G 1 wO (HNG.out.on hbO) hnO (by omega) (by omega))
                rw [← HCV.out] at HC
                have HBO := Lib.hid (below_next HB9.out hbO)
                clear hnO hbO
                go_wp2_with fail
                (with_reducible refine HC.out.mono ?_)
                rintro e wD ⟨rfl, q, hq⟩
                have hbD : Below wO.heap.size wO wD := by rw [hq]; exact below_drewN (Below.refl _ wO) q
                have HBD := Lib.hid (below_next HBO.out hbD)
                obtain ⟨g0, g1, g2⟩ := HGV.out wD HBD.out
                obtain ⟨p0, p1, k0, k1, k2, z0, z1, z2, hl0⟩ := HK.out wD (below_next HBC.out HBD.out)
                clear hq hbD
                cases zb with
                | true =>
                  have HR := Lib.hid (show rv = 2 by rw [HRV2.out]; rfl)
                  go_wp2
                  refine bodyPost_ret (v := .tuple #[.agg #[.bool false, .slice none 0 0, .slice none 0 0], .int .i64 2]) (by simp [results, Tryz.results104, go_sem, k0, k1, k2]) rfl ⟨_, by rw [HR.out], fun hz => absurd (HR.out.symm.trans hz) (by decide), fun _ => rfl, HFIN.out _ (below_next HBC.out HBD.out) _ _ _⟩
                | false =>
                  have HR := Lib.hid (show rv = 0 by rw [HRV2.out]; rfl)
                  have HJ := Lib.hid (jf_ret (HX0.out.on (below_next HBC.out HBD.out)) (jf_mk (b := false) (HN9.out.on HBD.out) (HN0.out.on HBD.out)) (below_next HST0.out.below (below_next HBC.out HBD.out)) (by omega) (fr3 (w := wD) (B := w.heap.size + 1) (.bool false) (.slice A9 l9.length c9) (.slice A0 l0.length c0)))
                  go_wp2
                  refine bodyPost_ret (v := .tuple #[.agg #[.bool false, .slice A9 l9.length c9, .slice A0 l0.length c0], .int .i64 0]) (by simp [results, Tryz.results104, go_sem, k0, k1, k2]) rfl ⟨_, by rw [HR.out], fun _ => HJ.out.1, fun hz => absurd HR.out hz, HJ.out.2⟩
            | true =>
              obtain rfl : e4 = false := by simpa using h4
              clear h4
              go_enter Tryz.func104, Tryz.ntmps104
              go_wp2_with fail
              rw [← hW0]
              clear hW0
              go_wp2_with fail
              (with_reducible refine (HCP.out _).mono ?_)
              rintro e w1 ⟨rfl, hw1⟩
              have hw2 := hw1.symm
              subst hw2
              clear p0 p1 k0 k1 k2 z0 z1 z2 hl0
              obtain ⟨p0, p1, k0, k1, k2, z0, z1, z2, hl0⟩ := HK.out W0 (Below.refl _ _)
              go_wp2_with fail
              (with_reducible refine (HB1.out _).mono ?_)
              rintro e w2 ⟨rfl, hb2⟩
              have HB2_ := Lib.hid hb2
              clear p0 p1 k0 k1 k2 z0 z1 z2 hl0 hb2
              obtain ⟨p0, p1, k0, k1, k2, z0, z1, z2, hl0⟩ := HK.out w2 HB2_.out
              go_wp2_with fail
              (with_reducible refine (HB2.out _).mono ?_)
              rintro e w3 ⟨rfl, hb3⟩
              have HB3_ := Lib.hid (below_next HB2_.out hb3)
              clear p0 p1 k0 k1 k2 z0 z1 z2 hl0 hb3
              obtain ⟨p0, p1, k0, k1, k2, z0, z1, z2, hl0⟩ := HK.out w3 HB3_.out
              go_wp2_with fail
              have HKS := Lib.hid (show ∀ X, Below w3.heap.size w3 X → (fun X => Below w3.heap.size w3 X ∧ X.cell? ⟨w.heap.size, 1, none⟩ = some (.string Sb)) X from fun X hX => ⟨hX, (HK.out X (below_next HB3_.out hX)).2.1⟩)
              clear p0 k0 k1 k2 z0 z1 z2 hl0
              go_cut [6] from 54 (fun v wx => ∃ B, v = .pointer (some ⟨B, 0, none⟩) ∧ JVar wx B true X Y ∧ Below w3.heap.size w3 wx)
              case first =>
                go_region_held3 (fun X => Below w3.heap.size w3 X ∧ X.cell? ⟨w.heap.size, 1, none⟩ = some (.string Sb))
                  (first
                    | exact HKS.out _ (Below.refl _ w3).drew
                    | exact HKS.out _ ((Below.refl _ w3).alloc (Nat.le_refl _) _).drew
                    | (go_split_ands; refine HKS.out _ (below_next ?_ hb7); assumption)
                    | (go_split_ands; refine HKS.out _ (below_next ?_ hb8); assumption)
                    | (go_split_ands; refine HKS.out _ (below_next ?_ ((Below.refl _ _).alloc (Nat.le_refl _) _)); assumption)
                    | (go_split_ands; refine HKS.out _ (below_realloc (Z := .cells #[.bool false, .slice none 0 0, .slice none 0 0] 73) ?_ (by omega)); assumption)
                    | (go_split_ands; exact HKS.out _ (((Below.setCell (by assumption) (by show w3.heap.size ≤ _; first | exact Nat.le_refl _ | (dsimp only; omega) | omega) _).setCell (by show w3.heap.size ≤ _; first | exact Nat.le_refl _ | (dsimp only; omega) | omega) _).setCell (by show w3.heap.size ≤ _; first | exact Nat.le_refl _ | (dsimp only; omega) | omega) _)))
                  (first
                    | (go_at_call 121; (with_reducible refine (HP1.out _).mono ?_); rintro e w7 ⟨A7, c7, l7, rfl, hn7, hb7⟩; have s7 : w3.heap.size ≤ w7.heap.size := (by first | exact hb7.size | exact Nat.le_trans (Nat.le_of_lt (by simp)) hb7.size | exact Nat.le_trans (Nat.le_succ _) hb7.size))
                    | (go_at_call 121; (with_reducible refine (HP2.out _).mono ?_); rintro e w8 ⟨A8, c8, l8, rfl, h8, hb8⟩; have s8 : w7.heap.size ≤ w8.heap.size := (by first | exact hb8.size | exact Nat.le_trans (Nat.le_of_lt (by simp)) hb8.size | exact Nat.le_trans (Nat.le_succ _) hb8.size); have h7 : NatR w8 A7 c7 l7 X := (by first | exact hn7.on hb8 | exact (hn7.on ((Below.refl _ _).alloc (Nat.le_refl _) _)).on hb8); (first | (have HBX := JBox.on (show JBox (w7.alloc (.cells #[.bool false, .slice none 0 0, .slice none 0 0] 73)) w7.heap.size from alloc_at w7 _ _ rfl) hb8) | (have HBX := JBox.on (JBox.on (show JBox ((w3.alloc (.cells #[.bool false, .slice none 0 0, .slice none 0 0] 73)).drew) w3.heap.size from alloc_at w3 _ _ rfl) hb7) hb8) | have HBX := True.intro); (try obtain ⟨q0, q1, q2, z0, z1, z2, hlt⟩ := HBX.facts)))
                all_goals go_wp2_with fail
                all_goals go_meet
                all_goals first
                  | exact ⟨_, rfl, jvar_set HBX (by simp) h7 h8, by go_split_ands; assumption⟩
                  | exact ⟨_, rfl, ⟨A7, c7, l7, A8, c8, l8, alloc_at _ _ _ rfl, h7.on ((Below.refl _ _).alloc (Nat.le_refl _) _), h8.on ((Below.refl _ _).alloc (Nat.le_refl _) _)⟩, by go_split_ands; assumption⟩
              case rest =>
                obtain ⟨B6, rfl, hv6, hbc⟩ := hcut
                obtain ⟨A9, c9, l9, A0, c0, l0, hg, n9, n0⟩ := hv6.get
                have HBC := Lib.hid (below_next HB3_.out hbc)
                have hl9 : l9.length ≤ 2000 := n9.len HE1.out
                have hl0_ : l0.length ≤ 2000 := n0.len HE2.out
                have HG := Lib.hid (natGcd_any A0 A9 c0 c9 l0 l9 Y X wc n0 n9 (by omega) (by omega))
                rw [← HGD.out] at HG
                have HGV := Lib.hid hg
                have HN9 := Lib.hid n9
                have HN0 := Lib.hid n0
                obtain ⟨g0, g1, g2⟩ := hg wc (Below.refl _ _)
                clear hbc hg n9 n0 hv6 p1
                go_wp2_with fail
                (with_reducible refine HG.out.mono ?_)
                rintro e w9 ⟨AG, cG, lG, rfl, hnG, hb9⟩
                have HNG := Lib.hid hnG
                have HB9 := Lib.hid hb9
                clear hnG hb9 g0 g1 g2
                go_wp2_with fail
                (with_reducible refine (HO.out _).mono ?_)
                rintro e wO ⟨AO, cO, lO, rfl, hnO, hbO⟩
                have hlG : lG.length ≤ 2000 := HNG.out.len HGL.out
                have hlO : lO.length ≤ 1 := hnO.len (W64_gt 1 (by omega))
                have HC := Lib.hid (natCmp_any AG AO cG cO lG lO G 1 wO (HNG.out.on hbO) hnO (by omega) (by omega))
                rw [← HCV.out] at HC
                have HBO := Lib.hid (below_next HB9.out hbO)
                clear hnO hbO
                go_wp2_with fail
                (with_reducible refine HC.out.mono ?_)
                rintro e wD ⟨rfl, q, hq⟩
                have hbD : Below wO.heap.size wO wD := by rw [hq]; exact below_drewN (Below.refl _ wO) q
                have HBD := Lib.hid (below_next HBO.out hbD)
                obtain ⟨g0, g1, g2⟩ := HGV.out wD HBD.out
                obtain ⟨p0, p1, k0, k1, k2, z0, z1, z2, hl0⟩ := HK.out wD (below_next HBC.out HBD.out)
                clear hq hbD
                cases zb with
                | true =>
                  have HR := Lib.hid (show rv = 2 by rw [HRV2.out]; rfl)
                  go_wp2
                  refine bodyPost_ret (v := .tuple #[.agg #[.bool false, .slice none 0 0, .slice none 0 0], .int .i64 2]) (by simp [results, Tryz.results104, go_sem, k0, k1, k2]) rfl ⟨_, by rw [HR.out], fun hz => absurd (HR.out.symm.trans hz) (by decide), fun _ => rfl, HFIN.out _ (below_next HBC.out HBD.out) _ _ _⟩
                | false =>
                  have HR := Lib.hid (show rv = 0 by rw [HRV2.out]; rfl)
                  have HJ := Lib.hid (jf_ret (HX0.out.on (below_next HBC.out HBD.out)) (jf_mk (b := true) (HN9.out.on HBD.out) (HN0.out.on HBD.out)) (below_next HST0.out.below (below_next HBC.out HBD.out)) (by omega) (fr3 (w := wD) (B := w.heap.size + 1) (.bool true) (.slice A9 l9.length c9) (.slice A0 l0.length c0)))
                  go_wp2
                  refine bodyPost_ret (v := .tuple #[.agg #[.bool true, .slice A9 l9.length c9, .slice A0 l0.length c0], .int .i64 0]) (by simp [results, Tryz.results104, go_sem, k0, k1, k2]) rfl ⟨_, by rw [HR.out], fun _ => HJ.out.1, fun hz => absurd HR.out hz, HJ.out.2⟩
end Go.Proofs.YtnpfdelklolchaaGreatDoor
