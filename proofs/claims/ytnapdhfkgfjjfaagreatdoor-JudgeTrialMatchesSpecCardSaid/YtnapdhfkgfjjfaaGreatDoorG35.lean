import Derived.Test.YtnapdhfkgfjjfaaGreatDoorG34
import Derived.Test.YtnapdhfkgfjjfaaGreatDoorG16
import Derived.Test.YtnapdhfkgfjjfaaGreatDoorG24
/- Package judge: what so many results of a trial say; its bounds. Printed by gen_jbnd.py. -/
namespace Go.Proofs.YtnapdhfkgfjjfaaGreatDoor
open Go Go.RowKit Go.Proofs

theorem pow_under {x m n : Nat} (hx : x < W64 ^ 1) (hm : m < n) : x ^ m < W64 ^ n := by
  rw [Nat.pow_one] at hx
  exact Nat.lt_of_le_of_lt (Nat.pow_le_pow_left (Nat.le_of_lt hx) m) (Nat.pow_lt_pow_right W64_pos hm)
set_option maxHeartbeats 8000000 in
set_option maxRecDepth 100000 in
theorem jAfter_any (B n f : Nat) (p q r0 r1 : Rat) (w : World) (hT : TrR w B p q r0 r1) (hok : TrOk p q r0 r1) (hf : f ≤ n) (hn : n ≤ 2000) :
    Calls Tryz.prog 90 #[.pointer (some ⟨B, 0, none⟩), .int .i64 (n : Nat), .int .i64 (f : Nat)] w fun e w' => e = .returned (.int .i64 (verN p q r0 r1 n f)) ∧ Below w.heap.size w w' := by
  obtain ⟨A1, c1, l1, A2, c2, l2, hk0, h1, h2⟩ := hT.bad.get
  obtain ⟨A3, c3, l3, A4, c4, l4, hk1, h3, h4⟩ := hT.good.get
  obtain ⟨g1, g2, g3, g4⟩ := tr_lt hok.g hok.s
  have g1 : bdN p q < W64 ^ 1 := by unfold W64; omega
  have g2 : bdD p q < W64 ^ 1 := by unfold W64; omega
  have g3 : gdN p q < W64 ^ 1 := by unfold W64; omega
  have g4 : gdD p q < W64 ^ 1 := by unfold W64; omega
  obtain ⟨K, hK⟩ : ∃ K : Nat, 2000 < K ∧ K ≤ 2001 := ⟨2001, by omega, by omega⟩
  have hpw : ∀ x m : Nat, x < W64 ^ 1 → m ≤ 2000 → x ^ m < W64 ^ K := fun x m hx hm => pow_under hx (Nat.lt_of_le_of_lt hm hK.1)
  have hv := ver_low r0 r1 hok.g n f
  have HPB := Lib.hid (fun W (hb : Below w.heap.size w W) => jPower_any _ false _ _ f W (jf_mk (h1.on hb) (h2.on hb)) g1 g2 (by omega))
  have HPG := Lib.hid (fun W (hb : Below w.heap.size w W) => jPower_any _ false _ _ (n - f) W (jf_mk (h3.on hb) (h4.on hb)) g3 g4 (by omega))
  rw [show (((n - f : Nat)) : Int) = IntKind.i64.wrap ((n : Int) - (f : Int)) by rw [IntWalk.i64_in _ (by omega)]; omega] at HPG
  have q1 := hpw _ f g1 (by omega)
  have q2 := hpw _ f g2 (by omega)
  have q3 := hpw _ (n - f) g3 (by omega)
  have q4 := hpw _ (n - f) g4 (by omega)
  have HTM := Lib.hid (fun W u v (hu : JF W u false (bdN p q ^ f) (bdD p q ^ f)) (hv : JF W v false (gdN p q ^ (n - f)) (gdD p q ^ (n - f))) => jTimes_any K u v false false _ _ _ _ W (by omega) hu hv q1 q2 q3 q4)
  have HVD := Lib.hid (fun W u (hb : Below w.heap.size w W) (hu : JF W u (false != false) (bdN p q ^ f * gdN p q ^ (n - f)) (bdD p q ^ f * gdD p q ^ (n - f))) => jVerdict_any B u (false != false) _ _ (K + K) p q r0 r1 W (hT.on hb) hok hu (W64_mul q1 q3) (W64_mul q2 q4) (by omega))
  rw [hv] at HVD
  have HKS := Lib.hid (show ∀ X, Below w.heap.size w X → (fun X => Below w.heap.size w X ∧ X.cell? ⟨B, 12, none⟩ = some (.bool false) ∧ X.cell? ⟨B, 13, none⟩ = some (.slice A1 l1.length c1) ∧ X.cell? ⟨B, 14, none⟩ = some (.slice A2 l2.length c2) ∧ X.cell? ⟨B, 15, none⟩ = some (.bool false) ∧ X.cell? ⟨B, 16, none⟩ = some (.slice A3 l3.length c3) ∧ X.cell? ⟨B, 17, none⟩ = some (.slice A4 l4.length c4)) X from fun X hX => ⟨hX, (hk0 X hX).1, (hk0 X hX).2.1, (hk0 X hX).2.2, (hk1 X hX).1, (hk1 X hX).2.1, (hk1 X hX).2.2⟩)
  obtain ⟨V, hV⟩ : ∃ V, V = verN p q r0 r1 n f := ⟨_, rfl⟩
  rw [← hV] at HVD ⊢
  obtain ⟨x1, hx1⟩ : ∃ x, x = bdN p q ^ f := ⟨_, rfl⟩
  obtain ⟨x2, hx2⟩ : ∃ x, x = bdD p q ^ f := ⟨_, rfl⟩
  obtain ⟨x3, hx3⟩ : ∃ x, x = gdN p q ^ (n - f) := ⟨_, rfl⟩
  obtain ⟨x4, hx4⟩ : ∃ x, x = gdD p q ^ (n - f) := ⟨_, rfl⟩
  rw [← hx1, ← hx2] at HPB
  rw [← hx3, ← hx4] at HPG
  rw [← hx1, ← hx2, ← hx3, ← hx4] at HTM HVD
  clear hV hx1 hx2 hx3 hx4 hv q1 q2 q3 q4 g1 g2 g3 g4 hpw h1 h2 h3 h4 hT hok hk0 hk1
  go_enter Tryz.func90, Tryz.ntmps90
  go_upto_region 1 with fail
  refine wp_region_noPanic ?_
  refine wp_region_held_drew (S := (fun X => Below w.heap.size w X ∧ X.cell? ⟨B, 12, none⟩ = some (.bool false) ∧ X.cell? ⟨B, 13, none⟩ = some (.slice A1 l1.length c1) ∧ X.cell? ⟨B, 14, none⟩ = some (.slice A2 l2.length c2) ∧ X.cell? ⟨B, 15, none⟩ = some (.bool false) ∧ X.cell? ⟨B, 16, none⟩ = some (.slice A3 l3.length c3) ∧ X.cell? ⟨B, 17, none⟩ = some (.slice A4 l4.length c4))) (by kernel_rfl) (HKS.out _ (Below.refl _ w).drew) (fun HS0 => ?_)
  have hbx0 : Below w.heap.size w w.drew := (Below.refl _ _).drew
  obtain ⟨Xx0, hXx0⟩ : ∃ X, X = w.drew := ⟨_, rfl⟩
  rw [← hXx0] at hbx0 HS0 ⊢
  have HBx0 := Lib.hid hbx0
  clear hbx0 hXx0
  refine wpAnyH_take (i := 0) (v := ?_) rfl (by kernel_rfl) (by kernel_rfl) (by kernel_rfl) (fun _ _ _ h => h) (Or.inl ⟨by rfl, ?_⟩) HS0 ?_
  rotate_left
  · intro W hW; (try dsimp only at hW); go_simp; try (with_reducible rfl)

  refine wpAnyH_take (i := 1) (v := ?_) rfl (by kernel_rfl) (by kernel_rfl) (by kernel_rfl) (fun _ _ _ h => h) (Or.inl ⟨by rfl, ?_⟩) HS0 ?_
  rotate_left
  · intro W hW; (try dsimp only at hW); go_simp; try (with_reducible rfl)

  refine wpAnyH_take (i := 2) (v := ?_) rfl (by kernel_rfl) (by kernel_rfl) (by kernel_rfl) (fun _ _ _ h => h) (Or.inl ⟨by rfl, ?_⟩) HS0 ?_
  rotate_left
  · intro W hW; (try dsimp only at hW); go_simp; try (with_reducible rfl)

  refine wpAnyH_take (i := 3) (v := ?_) rfl (by kernel_rfl) (by kernel_rfl) (by kernel_rfl) (fun _ _ _ h => h) (Or.inl ⟨by rfl, ?_⟩) HS0 ?_
  rotate_left
  · intro W hW; (try dsimp only at hW); go_simp; try (with_reducible rfl)

  refine wpAnyH_take (i := 4) (v := ?_) rfl (by kernel_rfl) (by kernel_rfl) (by kernel_rfl) (fun _ _ _ h => h) (Or.inl ⟨by rfl, ?_⟩) HS0 ?_
  rotate_left
  · intro W hW; (try dsimp only at hW); go_simp; try (with_reducible rfl)

  refine wpAnyH_take (i := 5) (v := ?_) rfl (by kernel_rfl) (by kernel_rfl) (by kernel_rfl) (fun _ _ _ h => h) (Or.inl ⟨by rfl, ?_⟩) HS0 ?_
  rotate_left
  · intro W hW; (try dsimp only at hW); go_simp; try (with_reducible rfl)

  refine wpAnyH_take (i := 7) (v := ?_) rfl (by kernel_rfl) (by kernel_rfl) (by kernel_rfl) (fun _ _ _ h => h) (Or.inl ⟨by rfl, ?_⟩) HS0 ?_
  rotate_left
  · intro W hW; (try dsimp only at hW); go_simp; try (with_reducible rfl)

  refine wpAnyH_take (i := 8) (v := ?_) rfl (by kernel_rfl) (by kernel_rfl) (by kernel_rfl) (fun _ _ _ h => h) (Or.inl ⟨by rfl, ?_⟩) HS0 ?_
  rotate_left
  · intro W hW; (try dsimp only at hW); go_simp; try (with_reducible rfl)

  refine wpAnyH_take (i := 9) (v := ?_) rfl (by kernel_rfl) (by kernel_rfl) (by kernel_rfl) (fun _ _ _ h => h) (Or.inl ⟨by rfl, ?_⟩) HS0 ?_
  rotate_left
  · intro W hW; (try dsimp only at hW); go_simp; try (with_reducible rfl)

  refine wpAnyH_take (i := 10) (v := ?_) rfl (by kernel_rfl) (by kernel_rfl) (by kernel_rfl) (fun _ _ _ h => h) (Or.inl ⟨by rfl, ?_⟩) HS0 ?_
  rotate_left
  · intro W hW; (try dsimp only at hW); go_simp; try (with_reducible rfl)

  refine wpAnyH_take (i := 11) (v := ?_) rfl (by kernel_rfl) (by kernel_rfl) (by kernel_rfl) (fun _ _ _ h => h) (Or.inl ⟨by rfl, ?_⟩) HS0 ?_
  rotate_left
  · intro W hW; (try dsimp only at hW); go_simp; try (with_reducible rfl)

  refine wpAnyH_take (i := 12) (v := ?_) rfl (by kernel_rfl) (by kernel_rfl) (by kernel_rfl) (fun _ _ _ h => h) (Or.inl ⟨by rfl, ?_⟩) HS0 ?_
  rotate_left
  · intro W hW; (try dsimp only at hW); go_simp; try (with_reducible rfl)

  refine wpAnyH_take (i := 13) (v := ?_) rfl (by kernel_rfl) (by kernel_rfl) (by kernel_rfl) (fun _ _ _ h => h) (Or.inl ⟨by rfl, ?_⟩) HS0 ?_
  rotate_left
  · intro W hW; (try dsimp only at hW); go_simp; try (with_reducible rfl)

  clear HS0
  refine run_one (i := 6) (by kernel_rfl) rfl rfl ?_
  intro K hK
  go_simp
  (with_reducible refine (HPB.out Xx0 (HBx0.out)).mono ?_)
  rintro e Xx1 ⟨v1, rfl, hvx1, hbx1⟩
  have HBx1 := Lib.hid (below_next (HBx0.out) hbx1)
  refine hK.out _ _ (HKS.out _ HBx1.out) ?_
  clear hK K
  intro _

  refine run_one (i := 14) (by kernel_rfl) rfl rfl ?_
  intro K hK
  go_simp
  (with_reducible refine (HPG.out Xx1 (HBx1.out)).mono ?_)
  rintro e Xx2 ⟨v2, rfl, hvx2, hbx2⟩
  have HBx2 := Lib.hid (below_next (HBx1.out) hbx2)
  refine hK.out _ _ (HKS.out _ HBx2.out) ?_
  clear hK K
  intro _

  refine run_one (i := 15) (by kernel_rfl) rfl rfl ?_
  intro K hK
  go_simp
  (with_reducible refine (HTM.out Xx2 _ _ ((hvx1).on hbx2) (hvx2)).mono ?_)
  rintro e Xx3 ⟨v3, rfl, hvx3, hbx3⟩
  have HBx3 := Lib.hid (below_next (HBx2.out) hbx3)
  refine hK.out _ _ (HKS.out _ HBx3.out) ?_
  clear hK K
  intro _

  refine run_one (i := 16) (by kernel_rfl) rfl rfl ?_
  intro K hK
  go_simp
  (with_reducible refine (HVD.out Xx3 _ (HBx3.out) (hvx3)).mono ?_)
  rintro e Xx4 ⟨rfl, hbx4⟩
  have HBx4 := Lib.hid (below_next (HBx3.out) hbx4)
  refine hK.out _ _ (HKS.out _ HBx4.out) ?_
  clear hK K
  intro _

  have HS0 := HKS.out _ (HBx4.out)
  refine wpAnyH_take (i := 17) (v := ?_) rfl (by kernel_rfl) (by kernel_rfl) (by kernel_rfl) (fun _ _ _ h => h) (Or.inl ⟨by rfl, ?_⟩) HS0 ?_
  rotate_left
  · intro W hW; (try dsimp only at hW); go_simp; try (with_reducible rfl)

  clear HS0
  refine wpAnyH_done (by kernel_rfl) ?_ _
  refine NoPanic.normal ?_
  have HBF := Lib.hid (HBx4.out)
  go_wp2
  go_ret
  exact ⟨rfl, HBF.out⟩

/-- which verdicts a search wants -/
inductive Sk where | notLow | high
def skF : Sk → Nat
  | .notLow => 100
  | .high => 101
def skB : Sk → Int → Bool
  | .notLow, v => v != 1
  | .high, v => v == 2
theorem jSk_any (k : Sk) (v : Int) (w : World) : Calls Tryz.prog (skF k) #[.int .i64 v] w fun e w' => e = .returned (.bool (skB k v)) ∧ w = w' := by
  cases k with
  | notLow =>
    show Calls Tryz.prog 100 _ _ _
    go_enter Tryz.func100, Tryz.ntmps100
    go_wp2
    go_ret
    exact ⟨rfl, rfl⟩
  | high =>
    show Calls Tryz.prog 101 _ _ _
    go_enter Tryz.func101, Tryz.ntmps101
    go_wp2
    go_ret
    exact ⟨rfl, rfl⟩
/-- what a search finds -/
def SkAt (ver : Nat → Int) (k : Sk) (n : Nat) (t : Nat) : Prop := t ≤ n + 1 ∧ (∀ f, f < t → ∃ g, f ≤ g ∧ g < t ∧ skB k (ver g) = false) ∧ (t ≤ n → skB k (ver t) = true)
def PBox (w : World) (B : Nat) (v : Value) (t : TypeId) : Prop := w.heap[B]? = some (.cells #[v] t (0, 0))
theorem PBox.on {w w' : World} {B : Nat} {v : Value} {t : TypeId} (h : PBox w B v t) (hb : Below w.heap.size w w') : PBox w' B v t := (hb.block B (heap_lt h)).trans h
theorem PBox.cell {w : World} {B : Nat} {v : Value} {t : TypeId} (h : PBox w B v t) : w.cell? ⟨B, 0, none⟩ = some v := by rw [cellsAt h]; rfl
set_option maxHeartbeats 8000000 in
set_option maxRecDepth 100000 in
theorem jFirst_any (k : Sk) (B Bn Bx n : Nat) (t1 t2 : TypeId) (p q r0 r1 : Rat) (w : World) (hT : TrR w B p q r0 r1) (hok : TrOk p q r0 r1) (hn : n ≤ 2000) (hbn : PBox w Bn (.int .i64 (n : Nat)) t1) (hbx : PBox w Bx (.pointer (some ⟨B, 0, none⟩)) t2) :
    Calls Tryz.prog 99 #[.func (.func (skF k)) #[] #[], .pointer (some ⟨Bn, 0, none⟩), .pointer (some ⟨Bx, 0, none⟩)] w fun e w' => ∃ t : Nat, e = .returned (.int .i64 (t : Nat)) ∧ SkAt (verN p q r0 r1 n) k n t ∧ Below w.heap.size w w' := by
  have HAF := Lib.hid (fun W f (hb : Below w.heap.size w W) (hf : f ≤ n) => jAfter_any B n f p q r0 r1 W (hT.on hb) hok hf hn)
  obtain ⟨ver, hver⟩ : ∃ v, v = verN p q r0 r1 n := ⟨_, rfl⟩
  rw [← hver] at HAF ⊢
  have HBN := Lib.hid hbn
  have HBX := Lib.hid hbx
  have o1 := hbn.cell
  clear hver hT hok hbn hbx
  cases k with
  | notLow =>
    have HSK := Lib.hid (fun v W => (show Calls Tryz.prog 100 #[.int .i64 v] W _ from jSk_any .notLow v W))
    show Calls _ _ #[.func (.func 100) #[] #[], _, _] _ _
    go_enter Tryz.func99, Tryz.ntmps99
    go_wp2_with fail
    go_quiet (fail)
    go_wp2
    go_loopw [5, 6] (fun fv tv wr => ∃ a b : Nat, fv = .int .i64 (a : Nat) ∧ tv = .int .i64 (b : Nat) ∧ a ≤ b ∧ b ≤ n + 1 ∧ (∀ f, f < a → ∃ g, f ≤ g ∧ g < a ∧ skB Sk.notLow (ver g) = false) ∧ (b ≤ n → skB Sk.notLow (ver b) = true) ∧ Below w.heap.size w wr) (fun fv tv _ => (intOf tv).toNat - (intOf fv).toNat)
    case atStart => exact ⟨0, n + 1, rfl, by go_num, by omega, by omega, fun f hf => by omega, fun h => by omega, by first | exact below_drewN (Below.refl _ _) _ | exact Below.refl _ _⟩
    case round =>
      obtain ⟨a, b, rfl, rfl, hab, hbn2, hl, hr, hbw⟩ := hrel
      have HBW := Lib.hid hbw
      have HL := Lib.hid hl
      have HR := Lib.hid hr
      by_cases hlt : a < b
      · obtain ⟨m, hm⟩ : ∃ m : Nat, m = (a + b) / 2 := ⟨_, rfl⟩
        have hm1 : a ≤ m := by omega
        have hm2 : m < b := by omega
        have hmi : ((a : Int) + (b : Int)) / 2 = (m : Int) := by rw [hm]; omega
        have o1 := (HBN.out.on hbw).cell
        have o2 := (HBX.out.on hbw).cell
        have ha := HAF.out wr m hbw (by omega)
        rw [← hmi] at ha
        have HA := Lib.hid ha
        clear ha hmi
        clear hl hr hbw
        go_wp2_with fail
        (with_reducible refine (HA.out).mono ?_)
        rintro e w1 ⟨rfl, hb1⟩
        have HB1 := Lib.hid (below_next HBW.out hb1)
        obtain ⟨v, hv⟩ : ∃ v, v = ver m := ⟨_, rfl⟩
        rw [← hv]
        have HV := Lib.hid hv
        clear hv hb1 HA
        go_wp2_with fail
        (with_reducible refine (HSK.out v _).mono ?_)
        rintro e w2 ⟨rfl, hw2⟩
        have hw2' := hw2.symm
        subst hw2'
        obtain ⟨z, hz⟩ : ∃ z, z = skB Sk.notLow v := ⟨_, rfl⟩
        rw [← hz]
        have HZ := Lib.hid hz
        clear hz
        cases z with
        | true =>
          go_wp2
          go_roundw
          case rel => exact ⟨a, m, rfl, by go_num, hm1, by omega, HL.out, fun _ => by rw [← HV.out]; exact HZ.out.symm, HB1.out⟩
          case measure => simp [intOf]; omega
        | false =>
          go_wp2
          go_roundw
          case rel => exact ⟨m + 1, b, by go_num, rfl, by omega, hbn2, fun f hf => ⟨m, by omega, by omega, by rw [← HV.out]; exact HZ.out.symm⟩, HR.out, HB1.out⟩
          case measure => simp [intOf]; omega
      · obtain rfl : a = b := by omega
        have HFIN := Lib.hid (show SkAt ver Sk.notLow n a from ⟨hbn2, hl, hr⟩)
        clear hl hr hbw
        go_wp2
        go_ret
        exact ⟨a, rfl, HFIN.out, HBW.out⟩
  | high =>
    have HSK := Lib.hid (fun v W => (show Calls Tryz.prog 101 #[.int .i64 v] W _ from jSk_any .high v W))
    show Calls _ _ #[.func (.func 101) #[] #[], _, _] _ _
    go_enter Tryz.func99, Tryz.ntmps99
    go_wp2_with fail
    go_quiet (fail)
    go_wp2
    go_loopw [5, 6] (fun fv tv wr => ∃ a b : Nat, fv = .int .i64 (a : Nat) ∧ tv = .int .i64 (b : Nat) ∧ a ≤ b ∧ b ≤ n + 1 ∧ (∀ f, f < a → ∃ g, f ≤ g ∧ g < a ∧ skB Sk.high (ver g) = false) ∧ (b ≤ n → skB Sk.high (ver b) = true) ∧ Below w.heap.size w wr) (fun fv tv _ => (intOf tv).toNat - (intOf fv).toNat)
    case atStart => exact ⟨0, n + 1, rfl, by go_num, by omega, by omega, fun f hf => by omega, fun h => by omega, by first | exact below_drewN (Below.refl _ _) _ | exact Below.refl _ _⟩
    case round =>
      obtain ⟨a, b, rfl, rfl, hab, hbn2, hl, hr, hbw⟩ := hrel
      have HBW := Lib.hid hbw
      have HL := Lib.hid hl
      have HR := Lib.hid hr
      by_cases hlt : a < b
      · obtain ⟨m, hm⟩ : ∃ m : Nat, m = (a + b) / 2 := ⟨_, rfl⟩
        have hm1 : a ≤ m := by omega
        have hm2 : m < b := by omega
        have hmi : ((a : Int) + (b : Int)) / 2 = (m : Int) := by rw [hm]; omega
        have o1 := (HBN.out.on hbw).cell
        have o2 := (HBX.out.on hbw).cell
        have ha := HAF.out wr m hbw (by omega)
        rw [← hmi] at ha
        have HA := Lib.hid ha
        clear ha hmi
        clear hl hr hbw
        go_wp2_with fail
        (with_reducible refine (HA.out).mono ?_)
        rintro e w1 ⟨rfl, hb1⟩
        have HB1 := Lib.hid (below_next HBW.out hb1)
        obtain ⟨v, hv⟩ : ∃ v, v = ver m := ⟨_, rfl⟩
        rw [← hv]
        have HV := Lib.hid hv
        clear hv hb1 HA
        go_wp2_with fail
        (with_reducible refine (HSK.out v _).mono ?_)
        rintro e w2 ⟨rfl, hw2⟩
        have hw2' := hw2.symm
        subst hw2'
        obtain ⟨z, hz⟩ : ∃ z, z = skB Sk.high v := ⟨_, rfl⟩
        rw [← hz]
        have HZ := Lib.hid hz
        clear hz
        cases z with
        | true =>
          go_wp2
          go_roundw
          case rel => exact ⟨a, m, rfl, by go_num, hm1, by omega, HL.out, fun _ => by rw [← HV.out]; exact HZ.out.symm, HB1.out⟩
          case measure => simp [intOf]; omega
        | false =>
          go_wp2
          go_roundw
          case rel => exact ⟨m + 1, b, by go_num, rfl, by omega, hbn2, fun f hf => ⟨m, by omega, by omega, by rw [← HV.out]; exact HZ.out.symm⟩, HR.out, HB1.out⟩
          case measure => simp [intOf]; omega
      · obtain rfl : a = b := by omega
        have HFIN := Lib.hid (show SkAt ver Sk.high n a from ⟨hbn2, hl, hr⟩)
        clear hl hr hbw
        go_wp2
        go_ret
        exact ⟨a, rfl, HFIN.out, HBW.out⟩
end Go.Proofs.YtnapdhfkgfjjfaaGreatDoor

/- Rows of fractions in memory ([]fraction): no cell of such a row is an integer, so no number lies in the row's own block. -/
namespace Go.Proofs.YtnapdhfkgfjjfaaGreatDoor
open Go Go.RowKit Go.Proofs

/-- a cell that is no integer -/
def NoI (u : Value) : Prop := ∀ k z, u ≠ .int k z
/-- three cells that are a fraction -/
structure Fc where
  A1 : Option Addr
  c1 : Nat
  l1 : List Nat
  x : Nat
  A2 : Option Addr
  c2 : Nat
  l2 : List Nat
  y : Nat
def Fc.v (h : Fc) : List Value := [.bool false, .slice h.A1 h.l1.length h.c1, .slice h.A2 h.l2.length h.c2]
def fcCells (l : List Fc) : List Value := l.flatMap (·.v)
theorem fcCells_length : ∀ l : List Fc, (fcCells l).length = l.length * 3
  | [] => rfl
  | h :: l => by
    have := fcCells_length l
    unfold fcCells at *
    rw [List.flatMap_cons, List.length_append, this, List.length_cons]
    simp [Fc.v]; omega
theorem fcCells_app (l : List Fc) (h : Fc) : fcCells (l ++ [h]) = fcCells l ++ h.v := by simp [fcCells]
theorem fcCells_at : ∀ (l : List Fc) (i : Nat) (h : Fc), l[i]? = some h → (fcCells l)[i * 3]? = some (.bool false) ∧ (fcCells l)[i * 3 + 1]? = some (.slice h.A1 h.l1.length h.c1) ∧ (fcCells l)[i * 3 + 2]? = some (.slice h.A2 h.l2.length h.c2)
  | [], i, h, e => by simp at e
  | g :: l, 0, h, e => by
    simp at e; subst e
    simp [fcCells, Fc.v]
  | g :: l, i + 1, h, e => by
    have ih := fcCells_at l i h (by simpa using e)
    have hc : fcCells (g :: l) = g.v ++ fcCells l := by simp [fcCells]
    have hl : g.v.length = 3 := rfl
    rw [hc]
    refine ⟨?_, ?_, ?_⟩
    · rw [List.getElem?_append_right (by rw [hl]; omega), hl, show (i + 1) * 3 - 3 = i * 3 by omega]; exact ih.1
    · rw [List.getElem?_append_right (by rw [hl]; omega), hl, show (i + 1) * 3 + 1 - 3 = i * 3 + 1 by omega]; exact ih.2.1
    · rw [List.getElem?_append_right (by rw [hl]; omega), hl, show (i + 1) * 3 + 2 - 3 = i * 3 + 2 by omega]; exact ih.2.2
theorem noI_v (h : Fc) : ∀ u ∈ h.v, NoI u := by
  intro u hu k z
  simp [Fc.v] at hu
  rcases hu with rfl | rfl | rfl <;> simp
theorem noI_cells (l : List Fc) : ∀ u ∈ fcCells l, NoI u := by
  intro u hu
  unfold fcCells at hu
  obtain ⟨h, _, hh⟩ := List.mem_flatMap.1 hu
  exact noI_v h u hh
abbrev zF : Value := .agg #[.bool false, .slice none 0 0, .slice none 0 0]
theorem noI_zero (n : Nat) : ∀ u ∈ (Builtin.zeroCells zF.cells n).toList, NoI u := by
  intro u hu k z
  unfold Builtin.zeroCells at hu
  simp only [Array.toList_map, List.mem_map] at hu
  obtain ⟨i, _, rfl⟩ := hu
  have h3 : i % 3 = 0 ∨ i % 3 = 1 ∨ i % 3 = 2 := by omega
  rcases h3 with h | h | h <;> simp [zF, Value.cells, h]
theorem zeroCells_size (n : Nat) : (Builtin.zeroCells zF.cells n).size = n * 3 := by simp [Builtin.zeroCells, zF, Value.cells]
/-- a row of fractions of one's own -/
def RowFc (w : World) (base : Nat) (e : TypeId) (v : Value) (xs : List Fc) : Prop :=
  (v = .slice none 0 0 ∧ xs = []) ∨
  ∃ g cap cs, v = .slice (some ⟨g, 0, none⟩) xs.length cap ∧ base ≤ g ∧ w.heap[g]? = some (.cells cs e (0, 0)) ∧ xs.length ≤ cap ∧ cap ≤ maxLen ∧ cs.size = cap * 3 ∧ cs.toList.take (xs.length * 3) = fcCells xs ∧ ∀ u ∈ cs.toList, NoI u
section
variable {w w' : World} {base : Nat} {e : TypeId} {v : Value} {xs : List Fc}
theorem RowFc.own (h : RowFc w base e v xs) : w.ownsRow base e 3 v xs.length (fcCells xs) := by
  refine ⟨fcCells_length xs, ?_⟩
  rcases h with ⟨rfl, rfl⟩ | ⟨g, cap, cs, rfl, hb, hg, h1, h2, h3, h4, _⟩
  · exact .inl ⟨rfl, rfl⟩
  · exact .inr ⟨g, cap, cs, rfl, hb, hg, h1, h2, h3, h4⟩
theorem RowFc.block (h : RowFc w base e v xs) {i : Nat} (hi : some i = v.ownBlock) : base ≤ i ∧ i < w.heap.size := ownsRow_block h.own hi
theorem RowFc.below (h : RowFc w base e v xs) (hb : Below w.heap.size w w') : RowFc w' base e v xs := by
  rcases h with h0 | ⟨g, cap, cs, hv, hg, hh, hr⟩
  · exact .inl h0
  · exact .inr ⟨g, cap, cs, hv, hg, (hb.block g (heap_lt hh)).trans hh, hr⟩
theorem RowFc.mono {base' : Nat} (h : RowFc w base e v xs) (hb : base' ≤ base) : RowFc w base' e v xs := by
  rcases h with h0 | ⟨g, cap, cs, hv, hg, hr⟩
  · exact .inl h0
  · exact .inr ⟨g, cap, cs, hv, Nat.le_trans hb hg, hr⟩
theorem RowFc.of_new (w : World) (base : Nat) (e : TypeId) (ys : List Fc) (cap n : Nat) (hb : base ≤ w.heap.size) (h1 : ys.length + n = cap) (h2 : cap ≤ maxLen) :
    RowFc (w.alloc (.cells ((fcCells ys).toArray ++ Builtin.zeroCells zF.cells n) e)) base e (.slice (some ⟨w.heap.size, 0, none⟩) ys.length cap) ys := by
  refine .inr ⟨w.heap.size, cap, _, rfl, hb, alloc_at _ _ _ rfl, by omega, h2, ?_, ?_, fun u hu => ?_⟩
  · rw [Array.size_append, zeroCells_size, List.size_toArray, fcCells_length]; omega
  · rw [Array.toList_append, List.toList_toArray, List.take_append_of_le_length (by rw [fcCells_length]; omega), List.take_of_length_le (by rw [fcCells_length]; omega)]
  · rw [Array.toList_append, List.toList_toArray, List.mem_append] at hu
    rcases hu with hu | hu
    · exact noI_cells ys u hu
    · exact noI_zero n u hu
theorem run_append_fc {P : Program} (w : World) (base : Nat) (t ty e : TypeId) (i : TypeInfo) (ht : P.underlying t = some (.slice e)) (hi : P.info? e = some i) (hz : i.zero = some zF)
    (hsize : i.size = 3) (hby : i.bytes ≤ 100) (v : Value) (xs : List Fc) (hown : RowFc w base e v xs) (ad : Addr) (y : Fc) (hnew : ∀ j u, y.v[j]? = some u → w.cell? (ad.add j) = some u) (h63 : xs.length ≤ 1000000) (hbase : base ≤ w.heap.size) :
    ∃ v' w', (Builtin.append_ #[t, t] ty #[v, .slice (some ad) 1 1]).run P w = .ok v' w' ∧ RowFc w' base e v' (xs ++ [y]) ∧ w.grownBy w' v.ownBlock := by
  have hml : ∀ old, grownCap w (xs.length + 1) old e ≤ maxLen := fun old => grownCap_le_maxLen w _ old e (by unfold maxLen; omega)
  have hge : ∀ old, xs.length + 1 ≤ grownCap w (xs.length + 1) old e := fun old => grownCap_ge w _ old e
  have hb := hown
  have hyl : y.v.length = 3 := rfl
  rcases hown with ⟨rfl, rfl⟩ | ⟨g, cap, cs, rfl, hbg, hg, hnc, hcm, hsz, htk, hno⟩
  · have hr := run_append_nil (P := P) w t ty e i zF ht hi hz ad 1 1 y.v (by rw [hsize]; rfl) hnew (by omega) (by omega) (by omega)
    refine ⟨_, _, hr, ?_, grown_new w _ _⟩
    have := RowFc.of_new w.drew base e [y] (grownCap w 1 0 e) (grownCap w 1 0 e - 1) hbase (by have := hge 0; simp at this ⊢; omega) (hml 0)
    simpa [fcCells] using this
  · by_cases hroom : xs.length + 1 ≤ cap
    · have hfit : xs.length * i.size + y.v.length ≤ cs.size := by rw [hsize, hyl, hsz]; omega
      have hr := run_append_room (P := P) w t ty e i ht hi g xs.length cap _ hg ad 1 1 y.v (by rw [hsize]; rfl) hnew (by simp [Value.oneCell', Fc.v]) hroom hfit
      refine ⟨_, _, hr, .inr ⟨g, cap, _, by simp, hbg, setRow_heap w g _ _ e _ hg, by simp; omega, hcm, ?_, ?_, ?_⟩, ⟨rfl, rfl, rfl, by simp, fun k _ hk => setRow_other w g k _ (fun e => hk (by simp [Value.ownBlock, e]))⟩⟩
      · simp only [List.size_toArray, List.length_append, List.length_take, List.length_drop, Array.length_toList, hsize, hyl, hsz]; omega
      · rw [hsize, htk, List.append_assoc, ← List.append_assoc, List.toList_toArray, fcCells_app]
        have hL : (fcCells xs ++ y.v).length = (xs ++ [y]).length * 3 := by rw [List.length_append, List.length_append, fcCells_length, hyl, List.length_singleton]; omega
        rw [List.take_append_of_le_length (Nat.le_of_eq hL.symm), List.take_of_length_le (Nat.le_of_eq hL)]
      · intro u hu
        rw [List.toList_toArray, List.mem_append, List.mem_append] at hu
        rcases hu with (hu | hu) | hu
        · exact hno u (List.mem_of_mem_take hu)
        · exact noI_v y u hu
        · exact hno u (List.mem_of_mem_drop hu)
    · have holds : ∀ j u, (fcCells xs)[j]? = some u → w.cell? ((⟨g, 0, none⟩ : Addr).add j) = some u := hb.own.cells (g := g) rfl
      have hr := run_append_grow (P := P) w t ty e i zF ht hi hz ⟨g, 0, none⟩ xs.length cap (fcCells xs) (by rw [fcCells_length, hsize]) holds ad 1 1 y.v (by rw [hsize]; rfl) hnew (by omega) (by omega) (growslice_fits (by omega) (by
        have := Nat.mul_le_mul_left (xs.length + 1) hby; omega))
      refine ⟨_, _, hr, ?_, grown_new w _ _⟩
      have := RowFc.of_new w.drew base e (xs ++ [y]) (grownCap w (xs.length + 1) cap e) (grownCap w (xs.length + 1) cap e - (xs.length + 1)) hbase (by have := hge cap; simp; omega) (hml cap)
      rw [fcCells_app] at this
      simpa using this
theorem wpList_append_fc {P : Program} {w : World} {ops : Array Oper} {rest : List Oper} {o : Oper} {a : Act} {Q : Exit → Act → World → Prop} (hgd : o.guard = none) (s x : Operand) (t : TypeId)
    (ho : o.op = .call { callee := .builtin .append, args := #[s, x], argTypes := #[t, t] })
    (base : Nat) (e : TypeId) (i : TypeInfo) (ht : P.underlying t = some (.slice e)) (hi : P.info? e = some i) (hz : i.zero = some zF)
    (hsize : i.size = 3) (hby : i.bytes ≤ 100) (v : Value) (xs : List Fc) (hs : a.eval s = v) (hown : RowFc w base e v xs)
    (ad : Addr) (y : Fc) (hx : a.eval x = .slice (some ad) 1 1) (hnew : ∀ j u, y.v[j]? = some u → w.cell? (ad.add j) = some u) (h63 : xs.length ≤ 1000000) (hbase : base ≤ w.heap.size)
    (h : ∀ v' w', RowFc w' base e v' (xs ++ [y]) → w.grownBy w' v.ownBlock → wpList P ops Q rest (a.put o.dst v') w') : wpList P ops Q (o :: rest) a w := by
  obtain ⟨v', w', hr, h2, h3⟩ := run_append_fc (P := P) w base t o.type e i ht hi hz hsize hby v xs hown ad y hnew h63 hbase
  refine wpList_plain hgd fun _ hK => ?_
  unfold Oper.wp execOp
  simp only [ho, resolve, invoke, builtin, Sem.run_bind, Sem.run_pure, Result.andThen_ok, List.map_toArray, List.map_cons, List.map_nil, hs, hx, hr]
  exact hK _ _ (h v' w' h2 h3)
/-- no number lies in the row's block -/
theorem RowFc.cells (hr : RowFc w base e v xs) {b j : Nat} {u : Value} (hv : v.ownBlock = some b) (hc : w.cell? ⟨b, j, none⟩ = some u) : NoI u := by
  rcases hr with ⟨rfl, _⟩ | ⟨g, cap, cs, rfl, _, hg, _, _, _, _, hno⟩
  · cases hv
  · simp only [Value.ownBlock, Option.some.injEq] at hv
    subst hv
    rw [cellsAt hg] at hc
    exact hno u (Array.mem_toList_iff.2 (Array.mem_of_getElem? hc))
theorem NatR.rowf {A : Option Addr} {c x : Nat} {l : List Nat} (h : NatR w A c l x) (hr : RowFc w base e v xs) (hg : w.grownBy w' v.ownBlock) : NatR w' A c l x := by
  refine ⟨⟨h.rd.1, fun hl => ?_⟩, h.norm, h.val, h.cap, h.max, h.nil⟩
  obtain ⟨b, o, e', h1, h2, hc⟩ := h.rd.2 hl
  refine ⟨b, o, e', h1, Nat.lt_of_lt_of_le h2 hg.size, fun j u hj => ?_⟩
  rw [← hc j u hj]
  refine World.cell?_of_block (hg.block b h2 (fun hb => ?_))
  have hu := hr.cells hb.symm (hc j u hj)
  unfold u64s at hj
  obtain ⟨d, _, rfl⟩ := List.mem_map.1 (List.mem_of_getElem? hj)
  exact hu _ _ rfl
end
/-- with its numbers -/
def RowFr (w : World) (base : Nat) (e : TypeId) (v : Value) (xs : List Fc) : Prop := RowFc w base e v xs ∧ ∀ h ∈ xs, NatR w h.A1 h.c1 h.l1 h.x ∧ NatR w h.A2 h.c2 h.l2 h.y
section
variable {w w' : World} {base : Nat} {e : TypeId} {v v' : Value} {xs : List Fc} {y : Fc}
theorem RowFr.nil : RowFr w base e (.slice none 0 0) [] := ⟨.inl ⟨rfl, rfl⟩, fun _ h => by cases h⟩
theorem RowFr.call (h : RowFr w base e v xs) (hb : Below w.heap.size w w') : RowFr w' base e v xs := ⟨h.1.below hb, fun y hy => ⟨(h.2 y hy).1.on hb, (h.2 y hy).2.on hb⟩⟩
theorem RowFr.app (h : RowFr w base e v xs) (hy : NatR w y.A1 y.c1 y.l1 y.x) (hy2 : NatR w y.A2 y.c2 y.l2 y.y) (h' : RowFc w' base e v' (xs ++ [y])) (hg : w.grownBy w' v.ownBlock) : RowFr w' base e v' (xs ++ [y]) := by
  refine ⟨h', fun z hz => ?_⟩
  rw [List.mem_append, List.mem_singleton] at hz
  rcases hz with hz | rfl
  · exact ⟨(h.2 z hz).1.rowf h.1 hg, (h.2 z hz).2.rowf h.1 hg⟩
  · exact ⟨hy.rowf h.1 hg, hy2.rowf h.1 hg⟩
/-- an element's cells -/
theorem RowFr.at {i : Nat} {h : Fc} (hr : RowFr w base e v xs) (hi : xs[i]? = some h) : ∃ g cap, v = .slice (some ⟨g, 0, none⟩) xs.length cap ∧ g < w.heap.size ∧ w.cell? ⟨g, i * 3, none⟩ = some (.bool false) ∧ w.cell? ⟨g, i * 3 + 1, none⟩ = some (.slice h.A1 h.l1.length h.c1) ∧ w.cell? ⟨g, i * 3 + 2, none⟩ = some (.slice h.A2 h.l2.length h.c2) ∧ NatR w h.A1 h.c1 h.l1 h.x ∧ NatR w h.A2 h.c2 h.l2 h.y := by
  have hn := hr.2 h (List.mem_of_getElem? hi)
  have hil := (List.getElem?_eq_some_iff.1 hi).1
  obtain ⟨a0, a1, a2⟩ := fcCells_at xs i h hi
  rcases hr.1 with ⟨_, rfl⟩ | ⟨g, cap, cs, rfl, _, hg, _, _, _, htk, _⟩
  · simp at hi
  · have hcell : ∀ j u, (fcCells xs)[j]? = some u → w.cell? ⟨g, j, none⟩ = some u := by
      intro j u hj
      have hjl := (List.getElem?_eq_some_iff.1 hj).1
      rw [fcCells_length] at hjl
      rw [← htk, List.getElem?_take_of_lt hjl, Array.getElem?_toList] at hj
      rw [cellsAt hg]; exact hj
    exact ⟨g, cap, rfl, heap_lt hg, hcell _ _ a0, hcell _ _ a1, hcell _ _ a2, hn.1, hn.2⟩
end
end Go.Proofs.YtnapdhfkgfjjfaaGreatDoor
