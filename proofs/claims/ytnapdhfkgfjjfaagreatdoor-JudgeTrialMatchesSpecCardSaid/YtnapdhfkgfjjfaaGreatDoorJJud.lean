/- Package judge: Judge. -/
import Derived.Test.YtnapdhfkgfjjfaaGreatDoorG38
import Derived.Test.YtnapdhfkgfjjfaaGreatDoorG42
namespace Go.Proofs.YtnapdhfkgfjjfaaGreatDoor
open Go Go.RowKit Go.Proofs

theorem bls_at {w : World} {A : Option Addr} {l : List Bool} {i : Nat} (h : Rd w 0 w.heap.size 1 A l.length (bls l)) (hi : i < l.length) : ∃ b o z, A = some ⟨b, o, none⟩ ∧ l[i]? = some z ∧ w.cell? ⟨b, o + i, none⟩ = some (.bool z) := by
  obtain ⟨b, o, u, h1, _, h3, h4⟩ := h.at1 hi
  unfold bls at h3
  rw [List.getElem?_map, Option.map_eq_some_iff] at h3
  obtain ⟨z, hz, rfl⟩ := h3
  exact ⟨b, o, z, h1, hz, h4⟩
/-- the likelihoods, in lowest terms, of the first k results -/
def likU (p q : Rat) (l : List Bool) (k : Nat) : Nat := bdN p q ^ bads l k * gdN p q ^ (k - bads l k)
def likD (p q : Rat) (l : List Bool) (k : Nat) : Nat := bdD p q ^ bads l k * gdD p q ^ (k - bads l k)
theorem lik_step (a g : Nat) {l : List Bool} {k : Nat} {b : Bool} (h : l[k]? = some b) : a ^ bads l (k + 1) * g ^ (k + 1 - bads l (k + 1)) = a ^ bads l k * g ^ (k - bads l k) * (if b = true then a else g) := by
  have hb := bads_le l k
  rw [bads_succ h]
  cases b
  · simp only [Bool.false_eq_true, if_false, Nat.add_zero]
    rw [show k + 1 - bads l k = k - bads l k + 1 by omega, Nat.pow_succ, Nat.mul_assoc]
  · simp only [if_true]
    rw [show k + 1 - (bads l k + 1) = k - bads l k by omega, Nat.pow_succ, Nat.mul_right_comm]
/-- the verdict after k results -/
def verK (p q r0 r1 : Rat) (l : List Bool) (k : Nat) : Int := verN p q r0 r1 k (bads l k)
theorem lik_ver {p q : Rat} (r0 r1 : Rat) (h : TrG p q) (l : List Bool) (k : Nat) : verT r0 r1 (likU p q l k) (likD p q l k) = verK p q r0 r1 l k := ver_low r0 r1 h k (bads l k)
theorem judG_succ (p q r0 r1 : Rat) (l : List Bool) (m k : Nat) : judG p q r0 r1 l (m + 1) k = if verK p q r0 r1 l (k + 1) = 3 then judG p q r0 r1 l m (k + 1) else (verK p q r0 r1 l (k + 1), ((k + 1 : Nat) : Int)) := rfl
/-- what Judge returns: verdict, place -/
theorem jud_some {p q r0 r1 : Rat} {l : List Bool} : ∀ {m k i : Nat}, (∀ j, k ≤ j → j < i → verK p q r0 r1 l (j + 1) = 3) → k ≤ i → i < k + m → verK p q r0 r1 l (i + 1) ≠ 3 → judG p q r0 r1 l m k = (verK p q r0 r1 l (i + 1), ((i + 1 : Nat) : Int))
  | 0, k, i, _, h1, h2, _ => by omega
  | m + 1, k, i, h0, h1, h2, h3 => by
    rw [judG_succ]
    rcases Nat.eq_or_lt_of_le h1 with e | e
    · subst e
      rw [if_neg h3]
    · rw [if_pos (h0 k (Nat.le_refl _) e)]
      exact jud_some (fun j hj hji => h0 j (by omega) hji) (by omega) (by omega) h3
theorem jud_none {p q r0 r1 : Rat} {l : List Bool} : ∀ {m k : Nat}, (∀ j, k ≤ j → j < k + m → verK p q r0 r1 l (j + 1) = 3) → judG p q r0 r1 l m k = (3, ((k + m : Nat) : Int))
  | 0, k, _ => rfl
  | m + 1, k, h => by
    rw [judG_succ, if_pos (h k (Nat.le_refl _) (by omega)), jud_none (fun j hj hji => h j (by omega) (by omega)), show k + 1 + m = k + (m + 1) by omega]
/-- the code of Judge -/
def jgC (L : List (ByteArray × ByteArray)) (p q : Rat) (n : Nat) : Int := if trCode L p q ≠ 0 then trCode L p q else if 2000 < n then 3 else 0
def jgV (L : List (ByteArray × ByteArray)) (p q r0 r1 : Rat) (l : List Bool) : Value := if jgC L p q l.length ≠ 0 then .tuple #[.int .i64 0, .int .i64 0, .int .i64 (jgC L p q l.length)] else .tuple #[.int .i64 (judT p q r0 r1 l).1, .int .i64 (judT p q r0 r1 l).2, .int .i64 0]
theorem jgV_tr {L : List (ByteArray × ByteArray)} {p q r0 r1 : Rat} {l : List Bool} (h : trCode L p q ≠ 0) : jgV L p q r0 r1 l = .tuple #[.int .i64 0, .int .i64 0, .int .i64 (trCode L p q)] := by
  have e : jgC L p q l.length = trCode L p q := by unfold jgC; rw [if_pos h]
  unfold jgV; rw [e, if_pos h]
theorem jgV_sz {L : List (ByteArray × ByteArray)} {p q r0 r1 : Rat} {l : List Bool} (h : trCode L p q = 0) (h2 : 2000 < l.length) : jgV L p q r0 r1 l = .tuple #[.int .i64 0, .int .i64 0, .int .i64 3] := by
  have e : jgC L p q l.length = 3 := by unfold jgC; rw [if_neg (by omega), if_pos h2]
  unfold jgV; rw [e, if_pos (by decide)]
theorem jgV_some {L : List (ByteArray × ByteArray)} {p q r0 r1 : Rat} {l : List Bool} (h : trCode L p q = 0) (h2 : l.length ≤ 2000) {i : Nat} (h3 : ∀ j, j < i → verK p q r0 r1 l (j + 1) = 3) (h4 : i < l.length) (h5 : verK p q r0 r1 l (i + 1) ≠ 3) : jgV L p q r0 r1 l = .tuple #[.int .i64 (verK p q r0 r1 l (i + 1)), .int .i64 ((i : Int) + 1), .int .i64 0] := by
  have e : jgC L p q l.length = 0 := by unfold jgC; rw [if_neg (by omega), if_neg (by omega)]
  unfold jgV judT
  rw [e, if_neg (by decide), jud_some (fun j _ hj => h3 j hj) (Nat.zero_le _) (by omega) h5]
  simp
theorem jgV_none {L : List (ByteArray × ByteArray)} {p q r0 r1 : Rat} {l : List Bool} (h : trCode L p q = 0) (h2 : l.length ≤ 2000) (h3 : ∀ j, j < l.length → verK p q r0 r1 l (j + 1) = 3) : jgV L p q r0 r1 l = .tuple #[.int .i64 3, .int .i64 (l.length : Nat), .int .i64 0] := by
  have e : jgC L p q l.length = 0 := by unfold jgC; rw [if_neg (by omega), if_neg (by omega)]
  unfold jgV judT
  rw [e, if_neg (by decide), jud_none (fun j _ hj => h3 j (by omega))]
  simp
set_option maxHeartbeats 8000000 in
set_option maxRecDepth 100000 in
theorem jJudge_any (S0 S1 S2 S3 S4 S5 S6 S7 : ByteArray) (A : Option Addr) (c : Nat) (l : List Bool) (w : World) (z0 : S0.size ≤ 9223372036854775800) (z1 : S1.size ≤ 9223372036854775800) (z2 : S2.size ≤ 9223372036854775800) (z3 : S3.size ≤ 9223372036854775800) (z4 : S4.size ≤ 9223372036854775800) (z5 : S5.size ≤ 9223372036854775800) (z6 : S6.size ≤ 9223372036854775800) (z7 : S7.size ≤ 9223372036854775800) (hrd : Rd w 0 w.heap.size 1 A l.length (bls l)) (hlm : l.length ≤ 9223372036854775807) :
    Calls Tryz.prog 22 #[.agg #[.string S0, .string S1, .string S2, .string S3, .string S4, .string S5, .string S6, .string S7], .slice A l.length c] w fun e w' => e = .returned (jgV (TL S0 S1 S2 S3 S4 S5 S6 S7) (prQ (S0, S1)) (prQ (S2, S3)) (prQ (S4, S5)) (prQ (S6, S7)) l) ∧ Below w.heap.size w w' := by
  obtain ⟨L, hL⟩ : ∃ L, L = TL S0 S1 S2 S3 S4 S5 S6 S7 := ⟨_, rfl⟩
  obtain ⟨W0, hW0⟩ : ∃ W0, W0 = w.alloc (.cells #[.string S0, .string S1, .string S2, .string S3, .string S4, .string S5, .string S6, .string S7] 36) := ⟨_, rfl⟩
  have HST0 := Lib.hid (show St w W0 [(w.heap.size, .cells #[.string S0, .string S1, .string S2, .string S3, .string S4, .string S5, .string S6, .string S7] 36 (0, 0))] by rw [hW0]; exact (St.start w).alloc _ _ rfl)
  have HCM := Lib.hid (fun W => jCompile_any S0 S1 S2 S3 S4 S5 S6 S7 W z0 z1 z2 z3 z4 z5 z6 z7)
  rw [show [(S0, S1), (S2, S3), (S4, S5), (S6, S7)] = L from hL.symm] at HCM
  rw [← hL]
  obtain ⟨p, hp⟩ : ∃ q, q = prQ (S0, S1) := ⟨_, rfl⟩
  obtain ⟨q, hq⟩ : ∃ r, r = prQ (S2, S3) := ⟨_, rfl⟩
  obtain ⟨r0, hr0⟩ : ∃ q, q = prQ (S4, S5) := ⟨_, rfl⟩
  obtain ⟨r1, hr1⟩ : ∃ q, q = prQ (S6, S7) := ⟨_, rfl⟩
  rw [← hp, ← hq, ← hr0, ← hr1] at HCM ⊢
  have HV1 := Lib.hid (jgV_tr (L := L) (p := p) (q := q) (r0 := r0) (r1 := r1) (l := l))
  have HV2 := Lib.hid (jgV_sz (L := L) (p := p) (q := q) (r0 := r0) (r1 := r1) (l := l))
  have HV3 := Lib.hid (fun h h2 i => jgV_some (L := L) (p := p) (q := q) (r0 := r0) (r1 := r1) (l := l) h h2 (i := i))
  have HV4 := Lib.hid (jgV_none (L := L) (p := p) (q := q) (r0 := r0) (r1 := r1) (l := l))
  obtain ⟨C, hC⟩ : ∃ c, c = trCode L p q := ⟨_, rfl⟩
  obtain ⟨V, hV⟩ : ∃ c, c = jgV L p q r0 r1 l := ⟨_, rfl⟩
  unfold CompPost at HCM
  rw [← hC] at HCM HV1 HV2 HV3 HV4
  rw [← hV] at HV1 HV2 HV3 HV4 ⊢
  have HW := Lib.hid (fun W => jWhole_any 1 W (by omega) (by omega))
  rw [show decide ((1 : Int) < 0) = false from rfl, show (1 : Int).natAbs = 1 from rfl] at HW
  have HRD := Lib.hid hrd
  have p0 : W0.cell? ⟨w.heap.size, 0, none⟩ = some (.string S0) := HST0.out.cell 0 0 rfl rfl
  have p1 : W0.cell? ⟨w.heap.size, 1, none⟩ = some (.string S1) := HST0.out.cell 0 1 rfl rfl
  have p2 : W0.cell? ⟨w.heap.size, 2, none⟩ = some (.string S2) := HST0.out.cell 0 2 rfl rfl
  have p3 : W0.cell? ⟨w.heap.size, 3, none⟩ = some (.string S3) := HST0.out.cell 0 3 rfl rfl
  have p4 : W0.cell? ⟨w.heap.size, 4, none⟩ = some (.string S4) := HST0.out.cell 0 4 rfl rfl
  have p5 : W0.cell? ⟨w.heap.size, 5, none⟩ = some (.string S5) := HST0.out.cell 0 5 rfl rfl
  have p6 : W0.cell? ⟨w.heap.size, 6, none⟩ = some (.string S6) := HST0.out.cell 0 6 rfl rfl
  have p7 : W0.cell? ⟨w.heap.size, 7, none⟩ = some (.string S7) := HST0.out.cell 0 7 rfl rfl
  clear hL hp hq hr0 hr1 hC hV z0 z1 z2 z3 z4 z5 z6 z7 hrd
  go_enter Tryz.func22, Tryz.ntmps22
  go_wp2_with fail
  rw [← hW0]
  clear hW0
  (with_reducible refine (HCM.out _).mono ?_)
  rintro e w1 (⟨hne, rfl, hb1⟩ | ⟨hz, B, rfl, hT, hok, hBl, hb1⟩)
  · have HB := Lib.hid (below_next HST0.out.below hb1)
    have HD := Lib.hid (HV1.out hne)
    have t1 : (C != 0) = true := by rw [bne_iff_ne]; exact hne
    clear hne hb1 p0 p1 p2 p3 p4 p5 p6 p7
    go_wp2
    refine bodyPost_ret (v := .tuple #[.int .i64 0, .int .i64 0, .int .i64 C]) (by simp [results, Tryz.results22, go_sem]) rfl ⟨by rw [HD.out], HB.out⟩
  · have HB := Lib.hid (below_next HST0.out.below hb1)
    have HZ := Lib.hid hz
    by_cases hr : 2000 < l.length
    · have HD := Lib.hid (HV2.out HZ.out hr)
      have t2 : decide ((2000 : Int) < (l.length : Int)) = true := decide_eq_true (by omega)
      clear hT hok hBl hz hb1 p0 p1 p2 p3 p4 p5 p6 p7
      go_wp2
      refine bodyPost_ret (v := .tuple #[.int .i64 0, .int .i64 0, .int .i64 3]) (by simp [results, Tryz.results22, go_sem]) rfl ⟨by rw [HD.out], HB.out⟩
    · have t2 : decide ((2000 : Int) < (l.length : Int)) = false := decide_eq_false (by omega)
      have hl2 : l.length ≤ 2000 := by omega
      have HSOME := Lib.hid (fun i => HV3.out HZ.out hl2 i)
      have HNONE := Lib.hid (HV4.out HZ.out hl2)
      have HTR1 := Lib.hid hT
      have HOK := Lib.hid hok
      have HRD1 := Lib.hid (HRD.out.old HB.out)
      clear hT hok hBl hz hb1 hr p0 p1 p2 p3 p4 p5 p6 p7 HV1 HV2 HV3 HV4
      go_wp2_with fail
      (with_reducible refine (HW.out _).mono ?_)
      rintro e w2 ⟨v2, rfl, hv2, hb2⟩
      obtain ⟨A2, c2, l2, A3, c3, l3, rfl, h2, h3⟩ := hv2
      obtain ⟨W3, hW3⟩ : ∃ W3, W3 = w2.alloc (.cells #[.bool false, .slice A2 l2.length c2, .slice A3 l3.length c3] 69) := ⟨_, rfl⟩
      have hb23 : Below w2.heap.size w2 W3 := by rw [hW3]; exact (Below.refl _ w2).alloc (Nat.le_refl _) _
      have HX3 := Lib.hid (show JVar W3 w2.heap.size false 1 1 from ⟨A2, c2, l2, A3, c3, l3, by rw [hW3]; exact alloc_at _ _ _ rfl, h2.on hb23, h3.on hb23⟩)
      have HTR := Lib.hid (HTR1.out.on hb2)
      have HRD2 := Lib.hid (HRD1.out.old hb2)
      have HB2 := Lib.hid (below_next HB.out hb2)
      have HB23 := Lib.hid hb23
      clear h2 h3 hb2 hb23
      go_wp2
      rw [← hW3]
      clear hW3
      go_loopw [28] (fun kv wr => ∃ k : Nat, kv = .int .i64 (k : Nat) ∧ k ≤ l.length ∧ ∃ x y, JVar wr w2.heap.size false x y ∧ (x = likU p q l k ∧ y = likD p q l k) ∧ x < W64 ^ (k + 1) ∧ y < W64 ^ (k + 1) ∧ (∀ j, j < k → verK p q r0 r1 l (j + 1) = 3) ∧ Below w2.heap.size w2 wr) (fun kv _ => l.length - (intOf kv).toNat)
      case atStart => exact ⟨0, rfl, by omega, 1, 1, HX3.out, ⟨by simp [likU, bads], by simp [likD, bads]⟩, W64_gt _ (by omega), W64_gt _ (by omega), fun j hj => by omega, HB23.out⟩
      case round =>
        obtain ⟨k, rfl, hk, x, y, hvar, hxy, hxw, hyw, hall, hbw⟩ := hrel
        have HBW := Lib.hid hbw
        have HALL := Lib.hid hall
        by_cases hlt : k < l.length
        · obtain ⟨bb, oo, z, rfl, hz, hc⟩ := bls_at (HRD2.out.below hbw (Nat.le_refl _) |>.more (Nat.le_refl _) hbw.size) hlt
          have HZB := Lib.hid hz
          have HXY := Lib.hid hxy
          have HXW := Lib.hid hxw
          have HYW := Lib.hid hyw
          obtain ⟨D1, e1, m1, D2, e2, m2, hbox, hd1, hd2⟩ := hvar
          have HBX := Lib.hid hbox
          have HLV := Lib.hid (show JF wr (.agg #[.bool false, .slice D1 m1.length e1, .slice D2 m2.length e2]) false x y from jf_mk hd1 hd2)
          have d0 : wr.cell? ⟨w2.heap.size, 0, none⟩ = some (.bool false) := by rw [cellsAt hbox]; rfl
          obtain ⟨G1, f1, n1, G2, f2, n2, hgg, hn1, hn2⟩ := (HTR.out.on hbw).good.get
          obtain ⟨g0, g1, g2⟩ := hgg wr (Below.refl _ _)
          have hbt := tr_lt HOK.out.g HOK.out.s
          have hbl := heap_lt hbox
          clear hall hbw hz hxy hxw hyw hd1 hd2 hgg
          cases z with
          | false =>
            have HNA := Lib.hid hn1
            have HNB := Lib.hid hn2
            have HSZ := Lib.hid (show gdN p q < W64 ^ 1 ∧ gdD p q < W64 ^ 1 from ⟨by unfold W64; omega, by unfold W64; omega⟩)
            obtain ⟨W2, hW2⟩ : ∃ W2, W2 = wr.alloc (.cells #[.bool false, .slice G1 n1.length f1, .slice G2 n2.length f2] 69) := ⟨_, rfl⟩
            have HB12 := Lib.hid (show Below wr.heap.size wr W2 from by rw [hW2]; exact (Below.refl _ wr).alloc (Nat.le_refl _) _)
            have ex := (HB12.out.block _ hbl).trans hbox
            have o0 : W2.cell? ⟨w2.heap.size, 0, none⟩ = some (.bool false) := by rw [cellsAt ex]; rfl
            have o1 : W2.cell? ⟨w2.heap.size, 1, none⟩ = some (.slice D1 m1.length e1) := by rw [cellsAt ex]; rfl
            have o2 : W2.cell? ⟨w2.heap.size, 2, none⟩ = some (.slice D2 m2.length e2) := by rw [cellsAt ex]; rfl
            rw [hW2] at o0 o1 o2
            clear hn1 hn2 hbox ex d0 hbl hbt
            have HTM := Lib.hid (show Calls Tryz.prog 59 #[.agg #[.bool false, .slice D1 m1.length e1, .slice D2 m2.length e2], .agg #[.bool false, .slice G1 n1.length f1, .slice G2 n2.length f2]] W2 (JFPost (false != false) (x * gdN p q) (y * gdD p q) W2) from jTimes_any (k + 1) _ _ false false _ _ _ _ W2 (by omega) (HLV.out.on HB12.out) (jf_mk (HNA.out.on HB12.out) (HNB.out.on HB12.out)) HXW.out HYW.out (W64_mono HSZ.out.1 (by omega)) (W64_mono HSZ.out.2 (by omega)))
            go_wp2_with fail
            rw [← hW2]
            clear hW2 o0 o1 o2
            (with_reducible refine (HTM.out).mono ?_)
            rintro e w3 ⟨v3, rfl, hv3, hb3⟩
            obtain ⟨A8, c8, l8, A9, c9, l9, rfl, h8, h9⟩ := hv3
            have hb23 := below_next HB12.out hb3
            have e3 := (hb23.block _ (heap_lt HBX.out)).trans HBX.out
            have k0 : w3.cell? ⟨w2.heap.size, 0, none⟩ = some (.bool false) := by rw [cellsAt e3]; rfl
            have k1 : w3.cell? ⟨w2.heap.size, 1, none⟩ = some (.slice D1 m1.length e1) := by rw [cellsAt e3]; rfl
            have k2 : w3.cell? ⟨w2.heap.size, 2, none⟩ = some (.slice D2 m2.length e2) := by rw [cellsAt e3]; rfl
            have y0 := frozenAt e3 0
            have y1 := frozenAt e3 1
            have y2 := frozenAt e3 2
            have hl3 := heap_lt e3
            obtain ⟨W4, hW4⟩ : ∃ W, W = ((w3.setCell ⟨w2.heap.size, 0, none⟩ (.bool false)).setCell ⟨w2.heap.size, 1, none⟩ (.slice A8 l8.length c8)).setCell ⟨w2.heap.size, 2, none⟩ (.slice A9 l9.length c9) := ⟨_, rfl⟩
            have HV4 := Lib.hid (show JVar W4 w2.heap.size false (x * gdN p q) (y * gdD p q) from by rw [hW4]; exact jvar_set (b := false) e3 (fun z => ⟨by simp, by simp, by simp⟩) h8 h9)
            have HB4 := Lib.hid (show Below w2.heap.size w2 W4 from by rw [hW4]; exact (((below_next HBW.out hb23).setCell (p := ⟨w2.heap.size, 0, none⟩) (Nat.le_refl _) _).setCell (p := ⟨w2.heap.size, 1, none⟩) (Nat.le_refl _) _).setCell (p := ⟨w2.heap.size, 2, none⟩) (Nat.le_refl _) _)
            have HSX := Lib.hid (show x * gdN p q < W64 ^ (k + 1 + 1) ∧ y * gdD p q < W64 ^ (k + 1 + 1) from ⟨W64_mul HXW.out HSZ.out.1, W64_mul HYW.out HSZ.out.2⟩)
            obtain ⟨A6, c6, l6, A7, c7, l7, hg6, h6, h7⟩ := HV4.out.get
            obtain ⟨q0, q1, q2⟩ := hg6 W4 (Below.refl _ _)
            have HVD := Lib.hid (jVerdict_any B (.agg #[.bool false, .slice A6 l6.length c6, .slice A7 l7.length c7]) false (x * gdN p q) (y * gdD p q) (k + 1 + 1) p q r0 r1 W4 (HTR.out.on HB4.out) HOK.out (jf_mk h6 h7) HSX.out.1 HSX.out.2 (by omega))
            have HXE := Lib.hid (show x * gdN p q = likU p q l (k + 1) by unfold likU; rw [lik_step _ _ HZB.out]; rw [HXY.out.1]; rfl)
            have HYE := Lib.hid (show y * gdD p q = likD p q l (k + 1) by unfold likD; rw [lik_step _ _ HZB.out]; rw [HXY.out.2]; rfl)
            rw [HXE.out, HYE.out, lik_ver r0 r1 HOK.out.g] at HVD
            rw [hW4] at q0 q1 q2
            clear hb3 hb23 e3 h8 h9 h6 h7 hg6 HTM
            go_wp2_with fail
            rw [← hW4]
            clear hW4 k0 k1 k2 y0 y1 y2 hl3 q0 q1 q2
            (with_reducible refine (HVD.out).mono ?_)
            rintro e w5 ⟨rfl, hb5⟩
            obtain ⟨v, hv⟩ : ∃ v, v = verK p q r0 r1 l (k + 1) := ⟨_, rfl⟩
            rw [← hv]
            have HVV := Lib.hid hv
            have HV5 := Lib.hid (HV4.out.on hb5)
            have HB5 := Lib.hid (below_next HB4.out hb5)
            clear hb5 HVD
            by_cases hv3 : v = 3
            · have t3 : (v != 3) = false := by rw [hv3]; rfl
              have HV3 := Lib.hid hv3
              clear hv hv3
              go_wp2
              go_roundw
              case rel => exact ⟨k + 1, by go_num, by omega, _, _, HV5.out, ⟨HXE.out, HYE.out⟩, HSX.out.1, HSX.out.2, fun j hj => by
                rcases Nat.lt_or_ge j k with g | g
                · exact HALL.out j g
                · obtain rfl : j = k := by omega
                  rw [← HVV.out]; exact HV3.out, HB5.out⟩
              case measure => simp [intOf]; omega
            · have t3 : (v != 3) = true := by rw [bne_iff_ne]; exact hv3
              have HVF := Lib.hid (HSOME.out k HALL.out hlt (by rw [← HVV.out]; exact hv3))
              clear hv hv3
              go_wp2
              refine bodyPost_ret (v := .tuple #[.int .i64 v, .int .i64 ((k : Int) + 1), .int .i64 0]) (by simp [results, Tryz.results22, go_sem]) rfl ⟨by rw [HVF.out, ← HVV.out], below_next HB2.out HB5.out⟩
          | true =>
            obtain ⟨F1, g1', s1, F2, g2', s2, hbb, hs1, hs2⟩ := (HTR.out.on HBW.out).bad.get
            obtain ⟨j0, j1, j2⟩ := hbb wr (Below.refl _ _)
            have HNA := Lib.hid hs1
            have HNB := Lib.hid hs2
            have HSZ := Lib.hid (show bdN p q < W64 ^ 1 ∧ bdD p q < W64 ^ 1 from ⟨by unfold W64; omega, by unfold W64; omega⟩)
            obtain ⟨W1, hW1⟩ : ∃ W2, W2 = wr.alloc (.cells #[.bool false, .slice G1 n1.length f1, .slice G2 n2.length f2] 69) := ⟨_, rfl⟩
            have hb01 : Below wr.heap.size wr W1 := by rw [hW1]; exact (Below.refl _ wr).alloc (Nat.le_refl _) _
            obtain ⟨i0, i1, i2⟩ := hbb W1 hb01
            rw [hW1] at i0 i1 i2
            obtain ⟨W2, hW2⟩ : ∃ W2, W2 = wr.alloc (.cells #[.bool false, .slice F1 s1.length g1', .slice F2 s2.length g2'] 69) := ⟨_, rfl⟩
            have HB12 := Lib.hid (show Below wr.heap.size wr W2 from by rw [hW2]; exact (Below.refl _ wr).alloc (Nat.le_refl _) _)
            have ex := (HB12.out.block _ hbl).trans hbox
            have o0 : W2.cell? ⟨w2.heap.size, 0, none⟩ = some (.bool false) := by rw [cellsAt ex]; rfl
            have o1 : W2.cell? ⟨w2.heap.size, 1, none⟩ = some (.slice D1 m1.length e1) := by rw [cellsAt ex]; rfl
            have o2 : W2.cell? ⟨w2.heap.size, 2, none⟩ = some (.slice D2 m2.length e2) := by rw [cellsAt ex]; rfl
            rw [hW2] at o0 o1 o2
            clear hn1 hn2 hs1 hs2 hbb hbox ex d0 hbl hbt hW1 hb01
            have HTM := Lib.hid (show Calls Tryz.prog 59 #[.agg #[.bool false, .slice D1 m1.length e1, .slice D2 m2.length e2], .agg #[.bool false, .slice F1 s1.length g1', .slice F2 s2.length g2']] W2 (JFPost (false != false) (x * bdN p q) (y * bdD p q) W2) from jTimes_any (k + 1) _ _ false false _ _ _ _ W2 (by omega) (HLV.out.on HB12.out) (jf_mk (HNA.out.on HB12.out) (HNB.out.on HB12.out)) HXW.out HYW.out (W64_mono HSZ.out.1 (by omega)) (W64_mono HSZ.out.2 (by omega)))
            go_wp2_with fail
            rw [← hW2]
            clear hW2 o0 o1 o2
            (with_reducible refine (HTM.out).mono ?_)
            rintro e w3 ⟨v3, rfl, hv3, hb3⟩
            obtain ⟨A8, c8, l8, A9, c9, l9, rfl, h8, h9⟩ := hv3
            have hb23 := below_next HB12.out hb3
            have e3 := (hb23.block _ (heap_lt HBX.out)).trans HBX.out
            have k0 : w3.cell? ⟨w2.heap.size, 0, none⟩ = some (.bool false) := by rw [cellsAt e3]; rfl
            have k1 : w3.cell? ⟨w2.heap.size, 1, none⟩ = some (.slice D1 m1.length e1) := by rw [cellsAt e3]; rfl
            have k2 : w3.cell? ⟨w2.heap.size, 2, none⟩ = some (.slice D2 m2.length e2) := by rw [cellsAt e3]; rfl
            have y0 := frozenAt e3 0
            have y1 := frozenAt e3 1
            have y2 := frozenAt e3 2
            have hl3 := heap_lt e3
            obtain ⟨W4, hW4⟩ : ∃ W, W = ((w3.setCell ⟨w2.heap.size, 0, none⟩ (.bool false)).setCell ⟨w2.heap.size, 1, none⟩ (.slice A8 l8.length c8)).setCell ⟨w2.heap.size, 2, none⟩ (.slice A9 l9.length c9) := ⟨_, rfl⟩
            have HV4 := Lib.hid (show JVar W4 w2.heap.size false (x * bdN p q) (y * bdD p q) from by rw [hW4]; exact jvar_set (b := false) e3 (fun z => ⟨by simp, by simp, by simp⟩) h8 h9)
            have HB4 := Lib.hid (show Below w2.heap.size w2 W4 from by rw [hW4]; exact (((below_next HBW.out hb23).setCell (p := ⟨w2.heap.size, 0, none⟩) (Nat.le_refl _) _).setCell (p := ⟨w2.heap.size, 1, none⟩) (Nat.le_refl _) _).setCell (p := ⟨w2.heap.size, 2, none⟩) (Nat.le_refl _) _)
            have HSX := Lib.hid (show x * bdN p q < W64 ^ (k + 1 + 1) ∧ y * bdD p q < W64 ^ (k + 1 + 1) from ⟨W64_mul HXW.out HSZ.out.1, W64_mul HYW.out HSZ.out.2⟩)
            obtain ⟨A6, c6, l6, A7, c7, l7, hg6, h6, h7⟩ := HV4.out.get
            obtain ⟨q0, q1, q2⟩ := hg6 W4 (Below.refl _ _)
            have HVD := Lib.hid (jVerdict_any B (.agg #[.bool false, .slice A6 l6.length c6, .slice A7 l7.length c7]) false (x * bdN p q) (y * bdD p q) (k + 1 + 1) p q r0 r1 W4 (HTR.out.on HB4.out) HOK.out (jf_mk h6 h7) HSX.out.1 HSX.out.2 (by omega))
            have HXE := Lib.hid (show x * bdN p q = likU p q l (k + 1) by unfold likU; rw [lik_step _ _ HZB.out]; rw [HXY.out.1]; rfl)
            have HYE := Lib.hid (show y * bdD p q = likD p q l (k + 1) by unfold likD; rw [lik_step _ _ HZB.out]; rw [HXY.out.2]; rfl)
            rw [HXE.out, HYE.out, lik_ver r0 r1 HOK.out.g] at HVD
            rw [hW4] at q0 q1 q2
            clear hb3 hb23 e3 h8 h9 h6 h7 hg6 HTM
            go_wp2_with fail
            rw [← hW4]
            clear hW4 k0 k1 k2 y0 y1 y2 hl3 q0 q1 q2
            (with_reducible refine (HVD.out).mono ?_)
            rintro e w5 ⟨rfl, hb5⟩
            obtain ⟨v, hv⟩ : ∃ v, v = verK p q r0 r1 l (k + 1) := ⟨_, rfl⟩
            rw [← hv]
            have HVV := Lib.hid hv
            have HV5 := Lib.hid (HV4.out.on hb5)
            have HB5 := Lib.hid (below_next HB4.out hb5)
            clear hb5 HVD
            by_cases hv3 : v = 3
            · have t3 : (v != 3) = false := by rw [hv3]; rfl
              have HV3 := Lib.hid hv3
              clear hv hv3
              go_wp2
              go_roundw
              case rel => exact ⟨k + 1, by go_num, by omega, _, _, HV5.out, ⟨HXE.out, HYE.out⟩, HSX.out.1, HSX.out.2, fun j hj => by
                rcases Nat.lt_or_ge j k with g | g
                · exact HALL.out j g
                · obtain rfl : j = k := by omega
                  rw [← HVV.out]; exact HV3.out, HB5.out⟩
              case measure => simp [intOf]; omega
            · have t3 : (v != 3) = true := by rw [bne_iff_ne]; exact hv3
              have HVF := Lib.hid (HSOME.out k HALL.out hlt (by rw [← HVV.out]; exact hv3))
              clear hv hv3
              go_wp2
              refine bodyPost_ret (v := .tuple #[.int .i64 v, .int .i64 ((k : Int) + 1), .int .i64 0]) (by simp [results, Tryz.results22, go_sem]) rfl ⟨by rw [HVF.out, ← HVV.out], below_next HB2.out HB5.out⟩
        · obtain rfl : k = l.length := by omega
          have HVF := Lib.hid (HNONE.out HALL.out)
          clear hall hbw hvar hxy hxw hyw
          go_wp2
          refine bodyPost_ret (v := .tuple #[.int .i64 3, .int .i64 (l.length : Nat), .int .i64 0]) (by simp [results, Tryz.results22, go_sem]) rfl ⟨by rw [HVF.out], below_next HB2.out HBW.out⟩
end Go.Proofs.YtnapdhfkgfjjfaaGreatDoor
