/- JudgeErlangGoesOn: the law's walk. Printed by gen_lawgo.py. -/
import Derived.Test.YtpmnhdgajkickaaGreatDoorB26
import Derived.Test.YtpmnhdgajkickaaGreatDoorJErlB
import Derived.Test.YtpmnhdgajkickaaGreatDoorRtPub
import Derived.Test.YtpmnhdgajkickaaGreatDoorROver
import Derived.Test.YtpmnhdgajkickaaGreatDoorFrSz
import Derived.Test.YtpmnhdgajkickaaGreatDoorVarR
namespace Go.Proofs.YtpmnhdgajkickaaGreatDoor
open Go Go.RowKit Go.Proofs

theorem below_set2g {w W : World} {B : Nat} (h : Below w.heap.size w W) (hB : w.heap.size ≤ B) (x y : Value) : Below w.heap.size w ((W.setCell ⟨B, 0, none⟩ x).setCell ⟨B, 1, none⟩ y) := (h.setCell (p := ⟨B, 0, none⟩) hB x).setCell (p := ⟨B, 1, none⟩) hB y
/-- a pair of texts in two cells, overwritten -/
theorem set2_atg {W : World} {B : Nat} {a b x y : Value} {t : TypeId} (h : W.heap[B]? = some (.cells #[a, b] t (0, 0))) : ((W.setCell ⟨B, 0, none⟩ x).setCell ⟨B, 1, none⟩ y).heap[B]? = some (.cells #[x, y] t (0, 0)) := by
  simp [World.setCell, Array.getElem?_modify, h]
theorem set2_farg {W : World} {B B' : Nat} {x y : Value} (h : B' ≠ B) : ((W.setCell ⟨B, 0, none⟩ x).setCell ⟨B, 1, none⟩ y).heap[B']? = W.heap[B']? :=
  (Below.heap_setCell (W.setCell ⟨B, 0, none⟩ x) ⟨B, 1, none⟩ y B' h).trans (Below.heap_setCell W ⟨B, 0, none⟩ x B' h)
/-- a box that holds a pair of texts -/
def TxBoy (W : World) (B : Nat) (S1 S2 : ByteArray) : Prop := W.heap[B]? = some (.cells #[.string S1, .string S2] 23 (0, 0))
theorem TxBoy.on {w w' : World} {B : Nat} {S1 S2 : ByteArray} (h : TxBoy w B S1 S2) (hb : Below w.heap.size w w') : TxBoy w' B S1 S2 := (hb.block B (heap_lt h)).trans h
theorem TxBoy.facts {w : World} {B : Nat} {S1 S2 : ByteArray} (h : TxBoy w B S1 S2) : w.cell? ⟨B, 0, none⟩ = some (.string S1) ∧ w.cell? ⟨B, 1, none⟩ = some (.string S2) ∧ w.frozen? ⟨B, 0, none⟩ = false ∧ w.frozen? ⟨B, 1, none⟩ = false ∧ B < w.heap.size :=
  ⟨by rw [cellsAt h]; rfl, by rw [cellsAt h]; rfl, frozenAt h 0, frozenAt h 1, heap_lt h⟩

theorem rtC_zero {q : Rat} (h : rtC q = 0) : fitQ q = true ∧ rtT q = txtQ q := by
  unfold rtC at h
  split at h
  · rename_i hf; exact ⟨hf, by unfold rtT; rw [if_pos hf]⟩
  · exact absurd h (by decide)
theorem blk_zero {n : Int} {a b : List UInt8} (h : blkE n a b = 0) : eC n 0 a b = 0 ∧ rtC (erB (ratX a b) n.toNat) = 0 ∧ blkT n a b = rtT (erB (ratX a b) n.toNat) := by
  by_cases h0 : eC n 0 a b = 0
  · obtain ⟨h1, h2⟩ := blk_ok h0
    exact ⟨h0, by rw [← h2]; exact h, h1⟩
  · obtain ⟨h1, h2⟩ := blk_bad h0
    rw [h2] at h
    exact absurd h h0
theorem fit_len {q : Rat} (h : fitQ q = true) : (txtQ q).1.length ≤ 2001 ∧ (txtQ q).2.length ≤ 2000 := by
  unfold fitQ at h
  simp only [Bool.and_eq_true, decide_eq_true_eq] at h
  unfold txtQ
  split
  · exact ⟨by simp; omega, h.2⟩
  · exact ⟨by omega, h.2⟩
set_option maxHeartbeats 8000000 in
set_option maxRecDepth 100000 in
theorem lawErlGo_any (Sa Sb : ByteArray) (n : Int) (w : World) (htab : Tab w.heap.size w) (ha : Sa.size ≤ 9223372036854775800) (hb : Sb.size ≤ 9223372036854775800) :
    Calls Tryz.prog 4 #[.int .i64 n, .agg #[.string Sa, .string Sb]] w fun e w' => e = .returned (.bool true) ∧ Below w.heap.size w w' := by
  have HH := Lib.hid (fun W (hW : Below w.heap.size w W) => halves_any W ((htab.on hW).mono hW.size))
  obtain ⟨W0, hW0⟩ : ∃ W0, W0 = w.alloc (.cells #[.string Sa, .string Sb] 23) := ⟨_, rfl⟩
  have HST0 := Lib.hid (show St w W0 [(w.heap.size, .cells #[.string Sa, .string Sb] 23 (0, 0))] by rw [hW0]; exact (St.start w).alloc _ _ rfl)
  have HK := Lib.hid (show ∀ X, Below W0.heap.size W0 X → X.cell? ⟨w.heap.size, 0, none⟩ = some (.string Sa) ∧ X.cell? ⟨w.heap.size, 1, none⟩ = some (.string Sb) from fun X hX => ⟨(HST0.out.call hX).cell 0 0 rfl rfl, (HST0.out.call hX).cell 0 1 rfl rfl⟩)
  obtain ⟨p0, p1⟩ := HK.out W0 (Below.refl _ _)
  by_cases hn1 : n < 1
  · have t1 : decide (n < 1) = true := decide_eq_true hn1
    clear ha hb htab
    go_enter Tryz.func4, Tryz.ntmps4
    go_wp2_with fail
    rw [← hW0]
    clear hW0
    go_wp2_with fail
    (with_reducible refine (HH.out _ (HST0.out.below)).mono ?_)
    rintro e wh ⟨rfl, hbh⟩
    go_wp2
    go_ret
    exact ⟨by rfl, below_next (HST0.out.below) hbh⟩
  · have t1 : decide (n < 1) = false := decide_eq_false hn1
    by_cases hn2 : 50 < n
    · have t2 : decide (50 < n) = true := decide_eq_true hn2
      clear ha hb htab
      go_enter Tryz.func4, Tryz.ntmps4
      go_wp2_with fail
      rw [← hW0]
      clear hW0
      go_wp2_with fail
      (with_reducible refine (HH.out _ (HST0.out.below)).mono ?_)
      rintro e wh ⟨rfl, hbh⟩
      go_wp2
      go_ret
      exact ⟨by rfl, below_next (HST0.out.below) hbh⟩
    · have t2 : decide (50 < n) = false := decide_eq_false hn2
      have hm1 : 1 ≤ n := by omega
      have hm2 : n ≤ 50 := by omega
      have HJ1 := Lib.hid (fun W (hW : Below w.heap.size w W) => jBlockedP_any Sa Sb Sa.data.toList Sb.data.toList (n - 1) W rfl rfl ha hb ((htab.on hW).mono hW.size))
      have HJ2 := Lib.hid (fun W (hW : Below w.heap.size w W) => jBlockedP_any Sa Sb Sa.data.toList Sb.data.toList n W rfl rfl ha hb ((htab.on hW).mono hW.size))
      obtain ⟨V, hV⟩ : ∃ V, V = blkT (n - 1) Sa.data.toList Sb.data.toList := ⟨_, rfl⟩
      obtain ⟨E, hE⟩ : ∃ E, E = blkE (n - 1) Sa.data.toList Sb.data.toList := ⟨_, rfl⟩
      obtain ⟨V2, hV2⟩ : ∃ V, V = blkT n Sa.data.toList Sb.data.toList := ⟨_, rfl⟩
      obtain ⟨E2, hE2⟩ : ∃ E, E = blkE n Sa.data.toList Sb.data.toList := ⟨_, rfl⟩
      rw [← hV, ← hE] at HJ1
      rw [← hV2, ← hE2] at HJ2
      have hrR1 : ratOf V = .agg #[.string ⟨V.1.toArray⟩, .string ⟨V.2.toArray⟩] := rfl
      obtain ⟨R1, hR1⟩ : ∃ R : ByteArray, R = ⟨V.1.toArray⟩ := ⟨_, rfl⟩
      obtain ⟨R2, hR2⟩ : ∃ R : ByteArray, R = ⟨V.2.toArray⟩ := ⟨_, rfl⟩
      rw [← hR1, ← hR2] at hrR1
      have hrR3 : ratOf V2 = .agg #[.string ⟨V2.1.toArray⟩, .string ⟨V2.2.toArray⟩] := rfl
      obtain ⟨R3, hR3⟩ : ∃ R : ByteArray, R = ⟨V2.1.toArray⟩ := ⟨_, rfl⟩
      obtain ⟨R4, hR4⟩ : ∃ R : ByteArray, R = ⟨V2.2.toArray⟩ := ⟨_, rfl⟩
      rw [← hR3, ← hR4] at hrR3
      rw [hrR1] at HJ1
      rw [hrR3] at HJ2
      by_cases he1 : E = 0
      · by_cases he2 : E2 = 0
        · rw [he1] at HJ1
          rw [he2] at HJ2
          obtain ⟨b1, b2, b3⟩ := blk_zero (show blkE (n - 1) Sa.data.toList Sb.data.toList = 0 by rw [← hE]; exact he1)
          obtain ⟨b4, b5, b6⟩ := blk_zero (show blkE n Sa.data.toList Sb.data.toList = 0 by rw [← hE2]; exact he2)
          have hsh : shC .positive Sa.data.toList Sb.data.toList = 0 := by rw [← eC_ok (c := n) (lo := 0) (by omega)]; exact b4
          have HF1 := Lib.hid (fun W => rFrom_any Sa Sb Sa.data.toList Sb.data.toList W rfl rfl (shC_zero hsh).1)
          obtain ⟨s1, s2, s3, s4⟩ := posit_parts hsh
          obtain ⟨q, hq⟩ : ∃ q, q = ratX Sa.data.toList Sb.data.toList := ⟨_, rfl⟩
          rw [← hq] at HF1 s1 s2 s3 s4 b2 b3 b5 b6
          obtain ⟨p, hp⟩ : ∃ p, p = erB q (n - 1).toNat := ⟨_, rfl⟩
          obtain ⟨s, hs⟩ : ∃ p, p = erB q n.toNat := ⟨_, rfl⟩
          rw [← hp] at b2 b3
          rw [← hs] at b5 b6
          obtain ⟨f1, f2⟩ := rtC_zero b2
          obtain ⟨f3, f4⟩ := rtC_zero b5
          have hv1 : V = txtQ p := by rw [hV, b3, f2]
          have hv2 : V2 = txtQ s := by rw [hV2, b6, f4]
          have hpos := pos_of s1 s2
          obtain ⟨g1, g2⟩ := txtQ_good f1
          have hl1 : R1.data.toList = (txtQ p).1 := by rw [hR1, hv1]
          have hl2 : R2.data.toList = (txtQ p).2 := by rw [hR2, hv1]
          have hz1 := ba_size hl1
          have hz2 := ba_size hl2
          have hln := fit_len f1
          have HC1 := Lib.hid (fun W => jCheck_any R1 R2 (txtQ p).1 (txtQ p).2 W hl1 hl2 (by omega) (by omega))
          have HC2 := Lib.hid (fun W => rChk_any R1 R2 (txtQ p).1 (txtQ p).2 W hl1 hl2 (by omega) (by omega))
          rw [g1] at HC1 HC2
          have HF2 := Lib.hid (fun W => rFrom_any R1 R2 (txtQ p).1 (txtQ p).2 W hl1 hl2 g1)
          rw [g2] at HF2
          have hm3 : (n - 1).toNat + 1 = n.toNat := by omega
          have hnc : ((n.toNat : Nat) : Rat) = ((n : Int) : Rat) := by
            have : ((n.toNat : Nat) : Int) = n := by omega
            rw [show ((n.toNat : Nat) : Rat) = (((n.toNat : Nat) : Int) : Rat) from rfl, this]
          have hsc := erB_succ hpos (n - 1).toNat
          have hne := erB_one hpos (n - 1).toNat
          rw [hm3, hnc, ← hp] at hne hsc
          rw [← hs] at hsc
          have HNE := Lib.hid hne
          have hzp : Sz 101 p := by rw [hp]; exact (er_szR s1 s2 s3 s4 (Nat.le_refl 101) _ (by omega)).2.2
          have hzs : Sz 100000 s := by rw [hs]; exact (er_szR s1 s2 s3 s4 (show 101 ≤ 100000 by omega) _ (by omega)).2.2
          have hzq : Sz 2 q := ⟨T4_small (by omega) (by omega), T4_small (by omega) (by omega)⟩
          have hzn : Sz 2 ((n : Int) : Rat) := sz_int2 (T4_small (by omega) (by omega)) (by omega)
          have hzpr : Sz 103 (q * p) := sz_mul hzq hzp
          have HSQ := Lib.hid (hzq.mono (show 2 ≤ 200 by omega))
          have HSP := Lib.hid (hzp.mono (show 101 ≤ 200 by omega))
          have HSN := Lib.hid (hzn.mono (show 2 ≤ 200 by omega))
          have HSPR := Lib.hid (hzpr.mono (show 103 ≤ 200 by omega))
          have HSPL := Lib.hid ((sz_add hzn hzpr).mono (show 2 + 103 + 1 ≤ 200 by omega))
          have HWN := Lib.hid (fun W => rWhole_any n W (by omega) (by omega))
          have HRT := Lib.hid (fun u (W : World) (hW : Below w.heap.size w W) (hu : FracR W u (q * p / (((n : Int) : Rat) + q * p))) => rRatioT_any u s W (by rw [hsc]; exact hu) hzs ((htab.on hW).mono hW.size))
          rw [f3, ← hv2, hrR3] at HRT
          clear b1 b2 b3 b4 b5 b6 hsh s1 s2 s3 s4 hq hp hs f1 f2 f3 f4 hv1 hv2 hpos g1 g2 hl1 hl2 hz1 hz2 hln hm3 hnc hsc hne hzp hzs hzq hzn hzpr he1 he2 hV hE hV2 hE2 hrR1 hrR3 hR1 hR2 hR3 hR4 ha hb htab
          go_enter Tryz.func4, Tryz.ntmps4
          go_wp2_with fail
          rw [← hW0]
          clear hW0
          go_wp2_with fail
          (with_reducible refine (HJ1.out _ HST0.out.below).mono ?_)
          rintro e w1 ⟨rfl, hb1⟩
          obtain ⟨W2, hW2⟩ : ∃ W2, W2 = w1.alloc (.cells #[.string R1, .string R2] 23) := ⟨_, rfl⟩
          have hb12 : Below w1.heap.size w1 W2 := by rw [hW2]; exact (Below.refl _ w1).alloc (Nat.le_refl _) _
          have HX1 := Lib.hid (show TxBoy W2 w1.heap.size R1 R2 by rw [hW2]; exact alloc_at _ _ _ rfl)
          have HB2 := Lib.hid (below_next hb1 hb12)
          clear p0 p1 hb1 hb12
          obtain ⟨p0, p1⟩ := HK.out W2 HB2.out
          rw [hW2] at p0 p1
          go_wp2_with fail
          rw [← hW2]
          clear hW2 p0 p1
          (with_reducible refine (HJ2.out _ (below_next HST0.out.below HB2.out)).mono ?_)
          rintro e w3 ⟨rfl, hb3⟩
          obtain ⟨W4, hW4⟩ : ∃ W4, W4 = w3.alloc (.cells #[.string R3, .string R4] 23) := ⟨_, rfl⟩
          have hb34 : Below w3.heap.size w3 W4 := by rw [hW4]; exact (Below.refl _ w3).alloc (Nat.le_refl _) _
          have HX2 := Lib.hid (show TxBoy W4 w3.heap.size R3 R4 by rw [hW4]; exact alloc_at _ _ _ rfl)
          have hb24 := below_next hb3 hb34
          have HX1b := Lib.hid (HX1.out.on hb24)
          have HB4 := Lib.hid (below_next HB2.out hb24)
          clear hb3 hb34 hb24
          obtain ⟨y0, y1, -, -, -⟩ := HX1b.out.facts
          rw [hW4] at y0 y1
          go_wp2_with fail
          rw [← hW4]
          clear hW4 y0 y1
          (with_reducible refine (HC1.out _).mono ?_)
          rintro e w6 ⟨rfl, hb6⟩
          have HB6 := Lib.hid (below_next HB4.out hb6)
          obtain ⟨y0, y1, -, -, -⟩ := (HX1b.out.on hb6).facts
          have HX1c := Lib.hid (HX1b.out.on hb6)
          have HX2b := Lib.hid (HX2.out.on hb6)
          clear hb6
          go_wp2_with fail
          (with_reducible refine (HC2.out _).mono ?_)
          rintro e w8 ⟨rfl, hb8⟩
          have HB8 := Lib.hid (below_next HB6.out hb8)
          have HX1d := Lib.hid (HX1c.out.on hb8)
          have HX2d := Lib.hid (HX2b.out.on hb8)
          clear hb8 y0 y1
          go_wp2_with fail
          have HKS := Lib.hid (show ∀ X, Below w8.heap.size w8 X → (fun X => Below w8.heap.size w8 X ∧ X.cell? ⟨w.heap.size, 0, none⟩ = some (.string Sa) ∧ X.cell? ⟨w.heap.size, 1, none⟩ = some (.string Sb) ∧ X.cell? ⟨w1.heap.size, 0, none⟩ = some (.string R1) ∧ X.cell? ⟨w1.heap.size, 1, none⟩ = some (.string R2)) X from fun X hX => by
            obtain ⟨y0, y1, -, -, -⟩ := (HX1d.out.on hX).facts
            obtain ⟨p0, p1⟩ := HK.out X (below_next HB8.out hX)
            exact ⟨hX, p0, p1, y0, y1⟩)
          go_cut [9] (fun x wx => ∃ Bf, x = .pointer (some ⟨Bf, 0, none⟩) ∧ VarQ wx Bf (q * p) ∧ Below w8.heap.size w8 wx)
          case first =>
            refine wp_region_noPanic ?_
            refine wp_region_held_drew (S := (fun X => Below w8.heap.size w8 X ∧ X.cell? ⟨w.heap.size, 0, none⟩ = some (.string Sa) ∧ X.cell? ⟨w.heap.size, 1, none⟩ = some (.string Sb) ∧ X.cell? ⟨w1.heap.size, 0, none⟩ = some (.string R1) ∧ X.cell? ⟨w1.heap.size, 1, none⟩ = some (.string R2))) (by kernel_rfl) (HKS.out _ (Below.refl _ w8).drew) (fun HS0 => ?_)
            have hbx0 : Below w8.heap.size w8 w8.drew := (Below.refl _ _).drew
            obtain ⟨Xx0, hXx0⟩ : ∃ X, X = w8.drew := ⟨_, rfl⟩
            rw [← hXx0] at hbx0 HS0 ⊢
            have HBx0 := Lib.hid hbx0
            clear hbx0 hXx0
            refine wpAnyH_take (i := 0) (v := ?_) rfl (by kernel_rfl) (by kernel_rfl) (by kernel_rfl) (fun _ _ _ h => h) (Or.inl ⟨by rfl, ?_⟩) HS0 ?_
            rotate_left
            · intro W hW; (try dsimp only at hW); go_simp; try (with_reducible rfl)
            (try simp only [List.getElem_toArray, List.getElem_cons_succ, List.getElem_cons_zero, Act.put, List.setIfInBounds_toArray, List.set_cons_zero, List.set_cons_succ])
            refine wpAnyH_take (i := 2) (v := ?_) rfl (by kernel_rfl) (by kernel_rfl) (by kernel_rfl) (fun _ _ _ h => h) (Or.inl ⟨by rfl, ?_⟩) HS0 ?_
            rotate_left
            · intro W hW; (try dsimp only at hW); go_simp; try (with_reducible rfl)
            (try simp only [List.getElem_toArray, List.getElem_cons_succ, List.getElem_cons_zero, Act.put, List.setIfInBounds_toArray, List.set_cons_zero, List.set_cons_succ])
            clear HS0
            refine wpAnyH_ready (rs := [1, 5]) (by kernel_rfl) (by simp) ?_
            refine AllReadyH.cons rfl (fun K hK => ?_) ?_
            · go_simp
              (with_reducible refine (HF1.out Xx0).mono ?_)
              rintro e Xx1 ⟨v1, rfl, hvx1, hbx1⟩
              have HBx1 := Lib.hid (below_next (HBx0.out) hbx1)
              refine hK.out _ _ (HKS.out _ HBx1.out) ?_
              clear hK K
              intro _
              obtain ⟨bfo, Afo, cfo, lfo, Dfo, dfo, mfo, rfl⟩ := hvx1.shape
              (try simp only [List.getElem_toArray, List.getElem_cons_succ, List.getElem_cons_zero, Act.put, List.setIfInBounds_toArray, List.set_cons_zero, List.set_cons_succ])
              refine wpAnyH_ready (rs := [3, 5]) (by kernel_rfl) (by simp) ?_
              refine AllReadyH.cons rfl (fun K hK => ?_) ?_
              · go_simp
                (with_reducible refine (HF2.out Xx1).mono ?_)
                rintro e Xx2 ⟨v2, rfl, hvx2, hbx2⟩
                have HBx2 := Lib.hid (below_next (HBx1.out) hbx2)
                refine hK.out _ _ (HKS.out _ HBx2.out) ?_
                clear hK K
                intro _
                obtain ⟨bfr, Afr, cfr, lfr, Dfr, dfr, mfr, rfl⟩ := hvx2.shape
                (try simp only [List.getElem_toArray, List.getElem_cons_succ, List.getElem_cons_zero, Act.put, List.setIfInBounds_toArray, List.set_cons_zero, List.set_cons_succ])
                refine wpAnyH_ready (rs := [4, 5]) (by kernel_rfl) (by simp) ?_
                refine AllReadyH.cons rfl (fun K hK => ?_) ?_
                · go_simp
                  (with_reducible refine (rTimes_any 200 _ _ q p Xx2 (by omega) ((hvx1).on hbx2) (hvx2) HSQ.out HSP.out).mono ?_)
                  rintro e Xx3 ⟨v3, rfl, hvx3, hbx3⟩
                  have HBx3 := Lib.hid (below_next (HBx2.out) hbx3)
                  refine hK.out _ _ (HKS.out _ HBx3.out) ?_
                  clear hK K
                  intro _
                  obtain ⟨bab, Aab, cab, lab, Dab, dab, mab, rfl⟩ := hvx3.shape
                  (try simp only [List.getElem_toArray, List.getElem_cons_succ, List.getElem_cons_zero, Act.put, List.setIfInBounds_toArray, List.set_cons_zero, List.set_cons_succ])
                  refine run_one (i := 5) (by kernel_rfl) rfl rfl ?_
                  intro K hK
                  obtain ⟨Xx4, hXx4⟩ : ∃ X, X = Xx3.alloc (.cells #[.bool false, .slice none 0 0, .slice none 0 0] 35) := ⟨_, rfl⟩
                  have hbx4 : Below Xx3.heap.size Xx3 Xx4 := by rw [hXx4]; exact (Below.refl _ _).alloc (Nat.le_refl _) _
                  have hxx4 : FBox Xx4 Xx3.heap.size := by rw [hXx4]; exact alloc_at _ _ _ rfl
                  have HBx4 := Lib.hid (below_next (HBx3.out) hbx4)
                  have hwx4 : w8.heap.size ≤ Xx3.heap.size := (HBx3.out).size
                  go_simp
                  rw [← hXx4]
                  clear hXx4
                  refine hK.out _ _ (HKS.out _ HBx4.out) ?_
                  clear hK K
                  intro _
                  (try simp only [List.getElem_toArray, List.getElem_cons_succ, List.getElem_cons_zero, Act.put, List.setIfInBounds_toArray, List.set_cons_zero, List.set_cons_succ])
                  obtain ⟨k0, k1, k2, z0, z1, z2, hlt⟩ := FBox.facts (hxx4)
                  obtain ⟨Xx5, hXx5⟩ : ∃ X, X = ((Xx4.setCell ⟨Xx3.heap.size, 0, none⟩ (.bool bab)).setCell ⟨Xx3.heap.size, 1, none⟩ (.slice Aab lab.length cab)).setCell ⟨Xx3.heap.size, 2, none⟩ (.slice Dab mab.length dab) := ⟨_, rfl⟩
                  have HVx5 := Lib.hid (show VarQ Xx5 Xx3.heap.size _ by rw [hXx5]; exact VarQ.store (hxx4) ((hvx3).on hbx4))
                  have HBx5 := Lib.hid (show Below w8.heap.size w8 Xx5 by rw [hXx5]; exact (((HBx4.out).setCell (p := ⟨Xx3.heap.size, 0, none⟩) hwx4 _).setCell (p := ⟨Xx3.heap.size, 1, none⟩) hwx4 _).setCell (p := ⟨Xx3.heap.size, 2, none⟩) hwx4 _)
                  refine run_one (i := 6) (by kernel_rfl) rfl rfl ?_
                  intro K hK
                  go_simp
                  rw [← hXx5]
                  refine hK.out _ _ (HKS.out _ HBx5.out) ?_
                  clear hK K k0 k1 k2 z0 z1 z2 hlt hXx5
                  intro _
                  (try simp only [List.getElem_toArray, List.getElem_cons_succ, List.getElem_cons_zero, Act.put, List.setIfInBounds_toArray, List.set_cons_zero, List.set_cons_succ])
                  refine wpAnyH_done (by kernel_rfl) ?_ _
                  refine NoPanic.normal ?_
                  go_wp2_with fail
                  go_meet
                  exact ⟨Xx3.heap.size, rfl, HVx5.out, HBx5.out⟩
                refine AllReadyH.cons rfl (fun K hK => ?_) ?_
                · obtain ⟨Xx6, hXx6⟩ : ∃ X, X = Xx2.alloc (.cells #[.bool false, .slice none 0 0, .slice none 0 0] 35) := ⟨_, rfl⟩
                  have hbx6 : Below Xx2.heap.size Xx2 Xx6 := by rw [hXx6]; exact (Below.refl _ _).alloc (Nat.le_refl _) _
                  have hxx6 : FBox Xx6 Xx2.heap.size := by rw [hXx6]; exact alloc_at _ _ _ rfl
                  have HBx6 := Lib.hid (below_next (HBx2.out) hbx6)
                  have hwx6 : w8.heap.size ≤ Xx2.heap.size := (HBx2.out).size
                  go_simp
                  rw [← hXx6]
                  clear hXx6
                  refine hK.out _ _ (HKS.out _ HBx6.out) ?_
                  clear hK K
                  intro _
                  (try simp only [List.getElem_toArray, List.getElem_cons_succ, List.getElem_cons_zero, Act.put, List.setIfInBounds_toArray, List.set_cons_zero, List.set_cons_succ])
                  refine run_one (i := 4) (by kernel_rfl) rfl rfl ?_
                  intro K hK
                  go_simp
                  (with_reducible refine (rTimes_any 200 _ _ q p Xx6 (by omega) (((hvx1).on hbx2).on hbx6) ((hvx2).on hbx6) HSQ.out HSP.out).mono ?_)
                  rintro e Xx7 ⟨v7, rfl, hvx7, hbx7⟩
                  have HBx7 := Lib.hid (below_next (HBx6.out) hbx7)
                  refine hK.out _ _ (HKS.out _ HBx7.out) ?_
                  clear hK K
                  intro _
                  obtain ⟨bab, Aab, cab, lab, Dab, dab, mab, rfl⟩ := hvx7.shape
                  (try simp only [List.getElem_toArray, List.getElem_cons_succ, List.getElem_cons_zero, Act.put, List.setIfInBounds_toArray, List.set_cons_zero, List.set_cons_succ])
                  obtain ⟨k0, k1, k2, z0, z1, z2, hlt⟩ := FBox.facts ((FBox.on hxx6 hbx7))
                  obtain ⟨Xx8, hXx8⟩ : ∃ X, X = ((Xx7.setCell ⟨Xx2.heap.size, 0, none⟩ (.bool bab)).setCell ⟨Xx2.heap.size, 1, none⟩ (.slice Aab lab.length cab)).setCell ⟨Xx2.heap.size, 2, none⟩ (.slice Dab mab.length dab) := ⟨_, rfl⟩
                  have HVx8 := Lib.hid (show VarQ Xx8 Xx2.heap.size _ by rw [hXx8]; exact VarQ.store ((FBox.on hxx6 hbx7)) (hvx7))
                  have HBx8 := Lib.hid (show Below w8.heap.size w8 Xx8 by rw [hXx8]; exact (((HBx7.out).setCell (p := ⟨Xx2.heap.size, 0, none⟩) hwx6 _).setCell (p := ⟨Xx2.heap.size, 1, none⟩) hwx6 _).setCell (p := ⟨Xx2.heap.size, 2, none⟩) hwx6 _)
                  refine run_one (i := 6) (by kernel_rfl) rfl rfl ?_
                  intro K hK
                  go_simp
                  rw [← hXx8]
                  refine hK.out _ _ (HKS.out _ HBx8.out) ?_
                  clear hK K k0 k1 k2 z0 z1 z2 hlt hXx8
                  intro _
                  (try simp only [List.getElem_toArray, List.getElem_cons_succ, List.getElem_cons_zero, Act.put, List.setIfInBounds_toArray, List.set_cons_zero, List.set_cons_succ])
                  refine wpAnyH_done (by kernel_rfl) ?_ _
                  refine NoPanic.normal ?_
                  go_wp2_with fail
                  go_meet
                  exact ⟨Xx2.heap.size, rfl, HVx8.out, HBx8.out⟩
                exact AllReadyH.nil
              refine AllReadyH.cons rfl (fun K hK => ?_) ?_
              · obtain ⟨Xx9, hXx9⟩ : ∃ X, X = Xx1.alloc (.cells #[.bool false, .slice none 0 0, .slice none 0 0] 35) := ⟨_, rfl⟩
                have hbx9 : Below Xx1.heap.size Xx1 Xx9 := by rw [hXx9]; exact (Below.refl _ _).alloc (Nat.le_refl _) _
                have hxx9 : FBox Xx9 Xx1.heap.size := by rw [hXx9]; exact alloc_at _ _ _ rfl
                have HBx9 := Lib.hid (below_next (HBx1.out) hbx9)
                have hwx9 : w8.heap.size ≤ Xx1.heap.size := (HBx1.out).size
                go_simp
                rw [← hXx9]
                clear hXx9
                refine hK.out _ _ (HKS.out _ HBx9.out) ?_
                clear hK K
                intro _
                (try simp only [List.getElem_toArray, List.getElem_cons_succ, List.getElem_cons_zero, Act.put, List.setIfInBounds_toArray, List.set_cons_zero, List.set_cons_succ])
                refine run_one (i := 3) (by kernel_rfl) rfl rfl ?_
                intro K hK
                go_simp
                (with_reducible refine (HF2.out Xx9).mono ?_)
                rintro e Xx10 ⟨v10, rfl, hvx10, hbx10⟩
                have HBx10 := Lib.hid (below_next (HBx9.out) hbx10)
                refine hK.out _ _ (HKS.out _ HBx10.out) ?_
                clear hK K
                intro _
                obtain ⟨bfr, Afr, cfr, lfr, Dfr, dfr, mfr, rfl⟩ := hvx10.shape
                (try simp only [List.getElem_toArray, List.getElem_cons_succ, List.getElem_cons_zero, Act.put, List.setIfInBounds_toArray, List.set_cons_zero, List.set_cons_succ])
                refine run_one (i := 4) (by kernel_rfl) rfl rfl ?_
                intro K hK
                go_simp
                (with_reducible refine (rTimes_any 200 _ _ q p Xx10 (by omega) (((hvx1).on hbx9).on hbx10) (hvx10) HSQ.out HSP.out).mono ?_)
                rintro e Xx11 ⟨v11, rfl, hvx11, hbx11⟩
                have HBx11 := Lib.hid (below_next (HBx10.out) hbx11)
                refine hK.out _ _ (HKS.out _ HBx11.out) ?_
                clear hK K
                intro _
                obtain ⟨bab, Aab, cab, lab, Dab, dab, mab, rfl⟩ := hvx11.shape
                (try simp only [List.getElem_toArray, List.getElem_cons_succ, List.getElem_cons_zero, Act.put, List.setIfInBounds_toArray, List.set_cons_zero, List.set_cons_succ])
                obtain ⟨k0, k1, k2, z0, z1, z2, hlt⟩ := FBox.facts ((FBox.on (FBox.on hxx9 hbx10) hbx11))
                obtain ⟨Xx12, hXx12⟩ : ∃ X, X = ((Xx11.setCell ⟨Xx1.heap.size, 0, none⟩ (.bool bab)).setCell ⟨Xx1.heap.size, 1, none⟩ (.slice Aab lab.length cab)).setCell ⟨Xx1.heap.size, 2, none⟩ (.slice Dab mab.length dab) := ⟨_, rfl⟩
                have HVx12 := Lib.hid (show VarQ Xx12 Xx1.heap.size _ by rw [hXx12]; exact VarQ.store ((FBox.on (FBox.on hxx9 hbx10) hbx11)) (hvx11))
                have HBx12 := Lib.hid (show Below w8.heap.size w8 Xx12 by rw [hXx12]; exact (((HBx11.out).setCell (p := ⟨Xx1.heap.size, 0, none⟩) hwx9 _).setCell (p := ⟨Xx1.heap.size, 1, none⟩) hwx9 _).setCell (p := ⟨Xx1.heap.size, 2, none⟩) hwx9 _)
                refine run_one (i := 6) (by kernel_rfl) rfl rfl ?_
                intro K hK
                go_simp
                rw [← hXx12]
                refine hK.out _ _ (HKS.out _ HBx12.out) ?_
                clear hK K k0 k1 k2 z0 z1 z2 hlt hXx12
                intro _
                (try simp only [List.getElem_toArray, List.getElem_cons_succ, List.getElem_cons_zero, Act.put, List.setIfInBounds_toArray, List.set_cons_zero, List.set_cons_succ])
                refine wpAnyH_done (by kernel_rfl) ?_ _
                refine NoPanic.normal ?_
                go_wp2_with fail
                go_meet
                exact ⟨Xx1.heap.size, rfl, HVx12.out, HBx12.out⟩
              exact AllReadyH.nil
            refine AllReadyH.cons rfl (fun K hK => ?_) ?_
            · obtain ⟨Xx13, hXx13⟩ : ∃ X, X = Xx0.alloc (.cells #[.bool false, .slice none 0 0, .slice none 0 0] 35) := ⟨_, rfl⟩
              have hbx13 : Below Xx0.heap.size Xx0 Xx13 := by rw [hXx13]; exact (Below.refl _ _).alloc (Nat.le_refl _) _
              have hxx13 : FBox Xx13 Xx0.heap.size := by rw [hXx13]; exact alloc_at _ _ _ rfl
              have HBx13 := Lib.hid (below_next (HBx0.out) hbx13)
              have hwx13 : w8.heap.size ≤ Xx0.heap.size := (HBx0.out).size
              go_simp
              rw [← hXx13]
              clear hXx13
              refine hK.out _ _ (HKS.out _ HBx13.out) ?_
              clear hK K
              intro _
              (try simp only [List.getElem_toArray, List.getElem_cons_succ, List.getElem_cons_zero, Act.put, List.setIfInBounds_toArray, List.set_cons_zero, List.set_cons_succ])
              refine run_one (i := 1) (by kernel_rfl) rfl rfl ?_
              intro K hK
              go_simp
              (with_reducible refine (HF1.out Xx13).mono ?_)
              rintro e Xx14 ⟨v14, rfl, hvx14, hbx14⟩
              have HBx14 := Lib.hid (below_next (HBx13.out) hbx14)
              refine hK.out _ _ (HKS.out _ HBx14.out) ?_
              clear hK K
              intro _
              obtain ⟨bfo, Afo, cfo, lfo, Dfo, dfo, mfo, rfl⟩ := hvx14.shape
              (try simp only [List.getElem_toArray, List.getElem_cons_succ, List.getElem_cons_zero, Act.put, List.setIfInBounds_toArray, List.set_cons_zero, List.set_cons_succ])
              refine run_one (i := 3) (by kernel_rfl) rfl rfl ?_
              intro K hK
              go_simp
              (with_reducible refine (HF2.out Xx14).mono ?_)
              rintro e Xx15 ⟨v15, rfl, hvx15, hbx15⟩
              have HBx15 := Lib.hid (below_next (HBx14.out) hbx15)
              refine hK.out _ _ (HKS.out _ HBx15.out) ?_
              clear hK K
              intro _
              obtain ⟨bfr, Afr, cfr, lfr, Dfr, dfr, mfr, rfl⟩ := hvx15.shape
              (try simp only [List.getElem_toArray, List.getElem_cons_succ, List.getElem_cons_zero, Act.put, List.setIfInBounds_toArray, List.set_cons_zero, List.set_cons_succ])
              refine run_one (i := 4) (by kernel_rfl) rfl rfl ?_
              intro K hK
              go_simp
              (with_reducible refine (rTimes_any 200 _ _ q p Xx15 (by omega) ((hvx14).on hbx15) (hvx15) HSQ.out HSP.out).mono ?_)
              rintro e Xx16 ⟨v16, rfl, hvx16, hbx16⟩
              have HBx16 := Lib.hid (below_next (HBx15.out) hbx16)
              refine hK.out _ _ (HKS.out _ HBx16.out) ?_
              clear hK K
              intro _
              obtain ⟨bab, Aab, cab, lab, Dab, dab, mab, rfl⟩ := hvx16.shape
              (try simp only [List.getElem_toArray, List.getElem_cons_succ, List.getElem_cons_zero, Act.put, List.setIfInBounds_toArray, List.set_cons_zero, List.set_cons_succ])
              obtain ⟨k0, k1, k2, z0, z1, z2, hlt⟩ := FBox.facts ((FBox.on (FBox.on (FBox.on hxx13 hbx14) hbx15) hbx16))
              obtain ⟨Xx17, hXx17⟩ : ∃ X, X = ((Xx16.setCell ⟨Xx0.heap.size, 0, none⟩ (.bool bab)).setCell ⟨Xx0.heap.size, 1, none⟩ (.slice Aab lab.length cab)).setCell ⟨Xx0.heap.size, 2, none⟩ (.slice Dab mab.length dab) := ⟨_, rfl⟩
              have HVx17 := Lib.hid (show VarQ Xx17 Xx0.heap.size _ by rw [hXx17]; exact VarQ.store ((FBox.on (FBox.on (FBox.on hxx13 hbx14) hbx15) hbx16)) (hvx16))
              have HBx17 := Lib.hid (show Below w8.heap.size w8 Xx17 by rw [hXx17]; exact (((HBx16.out).setCell (p := ⟨Xx0.heap.size, 0, none⟩) hwx13 _).setCell (p := ⟨Xx0.heap.size, 1, none⟩) hwx13 _).setCell (p := ⟨Xx0.heap.size, 2, none⟩) hwx13 _)
              refine run_one (i := 6) (by kernel_rfl) rfl rfl ?_
              intro K hK
              go_simp
              rw [← hXx17]
              refine hK.out _ _ (HKS.out _ HBx17.out) ?_
              clear hK K k0 k1 k2 z0 z1 z2 hlt hXx17
              intro _
              (try simp only [List.getElem_toArray, List.getElem_cons_succ, List.getElem_cons_zero, Act.put, List.setIfInBounds_toArray, List.set_cons_zero, List.set_cons_succ])
              refine wpAnyH_done (by kernel_rfl) ?_ _
              refine NoPanic.normal ?_
              go_wp2_with fail
              go_meet
              exact ⟨Xx0.heap.size, rfl, HVx17.out, HBx17.out⟩
            exact AllReadyH.nil
          case rest =>
            obtain ⟨Bf, rfl, hvf, hbc⟩ := hcut
            obtain ⟨bf, F1, z5, t5, F2, z6, t6, hget, hjf⟩ := hvf.get
            have HBC := Lib.hid (below_next HST0.out.below (below_next HB8.out hbc))
            have HFF := Lib.hid hjf
            have HX2c := Lib.hid (HX2d.out.on hbc)
            have HKS2 := Lib.hid (show ∀ X, Below wc.heap.size wc X → (fun X => Below wc.heap.size wc X ∧ X.cell? ⟨Bf, 0, none⟩ = some (.bool bf) ∧ X.cell? ⟨Bf, 1, none⟩ = some (.slice F1 t5.length z5) ∧ X.cell? ⟨Bf, 2, none⟩ = some (.slice F2 t6.length z6)) X from fun X hX => by
              obtain ⟨y0, y1, y2, -, -, -, -⟩ := hget X hX
              exact ⟨hX, y0, y1, y2⟩)
            clear hvf hget hjf hbc
            go_wp2_with fail
            refine wp_region_noPanic ?_
            refine wp_region_held_drew (S := (fun X => Below wc.heap.size wc X ∧ X.cell? ⟨Bf, 0, none⟩ = some (.bool bf) ∧ X.cell? ⟨Bf, 1, none⟩ = some (.slice F1 t5.length z5) ∧ X.cell? ⟨Bf, 2, none⟩ = some (.slice F2 t6.length z6))) (by kernel_rfl) (HKS2.out _ (Below.refl _ wc).drew) (fun HS0 => ?_)
            have hbx0 : Below wc.heap.size wc wc.drew := (Below.refl _ _).drew
            obtain ⟨Xx0, hXx0⟩ : ∃ X, X = wc.drew := ⟨_, rfl⟩
            rw [← hXx0] at hbx0 HS0 ⊢
            have HBx0 := Lib.hid hbx0
            clear hbx0 hXx0
            refine wpAnyH_take (i := 0) (v := ?_) rfl (by kernel_rfl) (by kernel_rfl) (by kernel_rfl) (fun _ _ _ h => h) (Or.inl ⟨by rfl, ?_⟩) HS0 ?_
            rotate_left
            · intro W hW; (try dsimp only at hW); go_simp; try (with_reducible rfl)
            (try simp only [List.getElem_toArray, List.getElem_cons_succ, List.getElem_cons_zero, Act.put, List.setIfInBounds_toArray, List.set_cons_zero, List.set_cons_succ])
            refine wpAnyH_take (i := 1) (v := ?_) rfl (by kernel_rfl) (by kernel_rfl) (by kernel_rfl) (fun _ _ _ h => h) (Or.inl ⟨by rfl, ?_⟩) HS0 ?_
            rotate_left
            · intro W hW; (try dsimp only at hW); go_simp; try (with_reducible rfl)
            (try simp only [List.getElem_toArray, List.getElem_cons_succ, List.getElem_cons_zero, Act.put, List.setIfInBounds_toArray, List.set_cons_zero, List.set_cons_succ])
            refine wpAnyH_take (i := 3) (v := ?_) rfl (by kernel_rfl) (by kernel_rfl) (by kernel_rfl) (fun _ _ _ h => h) (Or.inl ⟨by rfl, ?_⟩) HS0 ?_
            rotate_left
            · intro W hW; (try dsimp only at hW); go_simp; try (with_reducible rfl)
            (try simp only [List.getElem_toArray, List.getElem_cons_succ, List.getElem_cons_zero, Act.put, List.setIfInBounds_toArray, List.set_cons_zero, List.set_cons_succ])
            clear HS0
            refine wpAnyH_ready (rs := [2, 10]) (by kernel_rfl) (by simp) ?_
            refine AllReadyH.cons rfl (fun K hK => ?_) ?_
            · go_simp
              (with_reducible refine (HWN.out Xx0).mono ?_)
              rintro e Xx1 ⟨v1, rfl, hvx1, hbx1⟩
              have HBx1 := Lib.hid (below_next (HBx0.out) hbx1)
              refine hK.out _ _ (HKS2.out _ HBx1.out) ?_
              clear hK K
              intro _
              obtain ⟨bwn, Awn, cwn, lwn, Dwn, dwn, mwn, rfl⟩ := hvx1.shape
              (try simp only [List.getElem_toArray, List.getElem_cons_succ, List.getElem_cons_zero, Act.put, List.setIfInBounds_toArray, List.set_cons_zero, List.set_cons_succ])
              refine wpAnyH_ready (rs := [4, 10]) (by kernel_rfl) (by simp) ?_
              refine AllReadyH.cons rfl (fun K hK => ?_) ?_
              · go_simp
                (with_reducible refine (rPlus_any 200 _ _ ((n : Int) : Rat) (q * p) Xx1 (by omega) (hvx1) (HFF.out.on (HBx1.out)) HSN.out HSPR.out).mono ?_)
                rintro e Xx2 ⟨v2, rfl, hvx2, hbx2⟩
                have HBx2 := Lib.hid (below_next (HBx1.out) hbx2)
                refine hK.out _ _ (HKS2.out _ HBx2.out) ?_
                clear hK K
                intro _
                obtain ⟨bpl, Apl, cpl, lpl, Dpl, dpl, mpl, rfl⟩ := hvx2.shape
                (try simp only [List.getElem_toArray, List.getElem_cons_succ, List.getElem_cons_zero, Act.put, List.setIfInBounds_toArray, List.set_cons_zero, List.set_cons_succ])
                refine wpAnyH_ready (rs := [5, 10]) (by kernel_rfl) (by simp) ?_
                refine AllReadyH.cons rfl (fun K hK => ?_) ?_
                · go_simp
                  (with_reducible refine (rOver_any 200 _ _ (q * p) (((n : Int) : Rat) + q * p) Xx2 (by omega) (HFF.out.on (HBx2.out)) (hvx2) HSPR.out HSPL.out HNE.out).mono ?_)
                  rintro e Xx3 ⟨v3, rfl, hvx3, hbx3⟩
                  have HBx3 := Lib.hid (below_next (HBx2.out) hbx3)
                  refine hK.out _ _ (HKS2.out _ HBx3.out) ?_
                  clear hK K
                  intro _
                  obtain ⟨bov, Aov, cov, lov, Dov, dov, mov, rfl⟩ := hvx3.shape
                  (try simp only [List.getElem_toArray, List.getElem_cons_succ, List.getElem_cons_zero, Act.put, List.setIfInBounds_toArray, List.set_cons_zero, List.set_cons_succ])
                  refine wpAnyH_ready (rs := [6, 10]) (by kernel_rfl) (by simp) ?_
                  refine AllReadyH.cons rfl (fun K hK => ?_) ?_
                  · go_simp
                    (with_reducible refine (HRT.out _ Xx3 (below_next HBC.out (HBx3.out)) (hvx3)).mono ?_)
                    rintro e Xx4 ⟨rfl, hbx4⟩
                    have HBx4 := Lib.hid (below_next (HBx3.out) hbx4)
                    refine hK.out _ _ (HKS2.out _ HBx4.out) ?_
                    clear hK K
                    intro _
                    (try simp only [List.getElem_toArray, List.getElem_cons_succ, List.getElem_cons_zero, Act.put, List.setIfInBounds_toArray, List.set_cons_zero, List.set_cons_succ])
                    have HS0 := HKS2.out _ (HBx4.out)
                    refine wpAnyH_take (i := 7) (v := ?_) rfl (by kernel_rfl) (by kernel_rfl) (by kernel_rfl) (fun _ _ _ h => h) (Or.inl ⟨by rfl, ?_⟩) HS0 ?_
                    rotate_left
                    · intro W hW; (try dsimp only at hW); go_simp; try (with_reducible rfl)
                    (try simp only [List.getElem_toArray, List.getElem_cons_succ, List.getElem_cons_zero, Act.put, List.setIfInBounds_toArray, List.set_cons_zero, List.set_cons_succ])
                    clear HS0
                    have HS0 := HKS2.out _ (HBx4.out)
                    refine wpAnyH_take (i := 8) (v := ?_) rfl (by kernel_rfl) (by kernel_rfl) (by kernel_rfl) (fun _ _ _ h => h) (Or.inl ⟨by rfl, ?_⟩) HS0 ?_
                    rotate_left
                    · intro W hW; (try dsimp only at hW); go_simp; try (with_reducible rfl)
                    (try simp only [List.getElem_toArray, List.getElem_cons_succ, List.getElem_cons_zero, Act.put, List.setIfInBounds_toArray, List.set_cons_zero, List.set_cons_succ])
                    clear HS0
                    have HS0 := HKS2.out _ (HBx4.out)
                    refine wpAnyH_take (i := 9) (v := ?_) rfl (by kernel_rfl) (by kernel_rfl) (by kernel_rfl) (fun _ _ _ h => h) (Or.inl ⟨by rfl, ?_⟩) HS0 ?_
                    rotate_left
                    · intro W hW; (try dsimp only at hW); go_simp; try (with_reducible rfl)
                    (try simp only [List.getElem_toArray, List.getElem_cons_succ, List.getElem_cons_zero, Act.put, List.setIfInBounds_toArray, List.set_cons_zero, List.set_cons_succ])
                    clear HS0
                    refine run_one (i := 10) (by kernel_rfl) rfl rfl ?_
                    intro K hK
                    obtain ⟨Xx5, hXx5⟩ : ∃ X, X = Xx4.alloc (.cells #[.string ⟨#[]⟩, .string ⟨#[]⟩] 23) := ⟨_, rfl⟩
                    have hbx5 : Below Xx4.heap.size Xx4 Xx5 := by rw [hXx5]; exact (Below.refl _ _).alloc (Nat.le_refl _) _
                    have hxx5 : TxBoy Xx5 Xx4.heap.size ⟨#[]⟩ ⟨#[]⟩ := by rw [hXx5]; exact alloc_at _ _ _ rfl
                    have HBx5 := Lib.hid (below_next (HBx4.out) hbx5)
                    have hwx5 : wc.heap.size ≤ Xx4.heap.size := (HBx4.out).size
                    go_simp
                    rw [← hXx5]
                    clear hXx5
                    refine hK.out _ _ (HKS2.out _ HBx5.out) ?_
                    clear hK K
                    intro _
                    (try simp only [List.getElem_toArray, List.getElem_cons_succ, List.getElem_cons_zero, Act.put, List.setIfInBounds_toArray, List.set_cons_zero, List.set_cons_succ])
                    obtain ⟨k0, k1, z0, z1, hlt⟩ := TxBoy.facts (hxx5)
                    obtain ⟨Xx6, hXx6⟩ : ∃ X, X = (Xx5.setCell ⟨Xx4.heap.size, 0, none⟩ (.string R3)).setCell ⟨Xx4.heap.size, 1, none⟩ (.string R4) := ⟨_, rfl⟩
                    have HVx6 := Lib.hid (show TxBoy Xx6 Xx4.heap.size R3 R4 by rw [hXx6]; exact set2_atg (hxx5))
                    have HBx6 := Lib.hid (show Below wc.heap.size wc Xx6 by rw [hXx6]; exact ((HBx5.out).setCell (p := ⟨Xx4.heap.size, 0, none⟩) hwx5 _).setCell (p := ⟨Xx4.heap.size, 1, none⟩) hwx5 _)
                    refine run_one (i := 11) (by kernel_rfl) rfl rfl ?_
                    intro K hK
                    go_simp
                    rw [← hXx6]
                    refine hK.out _ _ (HKS2.out _ HBx6.out) ?_
                    clear hK K k0 k1 z0 z1 hlt hXx6
                    intro _
                    (try simp only [List.getElem_toArray, List.getElem_cons_succ, List.getElem_cons_zero, Act.put, List.setIfInBounds_toArray, List.set_cons_zero, List.set_cons_succ])
                    have HS0 := HKS2.out _ HBx6.out
                    refine wpAnyH_take (i := 12) (v := ?_) rfl (by kernel_rfl) (by kernel_rfl) (by kernel_rfl) (fun _ _ _ h => h) (Or.inl ⟨by rfl, ?_⟩) HS0 ?_
                    rotate_left
                    · intro W hW; (try dsimp only at hW); go_simp; try (with_reducible rfl)
                    (try simp only [List.getElem_toArray, List.getElem_cons_succ, List.getElem_cons_zero, Act.put, List.setIfInBounds_toArray, List.set_cons_zero, List.set_cons_succ])
                    clear HS0
                    refine wpAnyH_done (by kernel_rfl) ?_ _
                    refine NoPanic.normal ?_
                    have hvb := HVx6.out
                    have HBD := Lib.hid (below_next HBC.out (HBx6.out))
                    obtain ⟨u0, u1, -, -, -⟩ := hvb.facts
                    obtain ⟨v0, v1, -, -, -⟩ := (HX2c.out.on (HBx6.out)).facts
                    go_wp2_with fail
                    (with_reducible refine (HH.out _ HBD.out).mono ?_)
                    rintro e w13 ⟨rfl, hb13⟩
                    go_wp2
                    go_ret
                    exact ⟨by rfl, below_next HBD.out hb13⟩
                  refine AllReadyH.cons rfl (fun K hK => ?_) ?_
                  · obtain ⟨Xx7, hXx7⟩ : ∃ X, X = Xx3.alloc (.cells #[.string ⟨#[]⟩, .string ⟨#[]⟩] 23) := ⟨_, rfl⟩
                    have hbx7 : Below Xx3.heap.size Xx3 Xx7 := by rw [hXx7]; exact (Below.refl _ _).alloc (Nat.le_refl _) _
                    have hxx7 : TxBoy Xx7 Xx3.heap.size ⟨#[]⟩ ⟨#[]⟩ := by rw [hXx7]; exact alloc_at _ _ _ rfl
                    have HBx7 := Lib.hid (below_next (HBx3.out) hbx7)
                    have hwx7 : wc.heap.size ≤ Xx3.heap.size := (HBx3.out).size
                    go_simp
                    rw [← hXx7]
                    clear hXx7
                    refine hK.out _ _ (HKS2.out _ HBx7.out) ?_
                    clear hK K
                    intro _
                    (try simp only [List.getElem_toArray, List.getElem_cons_succ, List.getElem_cons_zero, Act.put, List.setIfInBounds_toArray, List.set_cons_zero, List.set_cons_succ])
                    refine run_one (i := 6) (by kernel_rfl) rfl rfl ?_
                    intro K hK
                    go_simp
                    (with_reducible refine (HRT.out _ Xx7 (below_next HBC.out (HBx7.out)) ((hvx3).on hbx7)).mono ?_)
                    rintro e Xx8 ⟨rfl, hbx8⟩
                    have HBx8 := Lib.hid (below_next (HBx7.out) hbx8)
                    refine hK.out _ _ (HKS2.out _ HBx8.out) ?_
                    clear hK K
                    intro _
                    (try simp only [List.getElem_toArray, List.getElem_cons_succ, List.getElem_cons_zero, Act.put, List.setIfInBounds_toArray, List.set_cons_zero, List.set_cons_succ])
                    have HS0 := HKS2.out _ (HBx8.out)
                    refine wpAnyH_take (i := 7) (v := ?_) rfl (by kernel_rfl) (by kernel_rfl) (by kernel_rfl) (fun _ _ _ h => h) (Or.inl ⟨by rfl, ?_⟩) HS0 ?_
                    rotate_left
                    · intro W hW; (try dsimp only at hW); go_simp; try (with_reducible rfl)
                    (try simp only [List.getElem_toArray, List.getElem_cons_succ, List.getElem_cons_zero, Act.put, List.setIfInBounds_toArray, List.set_cons_zero, List.set_cons_succ])
                    clear HS0
                    have HS0 := HKS2.out _ (HBx8.out)
                    refine wpAnyH_take (i := 8) (v := ?_) rfl (by kernel_rfl) (by kernel_rfl) (by kernel_rfl) (fun _ _ _ h => h) (Or.inl ⟨by rfl, ?_⟩) HS0 ?_
                    rotate_left
                    · intro W hW; (try dsimp only at hW); go_simp; try (with_reducible rfl)
                    (try simp only [List.getElem_toArray, List.getElem_cons_succ, List.getElem_cons_zero, Act.put, List.setIfInBounds_toArray, List.set_cons_zero, List.set_cons_succ])
                    clear HS0
                    have HS0 := HKS2.out _ (HBx8.out)
                    refine wpAnyH_take (i := 9) (v := ?_) rfl (by kernel_rfl) (by kernel_rfl) (by kernel_rfl) (fun _ _ _ h => h) (Or.inl ⟨by rfl, ?_⟩) HS0 ?_
                    rotate_left
                    · intro W hW; (try dsimp only at hW); go_simp; try (with_reducible rfl)
                    (try simp only [List.getElem_toArray, List.getElem_cons_succ, List.getElem_cons_zero, Act.put, List.setIfInBounds_toArray, List.set_cons_zero, List.set_cons_succ])
                    clear HS0
                    obtain ⟨k0, k1, z0, z1, hlt⟩ := TxBoy.facts ((TxBoy.on hxx7 hbx8))
                    obtain ⟨Xx9, hXx9⟩ : ∃ X, X = (Xx8.setCell ⟨Xx3.heap.size, 0, none⟩ (.string R3)).setCell ⟨Xx3.heap.size, 1, none⟩ (.string R4) := ⟨_, rfl⟩
                    have HVx9 := Lib.hid (show TxBoy Xx9 Xx3.heap.size R3 R4 by rw [hXx9]; exact set2_atg ((TxBoy.on hxx7 hbx8)))
                    have HBx9 := Lib.hid (show Below wc.heap.size wc Xx9 by rw [hXx9]; exact ((HBx8.out).setCell (p := ⟨Xx3.heap.size, 0, none⟩) hwx7 _).setCell (p := ⟨Xx3.heap.size, 1, none⟩) hwx7 _)
                    refine run_one (i := 11) (by kernel_rfl) rfl rfl ?_
                    intro K hK
                    go_simp
                    rw [← hXx9]
                    refine hK.out _ _ (HKS2.out _ HBx9.out) ?_
                    clear hK K k0 k1 z0 z1 hlt hXx9
                    intro _
                    (try simp only [List.getElem_toArray, List.getElem_cons_succ, List.getElem_cons_zero, Act.put, List.setIfInBounds_toArray, List.set_cons_zero, List.set_cons_succ])
                    have HS0 := HKS2.out _ HBx9.out
                    refine wpAnyH_take (i := 12) (v := ?_) rfl (by kernel_rfl) (by kernel_rfl) (by kernel_rfl) (fun _ _ _ h => h) (Or.inl ⟨by rfl, ?_⟩) HS0 ?_
                    rotate_left
                    · intro W hW; (try dsimp only at hW); go_simp; try (with_reducible rfl)
                    (try simp only [List.getElem_toArray, List.getElem_cons_succ, List.getElem_cons_zero, Act.put, List.setIfInBounds_toArray, List.set_cons_zero, List.set_cons_succ])
                    clear HS0
                    refine wpAnyH_done (by kernel_rfl) ?_ _
                    refine NoPanic.normal ?_
                    have hvb := HVx9.out
                    have HBD := Lib.hid (below_next HBC.out (HBx9.out))
                    obtain ⟨u0, u1, -, -, -⟩ := hvb.facts
                    obtain ⟨v0, v1, -, -, -⟩ := (HX2c.out.on (HBx9.out)).facts
                    go_wp2_with fail
                    (with_reducible refine (HH.out _ HBD.out).mono ?_)
                    rintro e w13 ⟨rfl, hb13⟩
                    go_wp2
                    go_ret
                    exact ⟨by rfl, below_next HBD.out hb13⟩
                  exact AllReadyH.nil
                refine AllReadyH.cons rfl (fun K hK => ?_) ?_
                · obtain ⟨Xx10, hXx10⟩ : ∃ X, X = Xx2.alloc (.cells #[.string ⟨#[]⟩, .string ⟨#[]⟩] 23) := ⟨_, rfl⟩
                  have hbx10 : Below Xx2.heap.size Xx2 Xx10 := by rw [hXx10]; exact (Below.refl _ _).alloc (Nat.le_refl _) _
                  have hxx10 : TxBoy Xx10 Xx2.heap.size ⟨#[]⟩ ⟨#[]⟩ := by rw [hXx10]; exact alloc_at _ _ _ rfl
                  have HBx10 := Lib.hid (below_next (HBx2.out) hbx10)
                  have hwx10 : wc.heap.size ≤ Xx2.heap.size := (HBx2.out).size
                  go_simp
                  rw [← hXx10]
                  clear hXx10
                  refine hK.out _ _ (HKS2.out _ HBx10.out) ?_
                  clear hK K
                  intro _
                  (try simp only [List.getElem_toArray, List.getElem_cons_succ, List.getElem_cons_zero, Act.put, List.setIfInBounds_toArray, List.set_cons_zero, List.set_cons_succ])
                  refine run_one (i := 5) (by kernel_rfl) rfl rfl ?_
                  intro K hK
                  go_simp
                  (with_reducible refine (rOver_any 200 _ _ (q * p) (((n : Int) : Rat) + q * p) Xx10 (by omega) (HFF.out.on (HBx10.out)) ((hvx2).on hbx10) HSPR.out HSPL.out HNE.out).mono ?_)
                  rintro e Xx11 ⟨v11, rfl, hvx11, hbx11⟩
                  have HBx11 := Lib.hid (below_next (HBx10.out) hbx11)
                  refine hK.out _ _ (HKS2.out _ HBx11.out) ?_
                  clear hK K
                  intro _
                  obtain ⟨bov, Aov, cov, lov, Dov, dov, mov, rfl⟩ := hvx11.shape
                  (try simp only [List.getElem_toArray, List.getElem_cons_succ, List.getElem_cons_zero, Act.put, List.setIfInBounds_toArray, List.set_cons_zero, List.set_cons_succ])
                  refine run_one (i := 6) (by kernel_rfl) rfl rfl ?_
                  intro K hK
                  go_simp
                  (with_reducible refine (HRT.out _ Xx11 (below_next HBC.out (HBx11.out)) (hvx11)).mono ?_)
                  rintro e Xx12 ⟨rfl, hbx12⟩
                  have HBx12 := Lib.hid (below_next (HBx11.out) hbx12)
                  refine hK.out _ _ (HKS2.out _ HBx12.out) ?_
                  clear hK K
                  intro _
                  (try simp only [List.getElem_toArray, List.getElem_cons_succ, List.getElem_cons_zero, Act.put, List.setIfInBounds_toArray, List.set_cons_zero, List.set_cons_succ])
                  have HS0 := HKS2.out _ (HBx12.out)
                  refine wpAnyH_take (i := 7) (v := ?_) rfl (by kernel_rfl) (by kernel_rfl) (by kernel_rfl) (fun _ _ _ h => h) (Or.inl ⟨by rfl, ?_⟩) HS0 ?_
                  rotate_left
                  · intro W hW; (try dsimp only at hW); go_simp; try (with_reducible rfl)
                  (try simp only [List.getElem_toArray, List.getElem_cons_succ, List.getElem_cons_zero, Act.put, List.setIfInBounds_toArray, List.set_cons_zero, List.set_cons_succ])
                  clear HS0
                  have HS0 := HKS2.out _ (HBx12.out)
                  refine wpAnyH_take (i := 8) (v := ?_) rfl (by kernel_rfl) (by kernel_rfl) (by kernel_rfl) (fun _ _ _ h => h) (Or.inl ⟨by rfl, ?_⟩) HS0 ?_
                  rotate_left
                  · intro W hW; (try dsimp only at hW); go_simp; try (with_reducible rfl)
                  (try simp only [List.getElem_toArray, List.getElem_cons_succ, List.getElem_cons_zero, Act.put, List.setIfInBounds_toArray, List.set_cons_zero, List.set_cons_succ])
                  clear HS0
                  have HS0 := HKS2.out _ (HBx12.out)
                  refine wpAnyH_take (i := 9) (v := ?_) rfl (by kernel_rfl) (by kernel_rfl) (by kernel_rfl) (fun _ _ _ h => h) (Or.inl ⟨by rfl, ?_⟩) HS0 ?_
                  rotate_left
                  · intro W hW; (try dsimp only at hW); go_simp; try (with_reducible rfl)
                  (try simp only [List.getElem_toArray, List.getElem_cons_succ, List.getElem_cons_zero, Act.put, List.setIfInBounds_toArray, List.set_cons_zero, List.set_cons_succ])
                  clear HS0
                  obtain ⟨k0, k1, z0, z1, hlt⟩ := TxBoy.facts ((TxBoy.on (TxBoy.on hxx10 hbx11) hbx12))
                  obtain ⟨Xx13, hXx13⟩ : ∃ X, X = (Xx12.setCell ⟨Xx2.heap.size, 0, none⟩ (.string R3)).setCell ⟨Xx2.heap.size, 1, none⟩ (.string R4) := ⟨_, rfl⟩
                  have HVx13 := Lib.hid (show TxBoy Xx13 Xx2.heap.size R3 R4 by rw [hXx13]; exact set2_atg ((TxBoy.on (TxBoy.on hxx10 hbx11) hbx12)))
                  have HBx13 := Lib.hid (show Below wc.heap.size wc Xx13 by rw [hXx13]; exact ((HBx12.out).setCell (p := ⟨Xx2.heap.size, 0, none⟩) hwx10 _).setCell (p := ⟨Xx2.heap.size, 1, none⟩) hwx10 _)
                  refine run_one (i := 11) (by kernel_rfl) rfl rfl ?_
                  intro K hK
                  go_simp
                  rw [← hXx13]
                  refine hK.out _ _ (HKS2.out _ HBx13.out) ?_
                  clear hK K k0 k1 z0 z1 hlt hXx13
                  intro _
                  (try simp only [List.getElem_toArray, List.getElem_cons_succ, List.getElem_cons_zero, Act.put, List.setIfInBounds_toArray, List.set_cons_zero, List.set_cons_succ])
                  have HS0 := HKS2.out _ HBx13.out
                  refine wpAnyH_take (i := 12) (v := ?_) rfl (by kernel_rfl) (by kernel_rfl) (by kernel_rfl) (fun _ _ _ h => h) (Or.inl ⟨by rfl, ?_⟩) HS0 ?_
                  rotate_left
                  · intro W hW; (try dsimp only at hW); go_simp; try (with_reducible rfl)
                  (try simp only [List.getElem_toArray, List.getElem_cons_succ, List.getElem_cons_zero, Act.put, List.setIfInBounds_toArray, List.set_cons_zero, List.set_cons_succ])
                  clear HS0
                  refine wpAnyH_done (by kernel_rfl) ?_ _
                  refine NoPanic.normal ?_
                  have hvb := HVx13.out
                  have HBD := Lib.hid (below_next HBC.out (HBx13.out))
                  obtain ⟨u0, u1, -, -, -⟩ := hvb.facts
                  obtain ⟨v0, v1, -, -, -⟩ := (HX2c.out.on (HBx13.out)).facts
                  go_wp2_with fail
                  (with_reducible refine (HH.out _ HBD.out).mono ?_)
                  rintro e w13 ⟨rfl, hb13⟩
                  go_wp2
                  go_ret
                  exact ⟨by rfl, below_next HBD.out hb13⟩
                exact AllReadyH.nil
              refine AllReadyH.cons rfl (fun K hK => ?_) ?_
              · obtain ⟨Xx14, hXx14⟩ : ∃ X, X = Xx1.alloc (.cells #[.string ⟨#[]⟩, .string ⟨#[]⟩] 23) := ⟨_, rfl⟩
                have hbx14 : Below Xx1.heap.size Xx1 Xx14 := by rw [hXx14]; exact (Below.refl _ _).alloc (Nat.le_refl _) _
                have hxx14 : TxBoy Xx14 Xx1.heap.size ⟨#[]⟩ ⟨#[]⟩ := by rw [hXx14]; exact alloc_at _ _ _ rfl
                have HBx14 := Lib.hid (below_next (HBx1.out) hbx14)
                have hwx14 : wc.heap.size ≤ Xx1.heap.size := (HBx1.out).size
                go_simp
                rw [← hXx14]
                clear hXx14
                refine hK.out _ _ (HKS2.out _ HBx14.out) ?_
                clear hK K
                intro _
                (try simp only [List.getElem_toArray, List.getElem_cons_succ, List.getElem_cons_zero, Act.put, List.setIfInBounds_toArray, List.set_cons_zero, List.set_cons_succ])
                refine run_one (i := 4) (by kernel_rfl) rfl rfl ?_
                intro K hK
                go_simp
                (with_reducible refine (rPlus_any 200 _ _ ((n : Int) : Rat) (q * p) Xx14 (by omega) ((hvx1).on hbx14) (HFF.out.on (HBx14.out)) HSN.out HSPR.out).mono ?_)
                rintro e Xx15 ⟨v15, rfl, hvx15, hbx15⟩
                have HBx15 := Lib.hid (below_next (HBx14.out) hbx15)
                refine hK.out _ _ (HKS2.out _ HBx15.out) ?_
                clear hK K
                intro _
                obtain ⟨bpl, Apl, cpl, lpl, Dpl, dpl, mpl, rfl⟩ := hvx15.shape
                (try simp only [List.getElem_toArray, List.getElem_cons_succ, List.getElem_cons_zero, Act.put, List.setIfInBounds_toArray, List.set_cons_zero, List.set_cons_succ])
                refine run_one (i := 5) (by kernel_rfl) rfl rfl ?_
                intro K hK
                go_simp
                (with_reducible refine (rOver_any 200 _ _ (q * p) (((n : Int) : Rat) + q * p) Xx15 (by omega) (HFF.out.on (HBx15.out)) (hvx15) HSPR.out HSPL.out HNE.out).mono ?_)
                rintro e Xx16 ⟨v16, rfl, hvx16, hbx16⟩
                have HBx16 := Lib.hid (below_next (HBx15.out) hbx16)
                refine hK.out _ _ (HKS2.out _ HBx16.out) ?_
                clear hK K
                intro _
                obtain ⟨bov, Aov, cov, lov, Dov, dov, mov, rfl⟩ := hvx16.shape
                (try simp only [List.getElem_toArray, List.getElem_cons_succ, List.getElem_cons_zero, Act.put, List.setIfInBounds_toArray, List.set_cons_zero, List.set_cons_succ])
                refine run_one (i := 6) (by kernel_rfl) rfl rfl ?_
                intro K hK
                go_simp
                (with_reducible refine (HRT.out _ Xx16 (below_next HBC.out (HBx16.out)) (hvx16)).mono ?_)
                rintro e Xx17 ⟨rfl, hbx17⟩
                have HBx17 := Lib.hid (below_next (HBx16.out) hbx17)
                refine hK.out _ _ (HKS2.out _ HBx17.out) ?_
                clear hK K
                intro _
                (try simp only [List.getElem_toArray, List.getElem_cons_succ, List.getElem_cons_zero, Act.put, List.setIfInBounds_toArray, List.set_cons_zero, List.set_cons_succ])
                have HS0 := HKS2.out _ (HBx17.out)
                refine wpAnyH_take (i := 7) (v := ?_) rfl (by kernel_rfl) (by kernel_rfl) (by kernel_rfl) (fun _ _ _ h => h) (Or.inl ⟨by rfl, ?_⟩) HS0 ?_
                rotate_left
                · intro W hW; (try dsimp only at hW); go_simp; try (with_reducible rfl)
                (try simp only [List.getElem_toArray, List.getElem_cons_succ, List.getElem_cons_zero, Act.put, List.setIfInBounds_toArray, List.set_cons_zero, List.set_cons_succ])
                clear HS0
                have HS0 := HKS2.out _ (HBx17.out)
                refine wpAnyH_take (i := 8) (v := ?_) rfl (by kernel_rfl) (by kernel_rfl) (by kernel_rfl) (fun _ _ _ h => h) (Or.inl ⟨by rfl, ?_⟩) HS0 ?_
                rotate_left
                · intro W hW; (try dsimp only at hW); go_simp; try (with_reducible rfl)
                (try simp only [List.getElem_toArray, List.getElem_cons_succ, List.getElem_cons_zero, Act.put, List.setIfInBounds_toArray, List.set_cons_zero, List.set_cons_succ])
                clear HS0
                have HS0 := HKS2.out _ (HBx17.out)
                refine wpAnyH_take (i := 9) (v := ?_) rfl (by kernel_rfl) (by kernel_rfl) (by kernel_rfl) (fun _ _ _ h => h) (Or.inl ⟨by rfl, ?_⟩) HS0 ?_
                rotate_left
                · intro W hW; (try dsimp only at hW); go_simp; try (with_reducible rfl)
                (try simp only [List.getElem_toArray, List.getElem_cons_succ, List.getElem_cons_zero, Act.put, List.setIfInBounds_toArray, List.set_cons_zero, List.set_cons_succ])
                clear HS0
                obtain ⟨k0, k1, z0, z1, hlt⟩ := TxBoy.facts ((TxBoy.on (TxBoy.on (TxBoy.on hxx14 hbx15) hbx16) hbx17))
                obtain ⟨Xx18, hXx18⟩ : ∃ X, X = (Xx17.setCell ⟨Xx1.heap.size, 0, none⟩ (.string R3)).setCell ⟨Xx1.heap.size, 1, none⟩ (.string R4) := ⟨_, rfl⟩
                have HVx18 := Lib.hid (show TxBoy Xx18 Xx1.heap.size R3 R4 by rw [hXx18]; exact set2_atg ((TxBoy.on (TxBoy.on (TxBoy.on hxx14 hbx15) hbx16) hbx17)))
                have HBx18 := Lib.hid (show Below wc.heap.size wc Xx18 by rw [hXx18]; exact ((HBx17.out).setCell (p := ⟨Xx1.heap.size, 0, none⟩) hwx14 _).setCell (p := ⟨Xx1.heap.size, 1, none⟩) hwx14 _)
                refine run_one (i := 11) (by kernel_rfl) rfl rfl ?_
                intro K hK
                go_simp
                rw [← hXx18]
                refine hK.out _ _ (HKS2.out _ HBx18.out) ?_
                clear hK K k0 k1 z0 z1 hlt hXx18
                intro _
                (try simp only [List.getElem_toArray, List.getElem_cons_succ, List.getElem_cons_zero, Act.put, List.setIfInBounds_toArray, List.set_cons_zero, List.set_cons_succ])
                have HS0 := HKS2.out _ HBx18.out
                refine wpAnyH_take (i := 12) (v := ?_) rfl (by kernel_rfl) (by kernel_rfl) (by kernel_rfl) (fun _ _ _ h => h) (Or.inl ⟨by rfl, ?_⟩) HS0 ?_
                rotate_left
                · intro W hW; (try dsimp only at hW); go_simp; try (with_reducible rfl)
                (try simp only [List.getElem_toArray, List.getElem_cons_succ, List.getElem_cons_zero, Act.put, List.setIfInBounds_toArray, List.set_cons_zero, List.set_cons_succ])
                clear HS0
                refine wpAnyH_done (by kernel_rfl) ?_ _
                refine NoPanic.normal ?_
                have hvb := HVx18.out
                have HBD := Lib.hid (below_next HBC.out (HBx18.out))
                obtain ⟨u0, u1, -, -, -⟩ := hvb.facts
                obtain ⟨v0, v1, -, -, -⟩ := (HX2c.out.on (HBx18.out)).facts
                go_wp2_with fail
                (with_reducible refine (HH.out _ HBD.out).mono ?_)
                rintro e w13 ⟨rfl, hb13⟩
                go_wp2
                go_ret
                exact ⟨by rfl, below_next HBD.out hb13⟩
              exact AllReadyH.nil
            refine AllReadyH.cons rfl (fun K hK => ?_) ?_
            · obtain ⟨Xx19, hXx19⟩ : ∃ X, X = Xx0.alloc (.cells #[.string ⟨#[]⟩, .string ⟨#[]⟩] 23) := ⟨_, rfl⟩
              have hbx19 : Below Xx0.heap.size Xx0 Xx19 := by rw [hXx19]; exact (Below.refl _ _).alloc (Nat.le_refl _) _
              have hxx19 : TxBoy Xx19 Xx0.heap.size ⟨#[]⟩ ⟨#[]⟩ := by rw [hXx19]; exact alloc_at _ _ _ rfl
              have HBx19 := Lib.hid (below_next (HBx0.out) hbx19)
              have hwx19 : wc.heap.size ≤ Xx0.heap.size := (HBx0.out).size
              go_simp
              rw [← hXx19]
              clear hXx19
              refine hK.out _ _ (HKS2.out _ HBx19.out) ?_
              clear hK K
              intro _
              (try simp only [List.getElem_toArray, List.getElem_cons_succ, List.getElem_cons_zero, Act.put, List.setIfInBounds_toArray, List.set_cons_zero, List.set_cons_succ])
              refine run_one (i := 2) (by kernel_rfl) rfl rfl ?_
              intro K hK
              go_simp
              (with_reducible refine (HWN.out Xx19).mono ?_)
              rintro e Xx20 ⟨v20, rfl, hvx20, hbx20⟩
              have HBx20 := Lib.hid (below_next (HBx19.out) hbx20)
              refine hK.out _ _ (HKS2.out _ HBx20.out) ?_
              clear hK K
              intro _
              obtain ⟨bwn, Awn, cwn, lwn, Dwn, dwn, mwn, rfl⟩ := hvx20.shape
              (try simp only [List.getElem_toArray, List.getElem_cons_succ, List.getElem_cons_zero, Act.put, List.setIfInBounds_toArray, List.set_cons_zero, List.set_cons_succ])
              refine run_one (i := 4) (by kernel_rfl) rfl rfl ?_
              intro K hK
              go_simp
              (with_reducible refine (rPlus_any 200 _ _ ((n : Int) : Rat) (q * p) Xx20 (by omega) (hvx20) (HFF.out.on (HBx20.out)) HSN.out HSPR.out).mono ?_)
              rintro e Xx21 ⟨v21, rfl, hvx21, hbx21⟩
              have HBx21 := Lib.hid (below_next (HBx20.out) hbx21)
              refine hK.out _ _ (HKS2.out _ HBx21.out) ?_
              clear hK K
              intro _
              obtain ⟨bpl, Apl, cpl, lpl, Dpl, dpl, mpl, rfl⟩ := hvx21.shape
              (try simp only [List.getElem_toArray, List.getElem_cons_succ, List.getElem_cons_zero, Act.put, List.setIfInBounds_toArray, List.set_cons_zero, List.set_cons_succ])
              refine run_one (i := 5) (by kernel_rfl) rfl rfl ?_
              intro K hK
              go_simp
              (with_reducible refine (rOver_any 200 _ _ (q * p) (((n : Int) : Rat) + q * p) Xx21 (by omega) (HFF.out.on (HBx21.out)) (hvx21) HSPR.out HSPL.out HNE.out).mono ?_)
              rintro e Xx22 ⟨v22, rfl, hvx22, hbx22⟩
              have HBx22 := Lib.hid (below_next (HBx21.out) hbx22)
              refine hK.out _ _ (HKS2.out _ HBx22.out) ?_
              clear hK K
              intro _
              obtain ⟨bov, Aov, cov, lov, Dov, dov, mov, rfl⟩ := hvx22.shape
              (try simp only [List.getElem_toArray, List.getElem_cons_succ, List.getElem_cons_zero, Act.put, List.setIfInBounds_toArray, List.set_cons_zero, List.set_cons_succ])
              refine run_one (i := 6) (by kernel_rfl) rfl rfl ?_
              intro K hK
              go_simp
              (with_reducible refine (HRT.out _ Xx22 (below_next HBC.out (HBx22.out)) (hvx22)).mono ?_)
              rintro e Xx23 ⟨rfl, hbx23⟩
              have HBx23 := Lib.hid (below_next (HBx22.out) hbx23)
              refine hK.out _ _ (HKS2.out _ HBx23.out) ?_
              clear hK K
              intro _
              (try simp only [List.getElem_toArray, List.getElem_cons_succ, List.getElem_cons_zero, Act.put, List.setIfInBounds_toArray, List.set_cons_zero, List.set_cons_succ])
              have HS0 := HKS2.out _ (HBx23.out)
              refine wpAnyH_take (i := 7) (v := ?_) rfl (by kernel_rfl) (by kernel_rfl) (by kernel_rfl) (fun _ _ _ h => h) (Or.inl ⟨by rfl, ?_⟩) HS0 ?_
              rotate_left
              · intro W hW; (try dsimp only at hW); go_simp; try (with_reducible rfl)
              (try simp only [List.getElem_toArray, List.getElem_cons_succ, List.getElem_cons_zero, Act.put, List.setIfInBounds_toArray, List.set_cons_zero, List.set_cons_succ])
              clear HS0
              have HS0 := HKS2.out _ (HBx23.out)
              refine wpAnyH_take (i := 8) (v := ?_) rfl (by kernel_rfl) (by kernel_rfl) (by kernel_rfl) (fun _ _ _ h => h) (Or.inl ⟨by rfl, ?_⟩) HS0 ?_
              rotate_left
              · intro W hW; (try dsimp only at hW); go_simp; try (with_reducible rfl)
              (try simp only [List.getElem_toArray, List.getElem_cons_succ, List.getElem_cons_zero, Act.put, List.setIfInBounds_toArray, List.set_cons_zero, List.set_cons_succ])
              clear HS0
              have HS0 := HKS2.out _ (HBx23.out)
              refine wpAnyH_take (i := 9) (v := ?_) rfl (by kernel_rfl) (by kernel_rfl) (by kernel_rfl) (fun _ _ _ h => h) (Or.inl ⟨by rfl, ?_⟩) HS0 ?_
              rotate_left
              · intro W hW; (try dsimp only at hW); go_simp; try (with_reducible rfl)
              (try simp only [List.getElem_toArray, List.getElem_cons_succ, List.getElem_cons_zero, Act.put, List.setIfInBounds_toArray, List.set_cons_zero, List.set_cons_succ])
              clear HS0
              obtain ⟨k0, k1, z0, z1, hlt⟩ := TxBoy.facts ((TxBoy.on (TxBoy.on (TxBoy.on (TxBoy.on hxx19 hbx20) hbx21) hbx22) hbx23))
              obtain ⟨Xx24, hXx24⟩ : ∃ X, X = (Xx23.setCell ⟨Xx0.heap.size, 0, none⟩ (.string R3)).setCell ⟨Xx0.heap.size, 1, none⟩ (.string R4) := ⟨_, rfl⟩
              have HVx24 := Lib.hid (show TxBoy Xx24 Xx0.heap.size R3 R4 by rw [hXx24]; exact set2_atg ((TxBoy.on (TxBoy.on (TxBoy.on (TxBoy.on hxx19 hbx20) hbx21) hbx22) hbx23)))
              have HBx24 := Lib.hid (show Below wc.heap.size wc Xx24 by rw [hXx24]; exact ((HBx23.out).setCell (p := ⟨Xx0.heap.size, 0, none⟩) hwx19 _).setCell (p := ⟨Xx0.heap.size, 1, none⟩) hwx19 _)
              refine run_one (i := 11) (by kernel_rfl) rfl rfl ?_
              intro K hK
              go_simp
              rw [← hXx24]
              refine hK.out _ _ (HKS2.out _ HBx24.out) ?_
              clear hK K k0 k1 z0 z1 hlt hXx24
              intro _
              (try simp only [List.getElem_toArray, List.getElem_cons_succ, List.getElem_cons_zero, Act.put, List.setIfInBounds_toArray, List.set_cons_zero, List.set_cons_succ])
              have HS0 := HKS2.out _ HBx24.out
              refine wpAnyH_take (i := 12) (v := ?_) rfl (by kernel_rfl) (by kernel_rfl) (by kernel_rfl) (fun _ _ _ h => h) (Or.inl ⟨by rfl, ?_⟩) HS0 ?_
              rotate_left
              · intro W hW; (try dsimp only at hW); go_simp; try (with_reducible rfl)
              (try simp only [List.getElem_toArray, List.getElem_cons_succ, List.getElem_cons_zero, Act.put, List.setIfInBounds_toArray, List.set_cons_zero, List.set_cons_succ])
              clear HS0
              refine wpAnyH_done (by kernel_rfl) ?_ _
              refine NoPanic.normal ?_
              have hvb := HVx24.out
              have HBD := Lib.hid (below_next HBC.out (HBx24.out))
              obtain ⟨u0, u1, -, -, -⟩ := hvb.facts
              obtain ⟨v0, v1, -, -, -⟩ := (HX2c.out.on (HBx24.out)).facts
              go_wp2_with fail
              (with_reducible refine (HH.out _ HBD.out).mono ?_)
              rintro e w13 ⟨rfl, hb13⟩
              go_wp2
              go_ret
              exact ⟨by rfl, below_next HBD.out hb13⟩
            exact AllReadyH.nil
        · have t3 : (E == 0) = true := by rw [he1]; rfl
          have t4 : (E != 0) = false := by rw [he1]; rfl
          have t5 : (E2 != 0) = true := by rw [bne_iff_ne]; exact he2
          clear he1 he2 hV hE hV2 hE2 hrR1 hrR3 hR1 hR2 hR3 hR4 ha hb htab
          go_enter Tryz.func4, Tryz.ntmps4
          go_wp2_with fail
          rw [← hW0]
          clear hW0
          go_wp2_with fail
          (with_reducible refine (HJ1.out _ HST0.out.below).mono ?_)
          rintro e w1 ⟨rfl, hb1⟩
          obtain ⟨W2, hW2⟩ : ∃ W2, W2 = w1.alloc (.cells #[.string R1, .string R2] 23) := ⟨_, rfl⟩
          have hb12 : Below w1.heap.size w1 W2 := by rw [hW2]; exact (Below.refl _ w1).alloc (Nat.le_refl _) _
          have HX1 := Lib.hid (show TxBoy W2 w1.heap.size R1 R2 by rw [hW2]; exact alloc_at _ _ _ rfl)
          have HB2 := Lib.hid (below_next hb1 hb12)
          clear p0 p1 hb1 hb12
          obtain ⟨p0, p1⟩ := HK.out W2 HB2.out
          rw [hW2] at p0 p1
          go_wp2_with fail
          rw [← hW2]
          clear hW2 p0 p1
          (with_reducible refine (HJ2.out _ (below_next HST0.out.below HB2.out)).mono ?_)
          rintro e w3 ⟨rfl, hb3⟩
          obtain ⟨W4, hW4⟩ : ∃ W4, W4 = w3.alloc (.cells #[.string R3, .string R4] 23) := ⟨_, rfl⟩
          have hb34 : Below w3.heap.size w3 W4 := by rw [hW4]; exact (Below.refl _ w3).alloc (Nat.le_refl _) _
          have HX2 := Lib.hid (show TxBoy W4 w3.heap.size R3 R4 by rw [hW4]; exact alloc_at _ _ _ rfl)
          have hb24 := below_next hb3 hb34
          have HX1b := Lib.hid (HX1.out.on hb24)
          have HB4 := Lib.hid (below_next HB2.out hb24)
          clear hb3 hb34 hb24
          go_wp2_with fail
          rw [← hW4]
          clear hW4
          (with_reducible refine (HH.out _ (below_next HST0.out.below HB4.out)).mono ?_)
          rintro e wh ⟨rfl, hbh⟩
          go_wp2
          go_ret
          exact ⟨by rfl, below_next (below_next HST0.out.below HB4.out) hbh⟩
      · have t4 : (E != 0) = true := by rw [bne_iff_ne]; exact he1
        clear he1 hV hE hV2 hE2 hrR1 hrR3 hR1 hR2 hR3 hR4 ha hb htab
        go_enter Tryz.func4, Tryz.ntmps4
        go_wp2_with fail
        rw [← hW0]
        clear hW0
        go_wp2_with fail
        (with_reducible refine (HJ1.out _ HST0.out.below).mono ?_)
        rintro e w1 ⟨rfl, hb1⟩
        obtain ⟨W2, hW2⟩ : ∃ W2, W2 = w1.alloc (.cells #[.string R1, .string R2] 23) := ⟨_, rfl⟩
        have hb12 : Below w1.heap.size w1 W2 := by rw [hW2]; exact (Below.refl _ w1).alloc (Nat.le_refl _) _
        have HX1 := Lib.hid (show TxBoy W2 w1.heap.size R1 R2 by rw [hW2]; exact alloc_at _ _ _ rfl)
        have HB2 := Lib.hid (below_next hb1 hb12)
        clear p0 p1 hb1 hb12
        obtain ⟨p0, p1⟩ := HK.out W2 HB2.out
        rw [hW2] at p0 p1
        go_wp2_with fail
        rw [← hW2]
        clear hW2 p0 p1
        (with_reducible refine (HJ2.out _ (below_next HST0.out.below HB2.out)).mono ?_)
        rintro e w3 ⟨rfl, hb3⟩
        obtain ⟨W4, hW4⟩ : ∃ W4, W4 = w3.alloc (.cells #[.string R3, .string R4] 23) := ⟨_, rfl⟩
        have hb34 : Below w3.heap.size w3 W4 := by rw [hW4]; exact (Below.refl _ w3).alloc (Nat.le_refl _) _
        have HX2 := Lib.hid (show TxBoy W4 w3.heap.size R3 R4 by rw [hW4]; exact alloc_at _ _ _ rfl)
        have hb24 := below_next hb3 hb34
        have HX1b := Lib.hid (HX1.out.on hb24)
        have HB4 := Lib.hid (below_next HB2.out hb24)
        clear hb3 hb34 hb24
        go_wp2_with fail
        rw [← hW4]
        clear hW4
        (with_reducible refine (HH.out _ (below_next HST0.out.below HB4.out)).mono ?_)
        rintro e wh ⟨rfl, hbh⟩
        go_wp2
        go_ret
        exact ⟨by rfl, below_next (below_next HST0.out.below HB4.out) hbh⟩
end Go.Proofs.YtpmnhdgajkickaaGreatDoor
