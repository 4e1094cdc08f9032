/- Package dynamometerref10: the best line. Printed by gen_r10fit10.py. -/
import Derived.Test.YtpmnhdgajkickaaGreatDoorR10Pts
import Derived.Test.YtpmnhdgajkickaaGreatDoorRunK
import Derived.Test.YtpmnhdgajkickaaGreatDoorL1
import Derived.Test.YtpmnhdgajkickaaGreatDoorL3
import Derived.BigQuiet
import Derived.Deep.QuietTactic
namespace Go.Proofs.YtpmnhdgajkickaaGreatDoor
open Go Go.RowKit Go.Proofs

theorem mk1n (n : Nat) : mkRat 1 n = ((n : Nat) : Rat)⁻¹ := by
  rw [Rat.mkRat_eq_div, Rat.div_def]
  show (1 : Rat) * _ = _
  rw [Rat.one_mul]
theorem linA_mk {l : List (Int × Int)} (h : 0 < vXX l) : mkRat (vXY l) (vXX l).toNat = linA l := by
  unfold linA
  rw [Rat.mkRat_eq_div]
  have : ((vXX l).toNat : Int) = vXX l := Int.toNat_of_nonneg (by omega)
  have h2 : (((vXX l).toNat : Nat) : Rat) = (((vXX l).toNat : Int) : Rat) := rfl
  rw [h2, this]
theorem linB_mk (l : List (Int × Int)) : ((pY l : Rat) - linA l * (pX l : Rat)) * mkRat 1 l.length = linB l := by
  unfold linB
  rw [mk1n, Rat.div_def]
  rfl
theorem set3_at {w : World} {B : Nat} {u0 u1 u2 a0 a1 a2 : Value} {t : TypeId} (e : w.heap[B]? = some (.cells #[u0, u1, u2] t (0, 0))) : (((w.setCell ⟨B, 0, none⟩ a0).setCell ⟨B, 1, none⟩ a1).setCell ⟨B, 2, none⟩ a2).heap[B]? = some (.cells #[a0, a1, a2] t (0, 0)) := by
  simp [World.setCell, Array.getElem?_modify, e]
theorem VarQ.opn {w : World} {B : Nat} {q : Rat} (h : VarQ w B q) : ∃ b A1 c1 l1 A2 c2 l2, w.heap[B]? = some (.cells #[.bool b, .slice A1 (l1 : List Nat).length c1, .slice A2 (l2 : List Nat).length c2] 35 (0, 0)) ∧ FracR w (.agg #[.bool b, .slice A1 l1.length c1, .slice A2 l2.length c2]) q := by
  obtain ⟨A1, c1, l1, A2, c2, l2, e, h1, h2⟩ := h
  exact ⟨_, A1, c1, l1, A2, c2, l2, e, A1, c1, l1, A2, c2, l2, rfl, h1, h2⟩
/-- a fraction stays as it is where a box of other things is written -/
theorem FracR.keep {w W : World} {v : Value} {q : Rat} {B : Nat} {cs : Array Value} {t : TypeId} (h : FracR w v q) (hB : w.heap[B]? = some (.cells cs t (0, 0))) (hcs : ∀ v ∈ cs.toList, ∀ z, v ≠ .int .i64 z) (hf : Fr (fun i => i = B) w W) : FracR W v q := by
  obtain ⟨A1, c1, l1, A2, c2, l2, rfl, h1, h2⟩ := h
  exact ⟨A1, c1, l1, A2, c2, l2, rfl, h1.keep hf.size (fun b o e hlt hl => hf.block b hlt (h1.apart hB hcs b o e hl)), h2.keep hf.size (fun b o e hlt hl => hf.block b hlt (h2.apart hB hcs b o e hl))⟩
set_option maxHeartbeats 8000000 in
set_option maxRecDepth 100000 in
theorem r10Fitted_any (A B : Option Addr) (ca cb : Nat) (xs ys : List Int) (w : World) (hr1 : Rd w 0 w.heap.size 1 A xs.length (ints xs)) (hr2 : Rd w 0 w.heap.size 1 B ys.length (ints ys)) (hlen : xs.length = ys.length) (hn3 : xs.length ≤ 300) (hok : OkP (xs.zip ys)) (hpos : 0 < vXX (xs.zip ys)) :
    Calls Tryz.prog 78 #[.slice A xs.length ca, .slice B ys.length cb] w fun e w' => ∃ v1 v2 v3, e = .returned (.tuple #[v1, v2, v3]) ∧ FracR w' v1 (linA (xs.zip ys)) ∧ FracR w' v2 (linB (xs.zip ys)) ∧ FracR w' v3 (linF (xs.zip ys)) ∧ Below w.heap.size w w' := by
  obtain ⟨W0, hW0⟩ : ∃ W0, W0 = ((w.alloc (.cells #[.bool false, .slice none 0 0, .slice none 0 0] 35)).alloc (.cells #[.bool false, .slice none 0 0, .slice none 0 0] 35)).alloc (.cells #[.bool false, .slice none 0 0, .slice none 0 0] 35) := ⟨_, rfl⟩
  have HST0 := Lib.hid (show St w W0 [(w.heap.size, .cells #[.bool false, .slice none 0 0, .slice none 0 0] 35 (0, 0)), (w.heap.size + 1, .cells #[.bool false, .slice none 0 0, .slice none 0 0] 35 (0, 0)), (w.heap.size + 1 + 1, .cells #[.bool false, .slice none 0 0, .slice none 0 0] 35 (0, 0))] by rw [hW0]; exact (((St.start w).alloc _ _ rfl).alloc _ _ (by simp)).alloc _ _ (by simp))
  have HR1 := Lib.hid (fun W (hW : Below w.heap.size w W) => hr1.old hW)
  have HR2 := Lib.hid (fun W (hW : Below w.heap.size w W) => hr2.old hW)
  have hs0 : W0.heap.size = w.heap.size + 1 + 1 + 1 := by rw [hW0]; simp
  obtain ⟨l, hlz⟩ : ∃ l, l = xs.zip ys := ⟨_, rfl⟩
  rw [← hlz] at hok hpos ⊢
  have hll : l.length = xs.length := by rw [hlz, List.length_zip]; omega
  have hget : ∀ k x y, xs[k]? = some x → ys[k]? = some y → l[k]? = some (x, y) := fun k x y h1 h2 => by rw [hlz]; exact zip_get h1 h2
  have hbd := bndP hok (by omega)
  have HBK := Lib.hid (fun k => bndP (hok.take k) (show (l.take k).length ≤ 300 by rw [List.length_take]; omega))
  have HOK := Lib.hid hok
  have HBD := Lib.hid hbd
  obtain ⟨n, hnn⟩ : ∃ n, n = xs.length := ⟨_, rfl⟩
  have HN := Lib.hid hnn
  have HLL := Lib.hid (show l.length = n by rw [hll, hnn])
  have HLY := Lib.hid (show ys.length = n by rw [← hlen, hnn])
  have HGET := Lib.hid hget
  have hn0 : 0 < n := by have := vXX_len (l := l) (by omega); omega
  have hn300 : n ≤ 300 := by omega
  rw [← hlen, ← hnn]
  have HPOS := Lib.hid hpos
  clear hr1 hr2 hlen hn3 hok hpos hlz hll hget hbd hnn
  go_enter Tryz.func78, Tryz.ntmps78
  go_wp2_with fail
  rw [← hW0]
  clear hW0
  go_loopw [8, 9, 10, 11, 12, 13] (fun s8 s9 s10 s11 s12 kv wr => ∃ k : Nat, kv = .int .i64 (k : Nat) ∧ k ≤ n ∧ ∃ a b c d e : Int, s8 = .int .i64 a ∧ s9 = .int .i64 b ∧ s10 = .int .i64 c ∧ s11 = .int .i64 d ∧ s12 = .int .i64 e ∧ Hid (MomIs (l.take k) (k : Nat) a b c d e) ∧ Below W0.heap.size W0 wr) (fun _ _ _ _ _ kv _ => n - (intOf kv).toNat)
  case atStart => exact ⟨0, rfl, Nat.zero_le _, 0, 0, 0, 0, 0, rfl, rfl, rfl, rfl, rfl, Lib.hid mom_nil, Below.refl _ _⟩
  case round =>
    obtain ⟨k, rfl, hk, a, b, c, d, e, rfl, rfl, rfl, rfl, rfl, HMI, hbw⟩ := hrel
    have HBW := Lib.hid hbw
    have HBKK := Lib.hid (HBK.out k)
    obtain ⟨m1, m2, m3, m4, m5⟩ := HMI.out.2
    have a1 : -300000000 ≤ a := by rw [m1]; exact HBKK.out.x1
    have a2 : a ≤ 300000000 := by rw [m1]; exact HBKK.out.x2
    have b1 : -300000000 ≤ b := by rw [m2]; exact HBKK.out.y1
    have b2 : b ≤ 300000000 := by rw [m2]; exact HBKK.out.y2
    have c1 : -300000000000000 ≤ c := by rw [m3]; exact HBKK.out.xx1
    have c2 : c ≤ 300000000000000 := by rw [m3]; exact HBKK.out.xx2
    have d1 : -300000000000000 ≤ d := by rw [m4]; exact HBKK.out.xy1
    have d2 : d ≤ 300000000000000 := by rw [m4]; exact HBKK.out.xy2
    have e1 : -300000000000000 ≤ e := by rw [m5]; exact HBKK.out.yy1
    have e2 : e ≤ 300000000000000 := by rw [m5]; exact HBKK.out.yy2
    clear m1 m2 m3 m4 m5
    by_cases hlt : k < n
    · obtain ⟨bx, ox, ux, hAx, hbx, hux, qx⟩ := (HR1.out wr (below_next HST0.out.below hbw)).at1 (show k < xs.length by rw [← HN.out]; exact hlt)
      obtain ⟨x, hx, rfl⟩ := ints_get hux
      obtain ⟨bY, oY, uY, hBy, hby, huy, qy⟩ := (HR2.out wr (below_next HST0.out.below hbw)).at1 (show k < ys.length by rw [HLY.out]; exact hlt)
      obtain ⟨y, hy, rfl⟩ := ints_get huy
      subst hAx
      subst hBy
      have hz := HGET.out k x y hx hy
      have hxy := HOK.out (x, y) (List.mem_of_getElem? hz)
      have HSN := Lib.hid (sums_next hz)
      have HLK := Lib.hid (show (((l.take (k + 1)).length : Nat) : Int) = ((k + 1 : Nat) : Int) by rw [List.length_take]; have := HLL.out; omega)
      obtain ⟨⟨x1, x2⟩, y1, y2⟩ := hxy
      simp only at x1 x2 y1 y2
      obtain ⟨i1, i2⟩ := ibound (A := 1000000) (B := 1000000) x1 x2 x1 x2
      obtain ⟨i3, i4⟩ := ibound (A := 1000000) (B := 1000000) x1 x2 y1 y2
      obtain ⟨i5, i6⟩ := ibound (A := 1000000) (B := 1000000) y1 y2 y1 y2
      rw [show (1000000 : Int) * 1000000 = 1000000000000 from rfl] at i1 i2 i3 i4 i5 i6
      clear hbw hux hx huy hy hz
      go_wp2_with fail
      go_quiet (fail)
      go_wp2_with fail
      go_quiet (fail)
      go_wp2_with fail
      go_quiet (fail)
      go_wp2
      go_roundw
      case rel => exact ⟨k + 1, by go_num, by omega, a + x, b + y, c + x * x, d + x * y, e + y * y, rfl, rfl, rfl, rfl, rfl, Lib.hid ⟨HLK.out.symm, by rw [HMI.out.2.1]; exact HSN.out.1.symm, by rw [HMI.out.2.2.1]; exact HSN.out.2.1.symm, by rw [HMI.out.2.2.2.1]; exact HSN.out.2.2.1.symm, by rw [HMI.out.2.2.2.2.1]; exact HSN.out.2.2.2.1.symm, by rw [HMI.out.2.2.2.2.2]; exact HSN.out.2.2.2.2.symm⟩, by first | exact HBW.out | exact below_drewN HBW.out _ | exact below_drewN (below_drewN HBW.out _) _ | exact below_drewN (below_drewN (below_drewN HBW.out _) _) _⟩
      case measure => simp [intOf]; omega
    · obtain rfl : k = n := by omega
      have hmi := HMI.out
      rw [List.take_of_length_le (by rw [HLL.out]; exact Nat.le_refl _)] at hmi
      have hxx : (k : Int) * c - a * a = vXX l := by unfold vXX; rw [← hmi.1, ← hmi.2.1, ← hmi.2.2.2.1]
      have hxy : (k : Int) * d - a * b = vXY l := by unfold vXY; rw [← hmi.1, ← hmi.2.1, ← hmi.2.2.1, ← hmi.2.2.2.2.1]
      have hyy : (k : Int) * e - b * b = vYY l := by unfold vYY; rw [← hmi.1, ← hmi.2.2.1, ← hmi.2.2.2.2.2]
      obtain ⟨⟨q1, q2⟩, ⟨q3, q4⟩, q5, q6⟩ := HBD.out.spr
      have hp := HPOS.out
      have HPT := Lib.hid (show ∀ W, Calls Tryz.prog 60 #[.int .i64 ((k : Int) * d - a * b), .int .i64 ((k : Int) * c - a * a)] W (FracPost (linA l) W) from fun W => by
        rw [hxx, hxy, ← linA_mk hp]
        exact rPart_any _ _ W (by omega) (by omega) (by omega) (by omega))
      have HWYY := Lib.hid (show ∀ W, Calls Tryz.prog 18 #[.int .i64 ((k : Int) * e - b * b)] W (FracPost (vYY l : Rat) W) from fun W => by
        rw [hyy]; exact rWhole_any _ W (by omega) (by omega))
      have HWXY := Lib.hid (show ∀ W, Calls Tryz.prog 18 #[.int .i64 ((k : Int) * d - a * b)] W (FracPost (vXY l : Rat) W) from fun W => by
        rw [hxy]; exact rWhole_any _ W (by omega) (by omega))
      have HWB := Lib.hid (fun W => rWhole_any b W (by omega) (by omega))
      have HWA := Lib.hid (fun W => rWhole_any a W (by omega) (by omega))
      have HPN := Lib.hid (show ∀ W, Calls Tryz.prog 60 #[.int .i64 1, .int .i64 (k : Int)] W (FracPost (mkRat 1 k) W) from fun W => by
        have := rPart_any 1 (k : Int) W (by omega) (by omega) (by omega) (by omega)
        rw [Int.toNat_natCast] at this
        exact this)
      have t1 : ((k : Int) * c - a * a == 0) = false := by rw [hxx, beq_eq_false_iff_ne]; omega
      have t2 : ¬ (k : Int) * c - a * a = 0 := by rw [hxx]; omega
      have T5 : ∀ z : Nat, z < 1000000000000000000 → z < T4 ^ 5 := fun z hz => Nat.lt_of_lt_of_le hz (by unfold T4; decide)
      have z1 : Sz 5 (linA l) := by rw [← linA_mk hp]; exact sz_part2 (T5 _ (by omega)) (by omega) (T5 _ (by omega))
      have z2 : Sz 5 (vXY l : Rat) := sz_int2 (T5 _ (by omega)) (by omega)
      have z3 : Sz 5 (vYY l : Rat) := sz_int2 (T5 _ (by omega)) (by omega)
      have z4 : Sz 5 (a : Rat) := sz_int2 (T5 _ (by omega)) (by omega)
      have z5 : Sz 5 (b : Rat) := sz_int2 (T5 _ (by omega)) (by omega)
      have z6 : Sz 5 (mkRat 1 k) := sz_part2 (T5 _ (by decide)) (by omega) (T5 _ (by omega))
      have HZA := Lib.hid (z1.mono (show 5 ≤ 20 by omega))
      have HZXY := Lib.hid (z2.mono (show 5 ≤ 20 by omega))
      have HZYY := Lib.hid (z3.mono (show 5 ≤ 20 by omega))
      have HZa := Lib.hid (z4.mono (show 5 ≤ 20 by omega))
      have HZB := Lib.hid (z5.mono (show 5 ≤ 20 by omega))
      have HZN := Lib.hid (z6.mono (show 5 ≤ 20 by omega))
      have HZ1 := Lib.hid ((sz_mul z1 z4).mono (show 5 + 5 ≤ 20 by omega))
      have HZ2 := Lib.hid ((sz_sub z5 (sz_mul z1 z4)).mono (show 5 + (5 + 5) + 1 ≤ 20 by omega))
      have HZ3 := Lib.hid ((sz_mul z1 z2).mono (show 5 + 5 ≤ 20 by omega))
      have HZ4 := Lib.hid ((sz_sub z3 (sz_mul z1 z2)).mono (show 5 + (5 + 5) + 1 ≤ 20 by omega))
      have HEB := Lib.hid (show ((b : Rat) - linA l * (a : Rat)) * mkRat 1 k = linB l by
        rw [hmi.2.1, hmi.2.2.1, ← HLL.out]; exact linB_mk l)
      have HEF := Lib.hid (show ((vYY l : Rat) - linA l * (vXY l : Rat)) * mkRat 1 k = linF l by
        rw [← HLL.out]; exact (linF_eq hp (by rw [HLL.out]; exact hn0)).symm)
      obtain ⟨f1, f2⟩ := ibound (A := 300) (B := 300000000000000) (x := (k : Int)) (by omega) (by omega) c1 c2
      obtain ⟨f3, f4⟩ := ibound (A := 300) (B := 300000000000000) (x := (k : Int)) (by omega) (by omega) d1 d2
      obtain ⟨f5, f6⟩ := ibound (A := 300) (B := 300000000000000) (x := (k : Int)) (by omega) (by omega) e1 e2
      obtain ⟨g1, g2⟩ := ibound (A := 300000000) (B := 300000000) a1 a2 a1 a2
      obtain ⟨g3, g4⟩ := ibound (A := 300000000) (B := 300000000) a1 a2 b1 b2
      obtain ⟨g5, g6⟩ := ibound (A := 300000000) (B := 300000000) b1 b2 b1 b2
      rw [show (300000000 : Int) * 300000000 = 90000000000000000 from rfl] at g1 g2 g3 g4 g5 g6
      rw [show (300 : Int) * 300000000000000 = 90000000000000000 from rfl] at f1 f2 f3 f4 f5 f6
      clear hmi hxx hxy hyy q1 q2 q3 q4 q5 q6 hp T5 z1 z2 z3 z4 z5 z6 hbw
      go_wp2_with fail
      (with_reducible refine (HPT.out _).mono ?_)
      rintro e' w2 ⟨v2, rfl, hv2, hb2⟩
      obtain ⟨bA, A1, c1', l1, A2, c2', l2, rfl⟩ := hv2.shape
      obtain ⟨W3, hW3⟩ : ∃ W3, W3 = w2.alloc (.cells #[.bool bA, .slice A1 l1.length c1', .slice A2 l2.length c2'] 35) := ⟨_, rfl⟩
      have hb23 : Below w2.heap.size w2 W3 := by rw [hW3]; exact (Below.refl _ w2).alloc (Nat.le_refl _) _
      have HSLOPE_W3 := Lib.hid (hv2.on hb23)
      have HES := Lib.hid (show W3.heap[w2.heap.size]? = some (.cells #[.bool bA, .slice A1 l1.length c1', .slice A2 l2.length c2'] 35 (0, 0)) by rw [hW3]; exact alloc_at _ _ _ rfl)
      have HB3 := Lib.hid (below_next HBW.out (below_next hb2 hb23))
      have HLO0 := Lib.hid (show W0.heap.size ≤ w2.heap.size from Nat.le_trans HBW.out.size hb2.size)
      clear hv2 hb2 hb23
      go_wp2_with fail
      rw [← hW3]
      clear hW3
      have HKS := Lib.hid (show ∀ X, Below W3.heap.size W3 X → (fun X => Below W3.heap.size W3 X ∧ X.cell? ⟨w2.heap.size, 0, none⟩ = some (.bool bA) ∧ X.cell? ⟨w2.heap.size, 1, none⟩ = some (.slice A1 l1.length c1') ∧ X.cell? ⟨w2.heap.size, 2, none⟩ = some (.slice A2 l2.length c2')) X from fun X hX => by
        have e := (hX.block _ (heap_lt HES.out)).trans HES.out
        exact ⟨hX, by rw [cellsAt e]; rfl, by rw [cellsAt e]; rfl, by rw [cellsAt e]; rfl⟩)
      go_cut [18] (fun x wx => ∃ Bo, x = .pointer (some ⟨Bo, 0, none⟩) ∧ W3.heap.size ≤ Bo ∧ VarQ wx Bo (linB l) ∧ Below W3.heap.size W3 wx)
      case first =>
        skip
        {
 refine wp_region_noPanic ?_
 refine wp_region_held_drew (S := (fun X => Below W3.heap.size W3 X ∧ X.cell? ⟨w2.heap.size, 0, none⟩ = some (.bool bA) ∧ X.cell? ⟨w2.heap.size, 1, none⟩ = some (.slice A1 l1.length c1') ∧ X.cell? ⟨w2.heap.size, 2, none⟩ = some (.slice A2 l2.length c2'))) (by kernel_rfl) (HKS.out _ (Below.refl _ W3).drew) (fun HS0 => ?_)
 have hbx0 : Below W3.heap.size W3 W3.drew := (Below.refl _ _).drew
 obtain ⟨Xx0, hXx0⟩ : ∃ X, X = W3.drew := ⟨_, rfl⟩
 rw [← hXx0] at hbx0 HS0 ⊢
 have HBx0 := Lib.hid hbx0
 clear hbx0 hXx0
 refine wpAnyH_take (i := 0) (v := ?_) rfl (by kernel_rfl) (by kernel_rfl) (by kernel_rfl) (fun _ _ _ h => h) (Or.inl ⟨by rfl, ?_⟩) HS0 ?_
 rotate_left
 · intro W hW; (try dsimp only at hW); go_simp; try (with_reducible rfl)
 refine wpAnyH_take (i := 2) (v := ?_) rfl (by kernel_rfl) (by kernel_rfl) (by kernel_rfl) (fun _ _ _ h => h) (Or.inl ⟨by rfl, ?_⟩) HS0 ?_
 rotate_left
 · intro W hW; (try dsimp only at hW); go_simp; try (with_reducible rfl)
 refine wpAnyH_take (i := 3) (v := ?_) rfl (by kernel_rfl) (by kernel_rfl) (by kernel_rfl) (fun _ _ _ h => h) (Or.inl ⟨by rfl, ?_⟩) HS0 ?_
 rotate_left
 · intro W hW; (try dsimp only at hW); go_simp; try (with_reducible rfl)
 refine wpAnyH_take (i := 7) (v := ?_) rfl (by kernel_rfl) (by kernel_rfl) (by kernel_rfl) (fun _ _ _ h => h) (Or.inl ⟨by rfl, ?_⟩) HS0 ?_
 rotate_left
 · intro W hW; (try dsimp only at hW); go_simp; try (with_reducible rfl)
 clear HS0
 refine wpAnyH_ready (rs := [1, 10]) (by kernel_rfl) (by simp) ?_
 refine AllReadyH.cons rfl (fun K hK => ?_) ?_
 {
 refine wp_call (HWB.out Xx0) (by kernel_rfl) ?_
 rintro e Xx1 ⟨v1, rfl, hvx1, hbx1⟩
 have HBx1 := Lib.hid (below_next (HBx0.out) hbx1)
 refine ⟨_, rfl, hK.out _ _ (HKS.out _ HBx1.out) ?_⟩
 clear hK K
 intro _
 obtain ⟨bw1, Aw1, cw1, lw1, Dw1, dw1, mw1, rfl⟩ := hvx1.shape
 refine wpAnyH_ready (rs := [4, 10]) (by kernel_rfl) (by simp) ?_
 refine AllReadyH.cons rfl (fun K hK => ?_) ?_
 {
 refine wp_call (HWA.out Xx1) (by kernel_rfl) ?_
 rintro e Xx2 ⟨v2, rfl, hvx2, hbx2⟩
 have HBx2 := Lib.hid (below_next (HBx1.out) hbx2)
 refine ⟨_, rfl, hK.out _ _ (HKS.out _ HBx2.out) ?_⟩
 clear hK K
 intro _
 obtain ⟨bw2, Aw2, cw2, lw2, Dw2, dw2, mw2, rfl⟩ := hvx2.shape
 refine wpAnyH_ready (rs := [5, 10]) (by kernel_rfl) (by simp) ?_
 refine AllReadyH.cons rfl (fun K hK => ?_) ?_
 {
 refine wp_call (rTimes_any 20 _ _ (linA l) (a : Rat) Xx2 (by omega) (HSLOPE_W3.out.on (HBx2.out)) (hvx2) HZA.out HZa.out) (by kernel_rfl) ?_
 rintro e Xx3 ⟨v3, rfl, hvx3, hbx3⟩
 have HBx3 := Lib.hid (below_next (HBx2.out) hbx3)
 refine ⟨_, rfl, hK.out _ _ (HKS.out _ HBx3.out) ?_⟩
 clear hK K
 intro _
 obtain ⟨btm, Atm, ctm, ltm, Dtm, dtm, mtm, rfl⟩ := hvx3.shape
 refine wpAnyH_ready (rs := [6, 10]) (by kernel_rfl) (by simp) ?_
 refine AllReadyH.cons rfl (fun K hK => ?_) ?_
 {
 refine wp_call (rLess_any 20 _ _ (b : Rat) (linA l * (a : Rat)) Xx3 (by omega) (((hvx1).on hbx2).on hbx3) (hvx3) HZB.out HZ1.out) (by kernel_rfl) ?_
 rintro e Xx4 ⟨v4, rfl, hvx4, hbx4⟩
 have HBx4 := Lib.hid (below_next (HBx3.out) hbx4)
 refine ⟨_, rfl, hK.out _ _ (HKS.out _ HBx4.out) ?_⟩
 clear hK K
 intro _
 obtain ⟨bls, Als, cls, lls, Dls, dls, mls, rfl⟩ := hvx4.shape
 refine wpAnyH_ready (rs := [8, 10]) (by kernel_rfl) (by simp) ?_
 refine AllReadyH.cons rfl (fun K hK => ?_) ?_
 {
 refine wp_call (HPN.out Xx4) (by kernel_rfl) ?_
 rintro e Xx5 ⟨v5, rfl, hvx5, hbx5⟩
 have HBx5 := Lib.hid (below_next (HBx4.out) hbx5)
 refine ⟨_, rfl, hK.out _ _ (HKS.out _ HBx5.out) ?_⟩
 clear hK K
 intro _
 obtain ⟨bpt, Apt, cpt, lpt, Dpt, dpt, mpt, rfl⟩ := hvx5.shape
 refine wpAnyH_ready (rs := [9, 10]) (by kernel_rfl) (by simp) ?_
 refine AllReadyH.cons rfl (fun K hK => ?_) ?_
 {
 refine wp_call (rTimes_any 20 _ _ ((b : Rat) - linA l * (a : Rat)) (mkRat 1 k) Xx5 (by omega) ((hvx4).on hbx5) (hvx5) HZ2.out HZN.out) (by kernel_rfl) ?_
 rintro e Xx6 ⟨v6, rfl, hvx6, hbx6⟩
 have HBx6 := Lib.hid (below_next (HBx5.out) hbx6)
 refine ⟨_, rfl, hK.out _ _ (HKS.out _ HBx6.out) ?_⟩
 clear hK K
 intro _
 obtain ⟨brs, Ars, crs, lrs, Drs, drs, mrs, rfl⟩ := hvx6.shape
 refine run_one (i := 10) (by kernel_rfl) rfl rfl ?_
 intro K hK
 obtain ⟨Xx7, hXx7⟩ : ∃ X, X = Xx6.alloc (.cells #[.bool false, .slice none 0 0, .slice none 0 0] 35) := ⟨_, rfl⟩
 have hbx7 : Below Xx6.heap.size Xx6 Xx7 := by rw [hXx7]; exact (Below.refl _ _).alloc (Nat.le_refl _) _
 have hxx7 : FBox Xx7 Xx6.heap.size := by rw [hXx7]; exact alloc_at _ _ _ rfl
 have HBx7 := Lib.hid (below_next (HBx6.out) hbx7)
 have hwx7 : W3.heap.size ≤ Xx6.heap.size := (HBx6.out).size
 refine wp_val (v := .pointer (some ⟨Xx6.heap.size, 0, none⟩)) (w' := Xx7) (by rw [hXx7]; kernel_rfl) ?_
 clear hXx7
 refine hK.out _ _ (HKS.out _ HBx7.out) ?_
 clear hK K
 intro _
 obtain ⟨k0, k1, k2, z0, z1, z2, hlt⟩ := FBox.facts (hxx7)
 obtain ⟨Xx8, hXx8⟩ : ∃ X, X = ((Xx7.setCell ⟨Xx6.heap.size, 0, none⟩ (.bool brs)).setCell ⟨Xx6.heap.size, 1, none⟩ (.slice Ars lrs.length crs)).setCell ⟨Xx6.heap.size, 2, none⟩ (.slice Drs mrs.length drs) := ⟨_, rfl⟩
 have HVx8 := Lib.hid (show VarQ Xx8 Xx6.heap.size _ by rw [hXx8]; exact VarQ.store (hxx7) ((hvx6).on hbx7))
 have HBx8 := Lib.hid (show Below W3.heap.size W3 Xx8 by rw [hXx8]; exact (((HBx7.out).setCell (p := ⟨Xx6.heap.size, 0, none⟩) hwx7 _).setCell (p := ⟨Xx6.heap.size, 1, none⟩) hwx7 _).setCell (p := ⟨Xx6.heap.size, 2, none⟩) hwx7 _)
 refine run_one (i := 11) (by kernel_rfl) rfl rfl ?_
 intro K hK
 go_simp
 rw [← hXx8]
 refine hK.out _ _ (HKS.out _ HBx8.out) ?_
 clear hK K k0 k1 k2 z0 z1 z2 hlt hXx8
 intro _
 refine wpAnyH_done (by kernel_rfl) ?_ _
 refine NoPanic.normal ?_
 go_wp2_with fail
 go_meet
 exact ⟨Xx6.heap.size, rfl, hwx7, by rw [← HEB.out]; exact HVx8.out, HBx8.out⟩
 }
 refine AllReadyH.cons rfl (fun K hK => ?_) ?_
 {
 obtain ⟨Xx9, hXx9⟩ : ∃ X, X = Xx5.alloc (.cells #[.bool false, .slice none 0 0, .slice none 0 0] 35) := ⟨_, rfl⟩
 have hbx9 : Below Xx5.heap.size Xx5 Xx9 := by rw [hXx9]; exact (Below.refl _ _).alloc (Nat.le_refl _) _
 have hxx9 : FBox Xx9 Xx5.heap.size := by rw [hXx9]; exact alloc_at _ _ _ rfl
 have HBx9 := Lib.hid (below_next (HBx5.out) hbx9)
 have hwx9 : W3.heap.size ≤ Xx5.heap.size := (HBx5.out).size
 refine wp_val (v := .pointer (some ⟨Xx5.heap.size, 0, none⟩)) (w' := Xx9) (by rw [hXx9]; kernel_rfl) ?_
 clear hXx9
 refine hK.out _ _ (HKS.out _ HBx9.out) ?_
 clear hK K
 intro _
 refine run_one (i := 9) (by kernel_rfl) rfl rfl ?_
 intro K hK
 refine wp_call (rTimes_any 20 _ _ ((b : Rat) - linA l * (a : Rat)) (mkRat 1 k) Xx9 (by omega) (((hvx4).on hbx5).on hbx9) ((hvx5).on hbx9) HZ2.out HZN.out) (by kernel_rfl) ?_
 rintro e Xx10 ⟨v10, rfl, hvx10, hbx10⟩
 have HBx10 := Lib.hid (below_next (HBx9.out) hbx10)
 refine ⟨_, rfl, hK.out _ _ (HKS.out _ HBx10.out) ?_⟩
 clear hK K
 intro _
 obtain ⟨brs, Ars, crs, lrs, Drs, drs, mrs, rfl⟩ := hvx10.shape
 obtain ⟨k0, k1, k2, z0, z1, z2, hlt⟩ := FBox.facts ((FBox.on hxx9 hbx10))
 obtain ⟨Xx11, hXx11⟩ : ∃ X, X = ((Xx10.setCell ⟨Xx5.heap.size, 0, none⟩ (.bool brs)).setCell ⟨Xx5.heap.size, 1, none⟩ (.slice Ars lrs.length crs)).setCell ⟨Xx5.heap.size, 2, none⟩ (.slice Drs mrs.length drs) := ⟨_, rfl⟩
 have HVx11 := Lib.hid (show VarQ Xx11 Xx5.heap.size _ by rw [hXx11]; exact VarQ.store ((FBox.on hxx9 hbx10)) (hvx10))
 have HBx11 := Lib.hid (show Below W3.heap.size W3 Xx11 by rw [hXx11]; exact (((HBx10.out).setCell (p := ⟨Xx5.heap.size, 0, none⟩) hwx9 _).setCell (p := ⟨Xx5.heap.size, 1, none⟩) hwx9 _).setCell (p := ⟨Xx5.heap.size, 2, none⟩) hwx9 _)
 refine run_one (i := 11) (by kernel_rfl) rfl rfl ?_
 intro K hK
 go_simp
 rw [← hXx11]
 refine hK.out _ _ (HKS.out _ HBx11.out) ?_
 clear hK K k0 k1 k2 z0 z1 z2 hlt hXx11
 intro _
 refine wpAnyH_done (by kernel_rfl) ?_ _
 refine NoPanic.normal ?_
 go_wp2_with fail
 go_meet
 exact ⟨Xx5.heap.size, rfl, hwx9, by rw [← HEB.out]; exact HVx11.out, HBx11.out⟩
 }
 exact AllReadyH.nil
 }
 refine AllReadyH.cons rfl (fun K hK => ?_) ?_
 {
 obtain ⟨Xx12, hXx12⟩ : ∃ X, X = Xx4.alloc (.cells #[.bool false, .slice none 0 0, .slice none 0 0] 35) := ⟨_, rfl⟩
 have hbx12 : Below Xx4.heap.size Xx4 Xx12 := by rw [hXx12]; exact (Below.refl _ _).alloc (Nat.le_refl _) _
 have hxx12 : FBox Xx12 Xx4.heap.size := by rw [hXx12]; exact alloc_at _ _ _ rfl
 have HBx12 := Lib.hid (below_next (HBx4.out) hbx12)
 have hwx12 : W3.heap.size ≤ Xx4.heap.size := (HBx4.out).size
 refine wp_val (v := .pointer (some ⟨Xx4.heap.size, 0, none⟩)) (w' := Xx12) (by rw [hXx12]; kernel_rfl) ?_
 clear hXx12
 refine hK.out _ _ (HKS.out _ HBx12.out) ?_
 clear hK K
 intro _
 refine run_one (i := 8) (by kernel_rfl) rfl rfl ?_
 intro K hK
 refine wp_call (HPN.out Xx12) (by kernel_rfl) ?_
 rintro e Xx13 ⟨v13, rfl, hvx13, hbx13⟩
 have HBx13 := Lib.hid (below_next (HBx12.out) hbx13)
 refine ⟨_, rfl, hK.out _ _ (HKS.out _ HBx13.out) ?_⟩
 clear hK K
 intro _
 obtain ⟨bpt, Apt, cpt, lpt, Dpt, dpt, mpt, rfl⟩ := hvx13.shape
 refine run_one (i := 9) (by kernel_rfl) rfl rfl ?_
 intro K hK
 refine wp_call (rTimes_any 20 _ _ ((b : Rat) - linA l * (a : Rat)) (mkRat 1 k) Xx13 (by omega) (((hvx4).on hbx12).on hbx13) (hvx13) HZ2.out HZN.out) (by kernel_rfl) ?_
 rintro e Xx14 ⟨v14, rfl, hvx14, hbx14⟩
 have HBx14 := Lib.hid (below_next (HBx13.out) hbx14)
 refine ⟨_, rfl, hK.out _ _ (HKS.out _ HBx14.out) ?_⟩
 clear hK K
 intro _
 obtain ⟨brs, Ars, crs, lrs, Drs, drs, mrs, rfl⟩ := hvx14.shape
 obtain ⟨k0, k1, k2, z0, z1, z2, hlt⟩ := FBox.facts ((FBox.on (FBox.on hxx12 hbx13) hbx14))
 obtain ⟨Xx15, hXx15⟩ : ∃ X, X = ((Xx14.setCell ⟨Xx4.heap.size, 0, none⟩ (.bool brs)).setCell ⟨Xx4.heap.size, 1, none⟩ (.slice Ars lrs.length crs)).setCell ⟨Xx4.heap.size, 2, none⟩ (.slice Drs mrs.length drs) := ⟨_, rfl⟩
 have HVx15 := Lib.hid (show VarQ Xx15 Xx4.heap.size _ by rw [hXx15]; exact VarQ.store ((FBox.on (FBox.on hxx12 hbx13) hbx14)) (hvx14))
 have HBx15 := Lib.hid (show Below W3.heap.size W3 Xx15 by rw [hXx15]; exact (((HBx14.out).setCell (p := ⟨Xx4.heap.size, 0, none⟩) hwx12 _).setCell (p := ⟨Xx4.heap.size, 1, none⟩) hwx12 _).setCell (p := ⟨Xx4.heap.size, 2, none⟩) hwx12 _)
 refine run_one (i := 11) (by kernel_rfl) rfl rfl ?_
 intro K hK
 go_simp
 rw [← hXx15]
 refine hK.out _ _ (HKS.out _ HBx15.out) ?_
 clear hK K k0 k1 k2 z0 z1 z2 hlt hXx15
 intro _
 refine wpAnyH_done (by kernel_rfl) ?_ _
 refine NoPanic.normal ?_
 go_wp2_with fail
 go_meet
 exact ⟨Xx4.heap.size, rfl, hwx12, by rw [← HEB.out]; exact HVx15.out, HBx15.out⟩
 }
 exact AllReadyH.nil
 }
 refine AllReadyH.cons rfl (fun K hK => ?_) ?_
 {
 obtain ⟨Xx16, hXx16⟩ : ∃ X, X = Xx3.alloc (.cells #[.bool false, .slice none 0 0, .slice none 0 0] 35) := ⟨_, rfl⟩
 have hbx16 : Below Xx3.heap.size Xx3 Xx16 := by rw [hXx16]; exact (Below.refl _ _).alloc (Nat.le_refl _) _
 have hxx16 : FBox Xx16 Xx3.heap.size := by rw [hXx16]; exact alloc_at _ _ _ rfl
 have HBx16 := Lib.hid (below_next (HBx3.out) hbx16)
 have hwx16 : W3.heap.size ≤ Xx3.heap.size := (HBx3.out).size
 refine wp_val (v := .pointer (some ⟨Xx3.heap.size, 0, none⟩)) (w' := Xx16) (by rw [hXx16]; kernel_rfl) ?_
 clear hXx16
 refine hK.out _ _ (HKS.out _ HBx16.out) ?_
 clear hK K
 intro _
 refine run_one (i := 6) (by kernel_rfl) rfl rfl ?_
 intro K hK
 refine wp_call (rLess_any 20 _ _ (b : Rat) (linA l * (a : Rat)) Xx16 (by omega) ((((hvx1).on hbx2).on hbx3).on hbx16) ((hvx3).on hbx16) HZB.out HZ1.out) (by kernel_rfl) ?_
 rintro e Xx17 ⟨v17, rfl, hvx17, hbx17⟩
 have HBx17 := Lib.hid (below_next (HBx16.out) hbx17)
 refine ⟨_, rfl, hK.out _ _ (HKS.out _ HBx17.out) ?_⟩
 clear hK K
 intro _
 obtain ⟨bls, Als, cls, lls, Dls, dls, mls, rfl⟩ := hvx17.shape
 refine run_one (i := 8) (by kernel_rfl) rfl rfl ?_
 intro K hK
 refine wp_call (HPN.out Xx17) (by kernel_rfl) ?_
 rintro e Xx18 ⟨v18, rfl, hvx18, hbx18⟩
 have HBx18 := Lib.hid (below_next (HBx17.out) hbx18)
 refine ⟨_, rfl, hK.out _ _ (HKS.out _ HBx18.out) ?_⟩
 clear hK K
 intro _
 obtain ⟨bpt, Apt, cpt, lpt, Dpt, dpt, mpt, rfl⟩ := hvx18.shape
 refine run_one (i := 9) (by kernel_rfl) rfl rfl ?_
 intro K hK
 refine wp_call (rTimes_any 20 _ _ ((b : Rat) - linA l * (a : Rat)) (mkRat 1 k) Xx18 (by omega) ((hvx17).on hbx18) (hvx18) HZ2.out HZN.out) (by kernel_rfl) ?_
 rintro e Xx19 ⟨v19, rfl, hvx19, hbx19⟩
 have HBx19 := Lib.hid (below_next (HBx18.out) hbx19)
 refine ⟨_, rfl, hK.out _ _ (HKS.out _ HBx19.out) ?_⟩
 clear hK K
 intro _
 obtain ⟨brs, Ars, crs, lrs, Drs, drs, mrs, rfl⟩ := hvx19.shape
 obtain ⟨k0, k1, k2, z0, z1, z2, hlt⟩ := FBox.facts ((FBox.on (FBox.on (FBox.on hxx16 hbx17) hbx18) hbx19))
 obtain ⟨Xx20, hXx20⟩ : ∃ X, X = ((Xx19.setCell ⟨Xx3.heap.size, 0, none⟩ (.bool brs)).setCell ⟨Xx3.heap.size, 1, none⟩ (.slice Ars lrs.length crs)).setCell ⟨Xx3.heap.size, 2, none⟩ (.slice Drs mrs.length drs) := ⟨_, rfl⟩
 have HVx20 := Lib.hid (show VarQ Xx20 Xx3.heap.size _ by rw [hXx20]; exact VarQ.store ((FBox.on (FBox.on (FBox.on hxx16 hbx17) hbx18) hbx19)) (hvx19))
 have HBx20 := Lib.hid (show Below W3.heap.size W3 Xx20 by rw [hXx20]; exact (((HBx19.out).setCell (p := ⟨Xx3.heap.size, 0, none⟩) hwx16 _).setCell (p := ⟨Xx3.heap.size, 1, none⟩) hwx16 _).setCell (p := ⟨Xx3.heap.size, 2, none⟩) hwx16 _)
 refine run_one (i := 11) (by kernel_rfl) rfl rfl ?_
 intro K hK
 go_simp
 rw [← hXx20]
 refine hK.out _ _ (HKS.out _ HBx20.out) ?_
 clear hK K k0 k1 k2 z0 z1 z2 hlt hXx20
 intro _
 refine wpAnyH_done (by kernel_rfl) ?_ _
 refine NoPanic.normal ?_
 go_wp2_with fail
 go_meet
 exact ⟨Xx3.heap.size, rfl, hwx16, by rw [← HEB.out]; exact HVx20.out, HBx20.out⟩
 }
 exact AllReadyH.nil
 }
 refine AllReadyH.cons rfl (fun K hK => ?_) ?_
 {
 obtain ⟨Xx21, hXx21⟩ : ∃ X, X = Xx2.alloc (.cells #[.bool false, .slice none 0 0, .slice none 0 0] 35) := ⟨_, rfl⟩
 have hbx21 : Below Xx2.heap.size Xx2 Xx21 := by rw [hXx21]; exact (Below.refl _ _).alloc (Nat.le_refl _) _
 have hxx21 : FBox Xx21 Xx2.heap.size := by rw [hXx21]; exact alloc_at _ _ _ rfl
 have HBx21 := Lib.hid (below_next (HBx2.out) hbx21)
 have hwx21 : W3.heap.size ≤ Xx2.heap.size := (HBx2.out).size
 refine wp_val (v := .pointer (some ⟨Xx2.heap.size, 0, none⟩)) (w' := Xx21) (by rw [hXx21]; kernel_rfl) ?_
 clear hXx21
 refine hK.out _ _ (HKS.out _ HBx21.out) ?_
 clear hK K
 intro _
 refine run_one (i := 5) (by kernel_rfl) rfl rfl ?_
 intro K hK
 refine wp_call (rTimes_any 20 _ _ (linA l) (a : Rat) Xx21 (by omega) (HSLOPE_W3.out.on (HBx21.out)) ((hvx2).on hbx21) HZA.out HZa.out) (by kernel_rfl) ?_
 rintro e Xx22 ⟨v22, rfl, hvx22, hbx22⟩
 have HBx22 := Lib.hid (below_next (HBx21.out) hbx22)
 refine ⟨_, rfl, hK.out _ _ (HKS.out _ HBx22.out) ?_⟩
 clear hK K
 intro _
 obtain ⟨btm, Atm, ctm, ltm, Dtm, dtm, mtm, rfl⟩ := hvx22.shape
 refine run_one (i := 6) (by kernel_rfl) rfl rfl ?_
 intro K hK
 refine wp_call (rLess_any 20 _ _ (b : Rat) (linA l * (a : Rat)) Xx22 (by omega) ((((hvx1).on hbx2).on hbx21).on hbx22) (hvx22) HZB.out HZ1.out) (by kernel_rfl) ?_
 rintro e Xx23 ⟨v23, rfl, hvx23, hbx23⟩
 have HBx23 := Lib.hid (below_next (HBx22.out) hbx23)
 refine ⟨_, rfl, hK.out _ _ (HKS.out _ HBx23.out) ?_⟩
 clear hK K
 intro _
 obtain ⟨bls, Als, cls, lls, Dls, dls, mls, rfl⟩ := hvx23.shape
 refine run_one (i := 8) (by kernel_rfl) rfl rfl ?_
 intro K hK
 refine wp_call (HPN.out Xx23) (by kernel_rfl) ?_
 rintro e Xx24 ⟨v24, rfl, hvx24, hbx24⟩
 have HBx24 := Lib.hid (below_next (HBx23.out) hbx24)
 refine ⟨_, rfl, hK.out _ _ (HKS.out _ HBx24.out) ?_⟩
 clear hK K
 intro _
 obtain ⟨bpt, Apt, cpt, lpt, Dpt, dpt, mpt, rfl⟩ := hvx24.shape
 refine run_one (i := 9) (by kernel_rfl) rfl rfl ?_
 intro K hK
 refine wp_call (rTimes_any 20 _ _ ((b : Rat) - linA l * (a : Rat)) (mkRat 1 k) Xx24 (by omega) ((hvx23).on hbx24) (hvx24) HZ2.out HZN.out) (by kernel_rfl) ?_
 rintro e Xx25 ⟨v25, rfl, hvx25, hbx25⟩
 have HBx25 := Lib.hid (below_next (HBx24.out) hbx25)
 refine ⟨_, rfl, hK.out _ _ (HKS.out _ HBx25.out) ?_⟩
 clear hK K
 intro _
 obtain ⟨brs, Ars, crs, lrs, Drs, drs, mrs, rfl⟩ := hvx25.shape
 obtain ⟨k0, k1, k2, z0, z1, z2, hlt⟩ := FBox.facts ((FBox.on (FBox.on (FBox.on (FBox.on hxx21 hbx22) hbx23) hbx24) hbx25))
 obtain ⟨Xx26, hXx26⟩ : ∃ X, X = ((Xx25.setCell ⟨Xx2.heap.size, 0, none⟩ (.bool brs)).setCell ⟨Xx2.heap.size, 1, none⟩ (.slice Ars lrs.length crs)).setCell ⟨Xx2.heap.size, 2, none⟩ (.slice Drs mrs.length drs) := ⟨_, rfl⟩
 have HVx26 := Lib.hid (show VarQ Xx26 Xx2.heap.size _ by rw [hXx26]; exact VarQ.store ((FBox.on (FBox.on (FBox.on (FBox.on hxx21 hbx22) hbx23) hbx24) hbx25)) (hvx25))
 have HBx26 := Lib.hid (show Below W3.heap.size W3 Xx26 by rw [hXx26]; exact (((HBx25.out).setCell (p := ⟨Xx2.heap.size, 0, none⟩) hwx21 _).setCell (p := ⟨Xx2.heap.size, 1, none⟩) hwx21 _).setCell (p := ⟨Xx2.heap.size, 2, none⟩) hwx21 _)
 refine run_one (i := 11) (by kernel_rfl) rfl rfl ?_
 intro K hK
 go_simp
 rw [← hXx26]
 refine hK.out _ _ (HKS.out _ HBx26.out) ?_
 clear hK K k0 k1 k2 z0 z1 z2 hlt hXx26
 intro _
 refine wpAnyH_done (by kernel_rfl) ?_ _
 refine NoPanic.normal ?_
 go_wp2_with fail
 go_meet
 exact ⟨Xx2.heap.size, rfl, hwx21, by rw [← HEB.out]; exact HVx26.out, HBx26.out⟩
 }
 exact AllReadyH.nil
 }
 refine AllReadyH.cons rfl (fun K hK => ?_) ?_
 {
 obtain ⟨Xx27, hXx27⟩ : ∃ X, X = Xx1.alloc (.cells #[.bool false, .slice none 0 0, .slice none 0 0] 35) := ⟨_, rfl⟩
 have hbx27 : Below Xx1.heap.size Xx1 Xx27 := by rw [hXx27]; exact (Below.refl _ _).alloc (Nat.le_refl _) _
 have hxx27 : FBox Xx27 Xx1.heap.size := by rw [hXx27]; exact alloc_at _ _ _ rfl
 have HBx27 := Lib.hid (below_next (HBx1.out) hbx27)
 have hwx27 : W3.heap.size ≤ Xx1.heap.size := (HBx1.out).size
 refine wp_val (v := .pointer (some ⟨Xx1.heap.size, 0, none⟩)) (w' := Xx27) (by rw [hXx27]; kernel_rfl) ?_
 clear hXx27
 refine hK.out _ _ (HKS.out _ HBx27.out) ?_
 clear hK K
 intro _
 refine run_one (i := 4) (by kernel_rfl) rfl rfl ?_
 intro K hK
 refine wp_call (HWA.out Xx27) (by kernel_rfl) ?_
 rintro e Xx28 ⟨v28, rfl, hvx28, hbx28⟩
 have HBx28 := Lib.hid (below_next (HBx27.out) hbx28)
 refine ⟨_, rfl, hK.out _ _ (HKS.out _ HBx28.out) ?_⟩
 clear hK K
 intro _
 obtain ⟨bw2, Aw2, cw2, lw2, Dw2, dw2, mw2, rfl⟩ := hvx28.shape
 refine run_one (i := 5) (by kernel_rfl) rfl rfl ?_
 intro K hK
 refine wp_call (rTimes_any 20 _ _ (linA l) (a : Rat) Xx28 (by omega) (HSLOPE_W3.out.on (HBx28.out)) (hvx28) HZA.out HZa.out) (by kernel_rfl) ?_
 rintro e Xx29 ⟨v29, rfl, hvx29, hbx29⟩
 have HBx29 := Lib.hid (below_next (HBx28.out) hbx29)
 refine ⟨_, rfl, hK.out _ _ (HKS.out _ HBx29.out) ?_⟩
 clear hK K
 intro _
 obtain ⟨btm, Atm, ctm, ltm, Dtm, dtm, mtm, rfl⟩ := hvx29.shape
 refine run_one (i := 6) (by kernel_rfl) rfl rfl ?_
 intro K hK
 refine wp_call (rLess_any 20 _ _ (b : Rat) (linA l * (a : Rat)) Xx29 (by omega) ((((hvx1).on hbx27).on hbx28).on hbx29) (hvx29) HZB.out HZ1.out) (by kernel_rfl) ?_
 rintro e Xx30 ⟨v30, rfl, hvx30, hbx30⟩
 have HBx30 := Lib.hid (below_next (HBx29.out) hbx30)
 refine ⟨_, rfl, hK.out _ _ (HKS.out _ HBx30.out) ?_⟩
 clear hK K
 intro _
 obtain ⟨bls, Als, cls, lls, Dls, dls, mls, rfl⟩ := hvx30.shape
 refine run_one (i := 8) (by kernel_rfl) rfl rfl ?_
 intro K hK
 refine wp_call (HPN.out Xx30) (by kernel_rfl) ?_
 rintro e Xx31 ⟨v31, rfl, hvx31, hbx31⟩
 have HBx31 := Lib.hid (below_next (HBx30.out) hbx31)
 refine ⟨_, rfl, hK.out _ _ (HKS.out _ HBx31.out) ?_⟩
 clear hK K
 intro _
 obtain ⟨bpt, Apt, cpt, lpt, Dpt, dpt, mpt, rfl⟩ := hvx31.shape
 refine run_one (i := 9) (by kernel_rfl) rfl rfl ?_
 intro K hK
 refine wp_call (rTimes_any 20 _ _ ((b : Rat) - linA l * (a : Rat)) (mkRat 1 k) Xx31 (by omega) ((hvx30).on hbx31) (hvx31) HZ2.out HZN.out) (by kernel_rfl) ?_
 rintro e Xx32 ⟨v32, rfl, hvx32, hbx32⟩
 have HBx32 := Lib.hid (below_next (HBx31.out) hbx32)
 refine ⟨_, rfl, hK.out _ _ (HKS.out _ HBx32.out) ?_⟩
 clear hK K
 intro _
 obtain ⟨brs, Ars, crs, lrs, Drs, drs, mrs, rfl⟩ := hvx32.shape
 obtain ⟨k0, k1, k2, z0, z1, z2, hlt⟩ := FBox.facts ((FBox.on (FBox.on (FBox.on (FBox.on (FBox.on hxx27 hbx28) hbx29) hbx30) hbx31) hbx32))
 obtain ⟨Xx33, hXx33⟩ : ∃ X, X = ((Xx32.setCell ⟨Xx1.heap.size, 0, none⟩ (.bool brs)).setCell ⟨Xx1.heap.size, 1, none⟩ (.slice Ars lrs.length crs)).setCell ⟨Xx1.heap.size, 2, none⟩ (.slice Drs mrs.length drs) := ⟨_, rfl⟩
 have HVx33 := Lib.hid (show VarQ Xx33 Xx1.heap.size _ by rw [hXx33]; exact VarQ.store ((FBox.on (FBox.on (FBox.on (FBox.on (FBox.on hxx27 hbx28) hbx29) hbx30) hbx31) hbx32)) (hvx32))
 have HBx33 := Lib.hid (show Below W3.heap.size W3 Xx33 by rw [hXx33]; exact (((HBx32.out).setCell (p := ⟨Xx1.heap.size, 0, none⟩) hwx27 _).setCell (p := ⟨Xx1.heap.size, 1, none⟩) hwx27 _).setCell (p := ⟨Xx1.heap.size, 2, none⟩) hwx27 _)
 refine run_one (i := 11) (by kernel_rfl) rfl rfl ?_
 intro K hK
 go_simp
 rw [← hXx33]
 refine hK.out _ _ (HKS.out _ HBx33.out) ?_
 clear hK K k0 k1 k2 z0 z1 z2 hlt hXx33
 intro _
 refine wpAnyH_done (by kernel_rfl) ?_ _
 refine NoPanic.normal ?_
 go_wp2_with fail
 go_meet
 exact ⟨Xx1.heap.size, rfl, hwx27, by rw [← HEB.out]; exact HVx33.out, HBx33.out⟩
 }
 exact AllReadyH.nil
 }
 refine AllReadyH.cons rfl (fun K hK => ?_) ?_
 {
 obtain ⟨Xx34, hXx34⟩ : ∃ X, X = Xx0.alloc (.cells #[.bool false, .slice none 0 0, .slice none 0 0] 35) := ⟨_, rfl⟩
 have hbx34 : Below Xx0.heap.size Xx0 Xx34 := by rw [hXx34]; exact (Below.refl _ _).alloc (Nat.le_refl _) _
 have hxx34 : FBox Xx34 Xx0.heap.size := by rw [hXx34]; exact alloc_at _ _ _ rfl
 have HBx34 := Lib.hid (below_next (HBx0.out) hbx34)
 have hwx34 : W3.heap.size ≤ Xx0.heap.size := (HBx0.out).size
 refine wp_val (v := .pointer (some ⟨Xx0.heap.size, 0, none⟩)) (w' := Xx34) (by rw [hXx34]; kernel_rfl) ?_
 clear hXx34
 refine hK.out _ _ (HKS.out _ HBx34.out) ?_
 clear hK K
 intro _
 refine run_one (i := 1) (by kernel_rfl) rfl rfl ?_
 intro K hK
 refine wp_call (HWB.out Xx34) (by kernel_rfl) ?_
 rintro e Xx35 ⟨v35, rfl, hvx35, hbx35⟩
 have HBx35 := Lib.hid (below_next (HBx34.out) hbx35)
 refine ⟨_, rfl, hK.out _ _ (HKS.out _ HBx35.out) ?_⟩
 clear hK K
 intro _
 obtain ⟨bw1, Aw1, cw1, lw1, Dw1, dw1, mw1, rfl⟩ := hvx35.shape
 refine run_one (i := 4) (by kernel_rfl) rfl rfl ?_
 intro K hK
 refine wp_call (HWA.out Xx35) (by kernel_rfl) ?_
 rintro e Xx36 ⟨v36, rfl, hvx36, hbx36⟩
 have HBx36 := Lib.hid (below_next (HBx35.out) hbx36)
 refine ⟨_, rfl, hK.out _ _ (HKS.out _ HBx36.out) ?_⟩
 clear hK K
 intro _
 obtain ⟨bw2, Aw2, cw2, lw2, Dw2, dw2, mw2, rfl⟩ := hvx36.shape
 refine run_one (i := 5) (by kernel_rfl) rfl rfl ?_
 intro K hK
 refine wp_call (rTimes_any 20 _ _ (linA l) (a : Rat) Xx36 (by omega) (HSLOPE_W3.out.on (HBx36.out)) (hvx36) HZA.out HZa.out) (by kernel_rfl) ?_
 rintro e Xx37 ⟨v37, rfl, hvx37, hbx37⟩
 have HBx37 := Lib.hid (below_next (HBx36.out) hbx37)
 refine ⟨_, rfl, hK.out _ _ (HKS.out _ HBx37.out) ?_⟩
 clear hK K
 intro _
 obtain ⟨btm, Atm, ctm, ltm, Dtm, dtm, mtm, rfl⟩ := hvx37.shape
 refine run_one (i := 6) (by kernel_rfl) rfl rfl ?_
 intro K hK
 refine wp_call (rLess_any 20 _ _ (b : Rat) (linA l * (a : Rat)) Xx37 (by omega) (((hvx35).on hbx36).on hbx37) (hvx37) HZB.out HZ1.out) (by kernel_rfl) ?_
 rintro e Xx38 ⟨v38, rfl, hvx38, hbx38⟩
 have HBx38 := Lib.hid (below_next (HBx37.out) hbx38)
 refine ⟨_, rfl, hK.out _ _ (HKS.out _ HBx38.out) ?_⟩
 clear hK K
 intro _
 obtain ⟨bls, Als, cls, lls, Dls, dls, mls, rfl⟩ := hvx38.shape
 refine run_one (i := 8) (by kernel_rfl) rfl rfl ?_
 intro K hK
 refine wp_call (HPN.out Xx38) (by kernel_rfl) ?_
 rintro e Xx39 ⟨v39, rfl, hvx39, hbx39⟩
 have HBx39 := Lib.hid (below_next (HBx38.out) hbx39)
 refine ⟨_, rfl, hK.out _ _ (HKS.out _ HBx39.out) ?_⟩
 clear hK K
 intro _
 obtain ⟨bpt, Apt, cpt, lpt, Dpt, dpt, mpt, rfl⟩ := hvx39.shape
 refine run_one (i := 9) (by kernel_rfl) rfl rfl ?_
 intro K hK
 refine wp_call (rTimes_any 20 _ _ ((b : Rat) - linA l * (a : Rat)) (mkRat 1 k) Xx39 (by omega) ((hvx38).on hbx39) (hvx39) HZ2.out HZN.out) (by kernel_rfl) ?_
 rintro e Xx40 ⟨v40, rfl, hvx40, hbx40⟩
 have HBx40 := Lib.hid (below_next (HBx39.out) hbx40)
 refine ⟨_, rfl, hK.out _ _ (HKS.out _ HBx40.out) ?_⟩
 clear hK K
 intro _
 obtain ⟨brs, Ars, crs, lrs, Drs, drs, mrs, rfl⟩ := hvx40.shape
 obtain ⟨k0, k1, k2, z0, z1, z2, hlt⟩ := FBox.facts ((FBox.on (FBox.on (FBox.on (FBox.on (FBox.on (FBox.on hxx34 hbx35) hbx36) hbx37) hbx38) hbx39) hbx40))
 obtain ⟨Xx41, hXx41⟩ : ∃ X, X = ((Xx40.setCell ⟨Xx0.heap.size, 0, none⟩ (.bool brs)).setCell ⟨Xx0.heap.size, 1, none⟩ (.slice Ars lrs.length crs)).setCell ⟨Xx0.heap.size, 2, none⟩ (.slice Drs mrs.length drs) := ⟨_, rfl⟩
 have HVx41 := Lib.hid (show VarQ Xx41 Xx0.heap.size _ by rw [hXx41]; exact VarQ.store ((FBox.on (FBox.on (FBox.on (FBox.on (FBox.on (FBox.on hxx34 hbx35) hbx36) hbx37) hbx38) hbx39) hbx40)) (hvx40))
 have HBx41 := Lib.hid (show Below W3.heap.size W3 Xx41 by rw [hXx41]; exact (((HBx40.out).setCell (p := ⟨Xx0.heap.size, 0, none⟩) hwx34 _).setCell (p := ⟨Xx0.heap.size, 1, none⟩) hwx34 _).setCell (p := ⟨Xx0.heap.size, 2, none⟩) hwx34 _)
 refine run_one (i := 11) (by kernel_rfl) rfl rfl ?_
 intro K hK
 go_simp
 rw [← hXx41]
 refine hK.out _ _ (HKS.out _ HBx41.out) ?_
 clear hK K k0 k1 k2 z0 z1 z2 hlt hXx41
 intro _
 refine wpAnyH_done (by kernel_rfl) ?_ _
 refine NoPanic.normal ?_
 go_wp2_with fail
 go_meet
 exact ⟨Xx0.heap.size, rfl, hwx34, by rw [← HEB.out]; exact HVx41.out, HBx41.out⟩
 }
 exact AllReadyH.nil
        }
      case rest =>
        obtain ⟨Bo, rfl, hlo, hvo, hbo⟩ := hcut
        obtain ⟨Wq, hWq⟩ : ∃ W, W = wc := ⟨_, rfl⟩
        subst hWq
        have HSLOPE_Wq := Lib.hid (HSLOPE_W3.out.on hbo)
        have HESq := Lib.hid ((hbo.block _ (heap_lt HES.out)).trans HES.out)
        have HBq := Lib.hid (below_next HB3.out hbo)
        have HLO1 := Lib.hid (show W0.heap.size ≤ Bo from Nat.le_trans HB3.out.size hlo)
        have HVO := Lib.hid hvo
        clear hlo hvo hbo HKS
        have HKS := Lib.hid (show ∀ X, Below Wq.heap.size Wq X → (fun X => Below Wq.heap.size Wq X ∧ X.cell? ⟨w2.heap.size, 0, none⟩ = some (.bool bA) ∧ X.cell? ⟨w2.heap.size, 1, none⟩ = some (.slice A1 l1.length c1') ∧ X.cell? ⟨w2.heap.size, 2, none⟩ = some (.slice A2 l2.length c2')) X from fun X hX => by
          have e := (hX.block _ (heap_lt HESq.out)).trans HESq.out
          exact ⟨hX, by rw [cellsAt e]; rfl, by rw [cellsAt e]; rfl, by rw [cellsAt e]; rfl⟩)
        go_wp2_with fail
        go_cut [19] (fun x wx => ∃ Bf, x = .pointer (some ⟨Bf, 0, none⟩) ∧ Wq.heap.size ≤ Bf ∧ VarQ wx Bf (linF l) ∧ Below Wq.heap.size Wq wx)
        case first =>
          skip
          {
 refine wp_region_noPanic ?_
 refine wp_region_held_drew (S := (fun X => Below Wq.heap.size Wq X ∧ X.cell? ⟨w2.heap.size, 0, none⟩ = some (.bool bA) ∧ X.cell? ⟨w2.heap.size, 1, none⟩ = some (.slice A1 l1.length c1') ∧ X.cell? ⟨w2.heap.size, 2, none⟩ = some (.slice A2 l2.length c2'))) (by kernel_rfl) (HKS.out _ (Below.refl _ Wq).drew) (fun HS0 => ?_)
 have hbx0 : Below Wq.heap.size Wq Wq.drew := (Below.refl _ _).drew
 obtain ⟨Xx0, hXx0⟩ : ∃ X, X = Wq.drew := ⟨_, rfl⟩
 rw [← hXx0] at hbx0 HS0 ⊢
 have HBx0 := Lib.hid hbx0
 clear hbx0 hXx0
 refine wpAnyH_take (i := 0) (v := ?_) rfl (by kernel_rfl) (by kernel_rfl) (by kernel_rfl) (fun _ _ _ h => h) (Or.inl ⟨by rfl, ?_⟩) HS0 ?_
 rotate_left
 · intro W hW; (try dsimp only at hW); go_simp; try (with_reducible rfl)
 refine wpAnyH_take (i := 2) (v := ?_) rfl (by kernel_rfl) (by kernel_rfl) (by kernel_rfl) (fun _ _ _ h => h) (Or.inl ⟨by rfl, ?_⟩) HS0 ?_
 rotate_left
 · intro W hW; (try dsimp only at hW); go_simp; try (with_reducible rfl)
 refine wpAnyH_take (i := 3) (v := ?_) rfl (by kernel_rfl) (by kernel_rfl) (by kernel_rfl) (fun _ _ _ h => h) (Or.inl ⟨by rfl, ?_⟩) HS0 ?_
 rotate_left
 · intro W hW; (try dsimp only at hW); go_simp; try (with_reducible rfl)
 refine wpAnyH_take (i := 7) (v := ?_) rfl (by kernel_rfl) (by kernel_rfl) (by kernel_rfl) (fun _ _ _ h => h) (Or.inl ⟨by rfl, ?_⟩) HS0 ?_
 rotate_left
 · intro W hW; (try dsimp only at hW); go_simp; try (with_reducible rfl)
 clear HS0
 refine wpAnyH_ready (rs := [1, 10]) (by kernel_rfl) (by simp) ?_
 refine AllReadyH.cons rfl (fun K hK => ?_) ?_
 {
 refine wp_call (HWYY.out Xx0) (by kernel_rfl) ?_
 rintro e Xx1 ⟨v1, rfl, hvx1, hbx1⟩
 have HBx1 := Lib.hid (below_next (HBx0.out) hbx1)
 refine ⟨_, rfl, hK.out _ _ (HKS.out _ HBx1.out) ?_⟩
 clear hK K
 intro _
 obtain ⟨bw1, Aw1, cw1, lw1, Dw1, dw1, mw1, rfl⟩ := hvx1.shape
 refine wpAnyH_ready (rs := [4, 10]) (by kernel_rfl) (by simp) ?_
 refine AllReadyH.cons rfl (fun K hK => ?_) ?_
 {
 refine wp_call (HWXY.out Xx1) (by kernel_rfl) ?_
 rintro e Xx2 ⟨v2, rfl, hvx2, hbx2⟩
 have HBx2 := Lib.hid (below_next (HBx1.out) hbx2)
 refine ⟨_, rfl, hK.out _ _ (HKS.out _ HBx2.out) ?_⟩
 clear hK K
 intro _
 obtain ⟨bw2, Aw2, cw2, lw2, Dw2, dw2, mw2, rfl⟩ := hvx2.shape
 refine wpAnyH_ready (rs := [5, 10]) (by kernel_rfl) (by simp) ?_
 refine AllReadyH.cons rfl (fun K hK => ?_) ?_
 {
 refine wp_call (rTimes_any 20 _ _ (linA l) (vXY l : Rat) Xx2 (by omega) (HSLOPE_Wq.out.on (HBx2.out)) (hvx2) HZA.out HZXY.out) (by kernel_rfl) ?_
 rintro e Xx3 ⟨v3, rfl, hvx3, hbx3⟩
 have HBx3 := Lib.hid (below_next (HBx2.out) hbx3)
 refine ⟨_, rfl, hK.out _ _ (HKS.out _ HBx3.out) ?_⟩
 clear hK K
 intro _
 obtain ⟨btm, Atm, ctm, ltm, Dtm, dtm, mtm, rfl⟩ := hvx3.shape
 refine wpAnyH_ready (rs := [6, 10]) (by kernel_rfl) (by simp) ?_
 refine AllReadyH.cons rfl (fun K hK => ?_) ?_
 {
 refine wp_call (rLess_any 20 _ _ (vYY l : Rat) (linA l * (vXY l : Rat)) Xx3 (by omega) (((hvx1).on hbx2).on hbx3) (hvx3) HZYY.out HZ3.out) (by kernel_rfl) ?_
 rintro e Xx4 ⟨v4, rfl, hvx4, hbx4⟩
 have HBx4 := Lib.hid (below_next (HBx3.out) hbx4)
 refine ⟨_, rfl, hK.out _ _ (HKS.out _ HBx4.out) ?_⟩
 clear hK K
 intro _
 obtain ⟨bls, Als, cls, lls, Dls, dls, mls, rfl⟩ := hvx4.shape
 refine wpAnyH_ready (rs := [8, 10]) (by kernel_rfl) (by simp) ?_
 refine AllReadyH.cons rfl (fun K hK => ?_) ?_
 {
 refine wp_call (HPN.out Xx4) (by kernel_rfl) ?_
 rintro e Xx5 ⟨v5, rfl, hvx5, hbx5⟩
 have HBx5 := Lib.hid (below_next (HBx4.out) hbx5)
 refine ⟨_, rfl, hK.out _ _ (HKS.out _ HBx5.out) ?_⟩
 clear hK K
 intro _
 obtain ⟨bpt, Apt, cpt, lpt, Dpt, dpt, mpt, rfl⟩ := hvx5.shape
 refine wpAnyH_ready (rs := [9, 10]) (by kernel_rfl) (by simp) ?_
 refine AllReadyH.cons rfl (fun K hK => ?_) ?_
 {
 refine wp_call (rTimes_any 20 _ _ ((vYY l : Rat) - linA l * (vXY l : Rat)) (mkRat 1 k) Xx5 (by omega) ((hvx4).on hbx5) (hvx5) HZ4.out HZN.out) (by kernel_rfl) ?_
 rintro e Xx6 ⟨v6, rfl, hvx6, hbx6⟩
 have HBx6 := Lib.hid (below_next (HBx5.out) hbx6)
 refine ⟨_, rfl, hK.out _ _ (HKS.out _ HBx6.out) ?_⟩
 clear hK K
 intro _
 obtain ⟨brs, Ars, crs, lrs, Drs, drs, mrs, rfl⟩ := hvx6.shape
 refine run_one (i := 10) (by kernel_rfl) rfl rfl ?_
 intro K hK
 obtain ⟨Xx7, hXx7⟩ : ∃ X, X = Xx6.alloc (.cells #[.bool false, .slice none 0 0, .slice none 0 0] 35) := ⟨_, rfl⟩
 have hbx7 : Below Xx6.heap.size Xx6 Xx7 := by rw [hXx7]; exact (Below.refl _ _).alloc (Nat.le_refl _) _
 have hxx7 : FBox Xx7 Xx6.heap.size := by rw [hXx7]; exact alloc_at _ _ _ rfl
 have HBx7 := Lib.hid (below_next (HBx6.out) hbx7)
 have hwx7 : Wq.heap.size ≤ Xx6.heap.size := (HBx6.out).size
 refine wp_val (v := .pointer (some ⟨Xx6.heap.size, 0, none⟩)) (w' := Xx7) (by rw [hXx7]; kernel_rfl) ?_
 clear hXx7
 refine hK.out _ _ (HKS.out _ HBx7.out) ?_
 clear hK K
 intro _
 obtain ⟨k0, k1, k2, z0, z1, z2, hlt⟩ := FBox.facts (hxx7)
 obtain ⟨Xx8, hXx8⟩ : ∃ X, X = ((Xx7.setCell ⟨Xx6.heap.size, 0, none⟩ (.bool brs)).setCell ⟨Xx6.heap.size, 1, none⟩ (.slice Ars lrs.length crs)).setCell ⟨Xx6.heap.size, 2, none⟩ (.slice Drs mrs.length drs) := ⟨_, rfl⟩
 have HVx8 := Lib.hid (show VarQ Xx8 Xx6.heap.size _ by rw [hXx8]; exact VarQ.store (hxx7) ((hvx6).on hbx7))
 have HBx8 := Lib.hid (show Below Wq.heap.size Wq Xx8 by rw [hXx8]; exact (((HBx7.out).setCell (p := ⟨Xx6.heap.size, 0, none⟩) hwx7 _).setCell (p := ⟨Xx6.heap.size, 1, none⟩) hwx7 _).setCell (p := ⟨Xx6.heap.size, 2, none⟩) hwx7 _)
 refine run_one (i := 11) (by kernel_rfl) rfl rfl ?_
 intro K hK
 go_simp
 rw [← hXx8]
 refine hK.out _ _ (HKS.out _ HBx8.out) ?_
 clear hK K k0 k1 k2 z0 z1 z2 hlt hXx8
 intro _
 refine wpAnyH_done (by kernel_rfl) ?_ _
 refine NoPanic.normal ?_
 go_wp2_with fail
 go_meet
 exact ⟨Xx6.heap.size, rfl, hwx7, by rw [← HEF.out]; exact HVx8.out, HBx8.out⟩
 }
 refine AllReadyH.cons rfl (fun K hK => ?_) ?_
 {
 obtain ⟨Xx9, hXx9⟩ : ∃ X, X = Xx5.alloc (.cells #[.bool false, .slice none 0 0, .slice none 0 0] 35) := ⟨_, rfl⟩
 have hbx9 : Below Xx5.heap.size Xx5 Xx9 := by rw [hXx9]; exact (Below.refl _ _).alloc (Nat.le_refl _) _
 have hxx9 : FBox Xx9 Xx5.heap.size := by rw [hXx9]; exact alloc_at _ _ _ rfl
 have HBx9 := Lib.hid (below_next (HBx5.out) hbx9)
 have hwx9 : Wq.heap.size ≤ Xx5.heap.size := (HBx5.out).size
 refine wp_val (v := .pointer (some ⟨Xx5.heap.size, 0, none⟩)) (w' := Xx9) (by rw [hXx9]; kernel_rfl) ?_
 clear hXx9
 refine hK.out _ _ (HKS.out _ HBx9.out) ?_
 clear hK K
 intro _
 refine run_one (i := 9) (by kernel_rfl) rfl rfl ?_
 intro K hK
 refine wp_call (rTimes_any 20 _ _ ((vYY l : Rat) - linA l * (vXY l : Rat)) (mkRat 1 k) Xx9 (by omega) (((hvx4).on hbx5).on hbx9) ((hvx5).on hbx9) HZ4.out HZN.out) (by kernel_rfl) ?_
 rintro e Xx10 ⟨v10, rfl, hvx10, hbx10⟩
 have HBx10 := Lib.hid (below_next (HBx9.out) hbx10)
 refine ⟨_, rfl, hK.out _ _ (HKS.out _ HBx10.out) ?_⟩
 clear hK K
 intro _
 obtain ⟨brs, Ars, crs, lrs, Drs, drs, mrs, rfl⟩ := hvx10.shape
 obtain ⟨k0, k1, k2, z0, z1, z2, hlt⟩ := FBox.facts ((FBox.on hxx9 hbx10))
 obtain ⟨Xx11, hXx11⟩ : ∃ X, X = ((Xx10.setCell ⟨Xx5.heap.size, 0, none⟩ (.bool brs)).setCell ⟨Xx5.heap.size, 1, none⟩ (.slice Ars lrs.length crs)).setCell ⟨Xx5.heap.size, 2, none⟩ (.slice Drs mrs.length drs) := ⟨_, rfl⟩
 have HVx11 := Lib.hid (show VarQ Xx11 Xx5.heap.size _ by rw [hXx11]; exact VarQ.store ((FBox.on hxx9 hbx10)) (hvx10))
 have HBx11 := Lib.hid (show Below Wq.heap.size Wq Xx11 by rw [hXx11]; exact (((HBx10.out).setCell (p := ⟨Xx5.heap.size, 0, none⟩) hwx9 _).setCell (p := ⟨Xx5.heap.size, 1, none⟩) hwx9 _).setCell (p := ⟨Xx5.heap.size, 2, none⟩) hwx9 _)
 refine run_one (i := 11) (by kernel_rfl) rfl rfl ?_
 intro K hK
 go_simp
 rw [← hXx11]
 refine hK.out _ _ (HKS.out _ HBx11.out) ?_
 clear hK K k0 k1 k2 z0 z1 z2 hlt hXx11
 intro _
 refine wpAnyH_done (by kernel_rfl) ?_ _
 refine NoPanic.normal ?_
 go_wp2_with fail
 go_meet
 exact ⟨Xx5.heap.size, rfl, hwx9, by rw [← HEF.out]; exact HVx11.out, HBx11.out⟩
 }
 exact AllReadyH.nil
 }
 refine AllReadyH.cons rfl (fun K hK => ?_) ?_
 {
 obtain ⟨Xx12, hXx12⟩ : ∃ X, X = Xx4.alloc (.cells #[.bool false, .slice none 0 0, .slice none 0 0] 35) := ⟨_, rfl⟩
 have hbx12 : Below Xx4.heap.size Xx4 Xx12 := by rw [hXx12]; exact (Below.refl _ _).alloc (Nat.le_refl _) _
 have hxx12 : FBox Xx12 Xx4.heap.size := by rw [hXx12]; exact alloc_at _ _ _ rfl
 have HBx12 := Lib.hid (below_next (HBx4.out) hbx12)
 have hwx12 : Wq.heap.size ≤ Xx4.heap.size := (HBx4.out).size
 refine wp_val (v := .pointer (some ⟨Xx4.heap.size, 0, none⟩)) (w' := Xx12) (by rw [hXx12]; kernel_rfl) ?_
 clear hXx12
 refine hK.out _ _ (HKS.out _ HBx12.out) ?_
 clear hK K
 intro _
 refine run_one (i := 8) (by kernel_rfl) rfl rfl ?_
 intro K hK
 refine wp_call (HPN.out Xx12) (by kernel_rfl) ?_
 rintro e Xx13 ⟨v13, rfl, hvx13, hbx13⟩
 have HBx13 := Lib.hid (below_next (HBx12.out) hbx13)
 refine ⟨_, rfl, hK.out _ _ (HKS.out _ HBx13.out) ?_⟩
 clear hK K
 intro _
 obtain ⟨bpt, Apt, cpt, lpt, Dpt, dpt, mpt, rfl⟩ := hvx13.shape
 refine run_one (i := 9) (by kernel_rfl) rfl rfl ?_
 intro K hK
 refine wp_call (rTimes_any 20 _ _ ((vYY l : Rat) - linA l * (vXY l : Rat)) (mkRat 1 k) Xx13 (by omega) (((hvx4).on hbx12).on hbx13) (hvx13) HZ4.out HZN.out) (by kernel_rfl) ?_
 rintro e Xx14 ⟨v14, rfl, hvx14, hbx14⟩
 have HBx14 := Lib.hid (below_next (HBx13.out) hbx14)
 refine ⟨_, rfl, hK.out _ _ (HKS.out _ HBx14.out) ?_⟩
 clear hK K
 intro _
 obtain ⟨brs, Ars, crs, lrs, Drs, drs, mrs, rfl⟩ := hvx14.shape
 obtain ⟨k0, k1, k2, z0, z1, z2, hlt⟩ := FBox.facts ((FBox.on (FBox.on hxx12 hbx13) hbx14))
 obtain ⟨Xx15, hXx15⟩ : ∃ X, X = ((Xx14.setCell ⟨Xx4.heap.size, 0, none⟩ (.bool brs)).setCell ⟨Xx4.heap.size, 1, none⟩ (.slice Ars lrs.length crs)).setCell ⟨Xx4.heap.size, 2, none⟩ (.slice Drs mrs.length drs) := ⟨_, rfl⟩
 have HVx15 := Lib.hid (show VarQ Xx15 Xx4.heap.size _ by rw [hXx15]; exact VarQ.store ((FBox.on (FBox.on hxx12 hbx13) hbx14)) (hvx14))
 have HBx15 := Lib.hid (show Below Wq.heap.size Wq Xx15 by rw [hXx15]; exact (((HBx14.out).setCell (p := ⟨Xx4.heap.size, 0, none⟩) hwx12 _).setCell (p := ⟨Xx4.heap.size, 1, none⟩) hwx12 _).setCell (p := ⟨Xx4.heap.size, 2, none⟩) hwx12 _)
 refine run_one (i := 11) (by kernel_rfl) rfl rfl ?_
 intro K hK
 go_simp
 rw [← hXx15]
 refine hK.out _ _ (HKS.out _ HBx15.out) ?_
 clear hK K k0 k1 k2 z0 z1 z2 hlt hXx15
 intro _
 refine wpAnyH_done (by kernel_rfl) ?_ _
 refine NoPanic.normal ?_
 go_wp2_with fail
 go_meet
 exact ⟨Xx4.heap.size, rfl, hwx12, by rw [← HEF.out]; exact HVx15.out, HBx15.out⟩
 }
 exact AllReadyH.nil
 }
 refine AllReadyH.cons rfl (fun K hK => ?_) ?_
 {
 obtain ⟨Xx16, hXx16⟩ : ∃ X, X = Xx3.alloc (.cells #[.bool false, .slice none 0 0, .slice none 0 0] 35) := ⟨_, rfl⟩
 have hbx16 : Below Xx3.heap.size Xx3 Xx16 := by rw [hXx16]; exact (Below.refl _ _).alloc (Nat.le_refl _) _
 have hxx16 : FBox Xx16 Xx3.heap.size := by rw [hXx16]; exact alloc_at _ _ _ rfl
 have HBx16 := Lib.hid (below_next (HBx3.out) hbx16)
 have hwx16 : Wq.heap.size ≤ Xx3.heap.size := (HBx3.out).size
 refine wp_val (v := .pointer (some ⟨Xx3.heap.size, 0, none⟩)) (w' := Xx16) (by rw [hXx16]; kernel_rfl) ?_
 clear hXx16
 refine hK.out _ _ (HKS.out _ HBx16.out) ?_
 clear hK K
 intro _
 refine run_one (i := 6) (by kernel_rfl) rfl rfl ?_
 intro K hK
 refine wp_call (rLess_any 20 _ _ (vYY l : Rat) (linA l * (vXY l : Rat)) Xx16 (by omega) ((((hvx1).on hbx2).on hbx3).on hbx16) ((hvx3).on hbx16) HZYY.out HZ3.out) (by kernel_rfl) ?_
 rintro e Xx17 ⟨v17, rfl, hvx17, hbx17⟩
 have HBx17 := Lib.hid (below_next (HBx16.out) hbx17)
 refine ⟨_, rfl, hK.out _ _ (HKS.out _ HBx17.out) ?_⟩
 clear hK K
 intro _
 obtain ⟨bls, Als, cls, lls, Dls, dls, mls, rfl⟩ := hvx17.shape
 refine run_one (i := 8) (by kernel_rfl) rfl rfl ?_
 intro K hK
 refine wp_call (HPN.out Xx17) (by kernel_rfl) ?_
 rintro e Xx18 ⟨v18, rfl, hvx18, hbx18⟩
 have HBx18 := Lib.hid (below_next (HBx17.out) hbx18)
 refine ⟨_, rfl, hK.out _ _ (HKS.out _ HBx18.out) ?_⟩
 clear hK K
 intro _
 obtain ⟨bpt, Apt, cpt, lpt, Dpt, dpt, mpt, rfl⟩ := hvx18.shape
 refine run_one (i := 9) (by kernel_rfl) rfl rfl ?_
 intro K hK
 refine wp_call (rTimes_any 20 _ _ ((vYY l : Rat) - linA l * (vXY l : Rat)) (mkRat 1 k) Xx18 (by omega) ((hvx17).on hbx18) (hvx18) HZ4.out HZN.out) (by kernel_rfl) ?_
 rintro e Xx19 ⟨v19, rfl, hvx19, hbx19⟩
 have HBx19 := Lib.hid (below_next (HBx18.out) hbx19)
 refine ⟨_, rfl, hK.out _ _ (HKS.out _ HBx19.out) ?_⟩
 clear hK K
 intro _
 obtain ⟨brs, Ars, crs, lrs, Drs, drs, mrs, rfl⟩ := hvx19.shape
 obtain ⟨k0, k1, k2, z0, z1, z2, hlt⟩ := FBox.facts ((FBox.on (FBox.on (FBox.on hxx16 hbx17) hbx18) hbx19))
 obtain ⟨Xx20, hXx20⟩ : ∃ X, X = ((Xx19.setCell ⟨Xx3.heap.size, 0, none⟩ (.bool brs)).setCell ⟨Xx3.heap.size, 1, none⟩ (.slice Ars lrs.length crs)).setCell ⟨Xx3.heap.size, 2, none⟩ (.slice Drs mrs.length drs) := ⟨_, rfl⟩
 have HVx20 := Lib.hid (show VarQ Xx20 Xx3.heap.size _ by rw [hXx20]; exact VarQ.store ((FBox.on (FBox.on (FBox.on hxx16 hbx17) hbx18) hbx19)) (hvx19))
 have HBx20 := Lib.hid (show Below Wq.heap.size Wq Xx20 by rw [hXx20]; exact (((HBx19.out).setCell (p := ⟨Xx3.heap.size, 0, none⟩) hwx16 _).setCell (p := ⟨Xx3.heap.size, 1, none⟩) hwx16 _).setCell (p := ⟨Xx3.heap.size, 2, none⟩) hwx16 _)
 refine run_one (i := 11) (by kernel_rfl) rfl rfl ?_
 intro K hK
 go_simp
 rw [← hXx20]
 refine hK.out _ _ (HKS.out _ HBx20.out) ?_
 clear hK K k0 k1 k2 z0 z1 z2 hlt hXx20
 intro _
 refine wpAnyH_done (by kernel_rfl) ?_ _
 refine NoPanic.normal ?_
 go_wp2_with fail
 go_meet
 exact ⟨Xx3.heap.size, rfl, hwx16, by rw [← HEF.out]; exact HVx20.out, HBx20.out⟩
 }
 exact AllReadyH.nil
 }
 refine AllReadyH.cons rfl (fun K hK => ?_) ?_
 {
 obtain ⟨Xx21, hXx21⟩ : ∃ X, X = Xx2.alloc (.cells #[.bool false, .slice none 0 0, .slice none 0 0] 35) := ⟨_, rfl⟩
 have hbx21 : Below Xx2.heap.size Xx2 Xx21 := by rw [hXx21]; exact (Below.refl _ _).alloc (Nat.le_refl _) _
 have hxx21 : FBox Xx21 Xx2.heap.size := by rw [hXx21]; exact alloc_at _ _ _ rfl
 have HBx21 := Lib.hid (below_next (HBx2.out) hbx21)
 have hwx21 : Wq.heap.size ≤ Xx2.heap.size := (HBx2.out).size
 refine wp_val (v := .pointer (some ⟨Xx2.heap.size, 0, none⟩)) (w' := Xx21) (by rw [hXx21]; kernel_rfl) ?_
 clear hXx21
 refine hK.out _ _ (HKS.out _ HBx21.out) ?_
 clear hK K
 intro _
 refine run_one (i := 5) (by kernel_rfl) rfl rfl ?_
 intro K hK
 refine wp_call (rTimes_any 20 _ _ (linA l) (vXY l : Rat) Xx21 (by omega) (HSLOPE_Wq.out.on (HBx21.out)) ((hvx2).on hbx21) HZA.out HZXY.out) (by kernel_rfl) ?_
 rintro e Xx22 ⟨v22, rfl, hvx22, hbx22⟩
 have HBx22 := Lib.hid (below_next (HBx21.out) hbx22)
 refine ⟨_, rfl, hK.out _ _ (HKS.out _ HBx22.out) ?_⟩
 clear hK K
 intro _
 obtain ⟨btm, Atm, ctm, ltm, Dtm, dtm, mtm, rfl⟩ := hvx22.shape
 refine run_one (i := 6) (by kernel_rfl) rfl rfl ?_
 intro K hK
 refine wp_call (rLess_any 20 _ _ (vYY l : Rat) (linA l * (vXY l : Rat)) Xx22 (by omega) ((((hvx1).on hbx2).on hbx21).on hbx22) (hvx22) HZYY.out HZ3.out) (by kernel_rfl) ?_
 rintro e Xx23 ⟨v23, rfl, hvx23, hbx23⟩
 have HBx23 := Lib.hid (below_next (HBx22.out) hbx23)
 refine ⟨_, rfl, hK.out _ _ (HKS.out _ HBx23.out) ?_⟩
 clear hK K
 intro _
 obtain ⟨bls, Als, cls, lls, Dls, dls, mls, rfl⟩ := hvx23.shape
 refine run_one (i := 8) (by kernel_rfl) rfl rfl ?_
 intro K hK
 refine wp_call (HPN.out Xx23) (by kernel_rfl) ?_
 rintro e Xx24 ⟨v24, rfl, hvx24, hbx24⟩
 have HBx24 := Lib.hid (below_next (HBx23.out) hbx24)
 refine ⟨_, rfl, hK.out _ _ (HKS.out _ HBx24.out) ?_⟩
 clear hK K
 intro _
 obtain ⟨bpt, Apt, cpt, lpt, Dpt, dpt, mpt, rfl⟩ := hvx24.shape
 refine run_one (i := 9) (by kernel_rfl) rfl rfl ?_
 intro K hK
 refine wp_call (rTimes_any 20 _ _ ((vYY l : Rat) - linA l * (vXY l : Rat)) (mkRat 1 k) Xx24 (by omega) ((hvx23).on hbx24) (hvx24) HZ4.out HZN.out) (by kernel_rfl) ?_
 rintro e Xx25 ⟨v25, rfl, hvx25, hbx25⟩
 have HBx25 := Lib.hid (below_next (HBx24.out) hbx25)
 refine ⟨_, rfl, hK.out _ _ (HKS.out _ HBx25.out) ?_⟩
 clear hK K
 intro _
 obtain ⟨brs, Ars, crs, lrs, Drs, drs, mrs, rfl⟩ := hvx25.shape
 obtain ⟨k0, k1, k2, z0, z1, z2, hlt⟩ := FBox.facts ((FBox.on (FBox.on (FBox.on (FBox.on hxx21 hbx22) hbx23) hbx24) hbx25))
 obtain ⟨Xx26, hXx26⟩ : ∃ X, X = ((Xx25.setCell ⟨Xx2.heap.size, 0, none⟩ (.bool brs)).setCell ⟨Xx2.heap.size, 1, none⟩ (.slice Ars lrs.length crs)).setCell ⟨Xx2.heap.size, 2, none⟩ (.slice Drs mrs.length drs) := ⟨_, rfl⟩
 have HVx26 := Lib.hid (show VarQ Xx26 Xx2.heap.size _ by rw [hXx26]; exact VarQ.store ((FBox.on (FBox.on (FBox.on (FBox.on hxx21 hbx22) hbx23) hbx24) hbx25)) (hvx25))
 have HBx26 := Lib.hid (show Below Wq.heap.size Wq Xx26 by rw [hXx26]; exact (((HBx25.out).setCell (p := ⟨Xx2.heap.size, 0, none⟩) hwx21 _).setCell (p := ⟨Xx2.heap.size, 1, none⟩) hwx21 _).setCell (p := ⟨Xx2.heap.size, 2, none⟩) hwx21 _)
 refine run_one (i := 11) (by kernel_rfl) rfl rfl ?_
 intro K hK
 go_simp
 rw [← hXx26]
 refine hK.out _ _ (HKS.out _ HBx26.out) ?_
 clear hK K k0 k1 k2 z0 z1 z2 hlt hXx26
 intro _
 refine wpAnyH_done (by kernel_rfl) ?_ _
 refine NoPanic.normal ?_
 go_wp2_with fail
 go_meet
 exact ⟨Xx2.heap.size, rfl, hwx21, by rw [← HEF.out]; exact HVx26.out, HBx26.out⟩
 }
 exact AllReadyH.nil
 }
 refine AllReadyH.cons rfl (fun K hK => ?_) ?_
 {
 obtain ⟨Xx27, hXx27⟩ : ∃ X, X = Xx1.alloc (.cells #[.bool false, .slice none 0 0, .slice none 0 0] 35) := ⟨_, rfl⟩
 have hbx27 : Below Xx1.heap.size Xx1 Xx27 := by rw [hXx27]; exact (Below.refl _ _).alloc (Nat.le_refl _) _
 have hxx27 : FBox Xx27 Xx1.heap.size := by rw [hXx27]; exact alloc_at _ _ _ rfl
 have HBx27 := Lib.hid (below_next (HBx1.out) hbx27)
 have hwx27 : Wq.heap.size ≤ Xx1.heap.size := (HBx1.out).size
 refine wp_val (v := .pointer (some ⟨Xx1.heap.size, 0, none⟩)) (w' := Xx27) (by rw [hXx27]; kernel_rfl) ?_
 clear hXx27
 refine hK.out _ _ (HKS.out _ HBx27.out) ?_
 clear hK K
 intro _
 refine run_one (i := 4) (by kernel_rfl) rfl rfl ?_
 intro K hK
 refine wp_call (HWXY.out Xx27) (by kernel_rfl) ?_
 rintro e Xx28 ⟨v28, rfl, hvx28, hbx28⟩
 have HBx28 := Lib.hid (below_next (HBx27.out) hbx28)
 refine ⟨_, rfl, hK.out _ _ (HKS.out _ HBx28.out) ?_⟩
 clear hK K
 intro _
 obtain ⟨bw2, Aw2, cw2, lw2, Dw2, dw2, mw2, rfl⟩ := hvx28.shape
 refine run_one (i := 5) (by kernel_rfl) rfl rfl ?_
 intro K hK
 refine wp_call (rTimes_any 20 _ _ (linA l) (vXY l : Rat) Xx28 (by omega) (HSLOPE_Wq.out.on (HBx28.out)) (hvx28) HZA.out HZXY.out) (by kernel_rfl) ?_
 rintro e Xx29 ⟨v29, rfl, hvx29, hbx29⟩
 have HBx29 := Lib.hid (below_next (HBx28.out) hbx29)
 refine ⟨_, rfl, hK.out _ _ (HKS.out _ HBx29.out) ?_⟩
 clear hK K
 intro _
 obtain ⟨btm, Atm, ctm, ltm, Dtm, dtm, mtm, rfl⟩ := hvx29.shape
 refine run_one (i := 6) (by kernel_rfl) rfl rfl ?_
 intro K hK
 refine wp_call (rLess_any 20 _ _ (vYY l : Rat) (linA l * (vXY l : Rat)) Xx29 (by omega) ((((hvx1).on hbx27).on hbx28).on hbx29) (hvx29) HZYY.out HZ3.out) (by kernel_rfl) ?_
 rintro e Xx30 ⟨v30, rfl, hvx30, hbx30⟩
 have HBx30 := Lib.hid (below_next (HBx29.out) hbx30)
 refine ⟨_, rfl, hK.out _ _ (HKS.out _ HBx30.out) ?_⟩
 clear hK K
 intro _
 obtain ⟨bls, Als, cls, lls, Dls, dls, mls, rfl⟩ := hvx30.shape
 refine run_one (i := 8) (by kernel_rfl) rfl rfl ?_
 intro K hK
 refine wp_call (HPN.out Xx30) (by kernel_rfl) ?_
 rintro e Xx31 ⟨v31, rfl, hvx31, hbx31⟩
 have HBx31 := Lib.hid (below_next (HBx30.out) hbx31)
 refine ⟨_, rfl, hK.out _ _ (HKS.out _ HBx31.out) ?_⟩
 clear hK K
 intro _
 obtain ⟨bpt, Apt, cpt, lpt, Dpt, dpt, mpt, rfl⟩ := hvx31.shape
 refine run_one (i := 9) (by kernel_rfl) rfl rfl ?_
 intro K hK
 refine wp_call (rTimes_any 20 _ _ ((vYY l : Rat) - linA l * (vXY l : Rat)) (mkRat 1 k) Xx31 (by omega) ((hvx30).on hbx31) (hvx31) HZ4.out HZN.out) (by kernel_rfl) ?_
 rintro e Xx32 ⟨v32, rfl, hvx32, hbx32⟩
 have HBx32 := Lib.hid (below_next (HBx31.out) hbx32)
 refine ⟨_, rfl, hK.out _ _ (HKS.out _ HBx32.out) ?_⟩
 clear hK K
 intro _
 obtain ⟨brs, Ars, crs, lrs, Drs, drs, mrs, rfl⟩ := hvx32.shape
 obtain ⟨k0, k1, k2, z0, z1, z2, hlt⟩ := FBox.facts ((FBox.on (FBox.on (FBox.on (FBox.on (FBox.on hxx27 hbx28) hbx29) hbx30) hbx31) hbx32))
 obtain ⟨Xx33, hXx33⟩ : ∃ X, X = ((Xx32.setCell ⟨Xx1.heap.size, 0, none⟩ (.bool brs)).setCell ⟨Xx1.heap.size, 1, none⟩ (.slice Ars lrs.length crs)).setCell ⟨Xx1.heap.size, 2, none⟩ (.slice Drs mrs.length drs) := ⟨_, rfl⟩
 have HVx33 := Lib.hid (show VarQ Xx33 Xx1.heap.size _ by rw [hXx33]; exact VarQ.store ((FBox.on (FBox.on (FBox.on (FBox.on (FBox.on hxx27 hbx28) hbx29) hbx30) hbx31) hbx32)) (hvx32))
 have HBx33 := Lib.hid (show Below Wq.heap.size Wq Xx33 by rw [hXx33]; exact (((HBx32.out).setCell (p := ⟨Xx1.heap.size, 0, none⟩) hwx27 _).setCell (p := ⟨Xx1.heap.size, 1, none⟩) hwx27 _).setCell (p := ⟨Xx1.heap.size, 2, none⟩) hwx27 _)
 refine run_one (i := 11) (by kernel_rfl) rfl rfl ?_
 intro K hK
 go_simp
 rw [← hXx33]
 refine hK.out _ _ (HKS.out _ HBx33.out) ?_
 clear hK K k0 k1 k2 z0 z1 z2 hlt hXx33
 intro _
 refine wpAnyH_done (by kernel_rfl) ?_ _
 refine NoPanic.normal ?_
 go_wp2_with fail
 go_meet
 exact ⟨Xx1.heap.size, rfl, hwx27, by rw [← HEF.out]; exact HVx33.out, HBx33.out⟩
 }
 exact AllReadyH.nil
 }
 refine AllReadyH.cons rfl (fun K hK => ?_) ?_
 {
 obtain ⟨Xx34, hXx34⟩ : ∃ X, X = Xx0.alloc (.cells #[.bool false, .slice none 0 0, .slice none 0 0] 35) := ⟨_, rfl⟩
 have hbx34 : Below Xx0.heap.size Xx0 Xx34 := by rw [hXx34]; exact (Below.refl _ _).alloc (Nat.le_refl _) _
 have hxx34 : FBox Xx34 Xx0.heap.size := by rw [hXx34]; exact alloc_at _ _ _ rfl
 have HBx34 := Lib.hid (below_next (HBx0.out) hbx34)
 have hwx34 : Wq.heap.size ≤ Xx0.heap.size := (HBx0.out).size
 refine wp_val (v := .pointer (some ⟨Xx0.heap.size, 0, none⟩)) (w' := Xx34) (by rw [hXx34]; kernel_rfl) ?_
 clear hXx34
 refine hK.out _ _ (HKS.out _ HBx34.out) ?_
 clear hK K
 intro _
 refine run_one (i := 1) (by kernel_rfl) rfl rfl ?_
 intro K hK
 refine wp_call (HWYY.out Xx34) (by kernel_rfl) ?_
 rintro e Xx35 ⟨v35, rfl, hvx35, hbx35⟩
 have HBx35 := Lib.hid (below_next (HBx34.out) hbx35)
 refine ⟨_, rfl, hK.out _ _ (HKS.out _ HBx35.out) ?_⟩
 clear hK K
 intro _
 obtain ⟨bw1, Aw1, cw1, lw1, Dw1, dw1, mw1, rfl⟩ := hvx35.shape
 refine run_one (i := 4) (by kernel_rfl) rfl rfl ?_
 intro K hK
 refine wp_call (HWXY.out Xx35) (by kernel_rfl) ?_
 rintro e Xx36 ⟨v36, rfl, hvx36, hbx36⟩
 have HBx36 := Lib.hid (below_next (HBx35.out) hbx36)
 refine ⟨_, rfl, hK.out _ _ (HKS.out _ HBx36.out) ?_⟩
 clear hK K
 intro _
 obtain ⟨bw2, Aw2, cw2, lw2, Dw2, dw2, mw2, rfl⟩ := hvx36.shape
 refine run_one (i := 5) (by kernel_rfl) rfl rfl ?_
 intro K hK
 refine wp_call (rTimes_any 20 _ _ (linA l) (vXY l : Rat) Xx36 (by omega) (HSLOPE_Wq.out.on (HBx36.out)) (hvx36) HZA.out HZXY.out) (by kernel_rfl) ?_
 rintro e Xx37 ⟨v37, rfl, hvx37, hbx37⟩
 have HBx37 := Lib.hid (below_next (HBx36.out) hbx37)
 refine ⟨_, rfl, hK.out _ _ (HKS.out _ HBx37.out) ?_⟩
 clear hK K
 intro _
 obtain ⟨btm, Atm, ctm, ltm, Dtm, dtm, mtm, rfl⟩ := hvx37.shape
 refine run_one (i := 6) (by kernel_rfl) rfl rfl ?_
 intro K hK
 refine wp_call (rLess_any 20 _ _ (vYY l : Rat) (linA l * (vXY l : Rat)) Xx37 (by omega) (((hvx35).on hbx36).on hbx37) (hvx37) HZYY.out HZ3.out) (by kernel_rfl) ?_
 rintro e Xx38 ⟨v38, rfl, hvx38, hbx38⟩
 have HBx38 := Lib.hid (below_next (HBx37.out) hbx38)
 refine ⟨_, rfl, hK.out _ _ (HKS.out _ HBx38.out) ?_⟩
 clear hK K
 intro _
 obtain ⟨bls, Als, cls, lls, Dls, dls, mls, rfl⟩ := hvx38.shape
 refine run_one (i := 8) (by kernel_rfl) rfl rfl ?_
 intro K hK
 refine wp_call (HPN.out Xx38) (by kernel_rfl) ?_
 rintro e Xx39 ⟨v39, rfl, hvx39, hbx39⟩
 have HBx39 := Lib.hid (below_next (HBx38.out) hbx39)
 refine ⟨_, rfl, hK.out _ _ (HKS.out _ HBx39.out) ?_⟩
 clear hK K
 intro _
 obtain ⟨bpt, Apt, cpt, lpt, Dpt, dpt, mpt, rfl⟩ := hvx39.shape
 refine run_one (i := 9) (by kernel_rfl) rfl rfl ?_
 intro K hK
 refine wp_call (rTimes_any 20 _ _ ((vYY l : Rat) - linA l * (vXY l : Rat)) (mkRat 1 k) Xx39 (by omega) ((hvx38).on hbx39) (hvx39) HZ4.out HZN.out) (by kernel_rfl) ?_
 rintro e Xx40 ⟨v40, rfl, hvx40, hbx40⟩
 have HBx40 := Lib.hid (below_next (HBx39.out) hbx40)
 refine ⟨_, rfl, hK.out _ _ (HKS.out _ HBx40.out) ?_⟩
 clear hK K
 intro _
 obtain ⟨brs, Ars, crs, lrs, Drs, drs, mrs, rfl⟩ := hvx40.shape
 obtain ⟨k0, k1, k2, z0, z1, z2, hlt⟩ := FBox.facts ((FBox.on (FBox.on (FBox.on (FBox.on (FBox.on (FBox.on hxx34 hbx35) hbx36) hbx37) hbx38) hbx39) hbx40))
 obtain ⟨Xx41, hXx41⟩ : ∃ X, X = ((Xx40.setCell ⟨Xx0.heap.size, 0, none⟩ (.bool brs)).setCell ⟨Xx0.heap.size, 1, none⟩ (.slice Ars lrs.length crs)).setCell ⟨Xx0.heap.size, 2, none⟩ (.slice Drs mrs.length drs) := ⟨_, rfl⟩
 have HVx41 := Lib.hid (show VarQ Xx41 Xx0.heap.size _ by rw [hXx41]; exact VarQ.store ((FBox.on (FBox.on (FBox.on (FBox.on (FBox.on (FBox.on hxx34 hbx35) hbx36) hbx37) hbx38) hbx39) hbx40)) (hvx40))
 have HBx41 := Lib.hid (show Below Wq.heap.size Wq Xx41 by rw [hXx41]; exact (((HBx40.out).setCell (p := ⟨Xx0.heap.size, 0, none⟩) hwx34 _).setCell (p := ⟨Xx0.heap.size, 1, none⟩) hwx34 _).setCell (p := ⟨Xx0.heap.size, 2, none⟩) hwx34 _)
 refine run_one (i := 11) (by kernel_rfl) rfl rfl ?_
 intro K hK
 go_simp
 rw [← hXx41]
 refine hK.out _ _ (HKS.out _ HBx41.out) ?_
 clear hK K k0 k1 k2 z0 z1 z2 hlt hXx41
 intro _
 refine wpAnyH_done (by kernel_rfl) ?_ _
 refine NoPanic.normal ?_
 go_wp2_with fail
 go_meet
 exact ⟨Xx0.heap.size, rfl, hwx34, by rw [← HEF.out]; exact HVx41.out, HBx41.out⟩
 }
 exact AllReadyH.nil
          }
        case rest =>
          obtain ⟨Bf, rfl, hlf, hvf, hbf⟩ := hcut
          obtain ⟨bF, F1, z1, s1, F2, z2, s2, ef, hjF⟩ := hvf.opn
          obtain ⟨bO, O1, v1, p1, O2, v2, p2, eo, hjO⟩ := (HVO.out.on hbf).opn
          have HV0 := Lib.hid (HSLOPE_Wq.out.on hbf)
          have HV1 := Lib.hid hjO
          have HV2 := Lib.hid hjF
          have HE0 := Lib.hid ((hbf.block _ (heap_lt HESq.out)).trans HESq.out)
          have HE1 := Lib.hid eo
          have HE2 := Lib.hid ef
          have HLO2 := Lib.hid (show W0.heap.size ≤ Bf from Nat.le_trans HBq.out.size hlf)
          have HBWC := Lib.hid (below_next HST0.out.below (below_next HBq.out hbf))
          have hbw0 := below_next HBq.out hbf
          have HFB0 := Lib.hid (show FBox wc w.heap.size from FBox.on (HST0.out.at 0 rfl) hbw0)
          have HFB1 := Lib.hid (show FBox wc (w.heap.size + 1) from FBox.on (HST0.out.at 1 rfl) hbw0)
          have HFB2 := Lib.hid (show FBox wc (w.heap.size + 1 + 1) from FBox.on (HST0.out.at 2 rfl) hbw0)
          have HKS17 := Lib.hid (show ∀ X : World, X.heap[w2.heap.size]? = some (.cells #[.bool bA, .slice A1 l1.length c1', .slice A2 l2.length c2'] 35 (0, 0)) → X.heap[Bo]? = some (.cells #[.bool bO, .slice O1 p1.length v1, .slice O2 p2.length v2] 35 (0, 0)) → X.heap[Bf]? = some (.cells #[.bool bF, .slice F1 s1.length z1, .slice F2 s2.length z2] 35 (0, 0)) → (fun X => X.cell? ⟨w2.heap.size, 0, none⟩ = some (.bool bA) ∧ X.cell? ⟨w2.heap.size, 1, none⟩ = some (.slice A1 l1.length c1') ∧ X.cell? ⟨w2.heap.size, 2, none⟩ = some (.slice A2 l2.length c2') ∧ X.cell? ⟨Bo, 0, none⟩ = some (.bool bO) ∧ X.cell? ⟨Bo, 1, none⟩ = some (.slice O1 p1.length v1) ∧ X.cell? ⟨Bo, 2, none⟩ = some (.slice O2 p2.length v2) ∧ X.cell? ⟨Bf, 0, none⟩ = some (.bool bF) ∧ X.cell? ⟨Bf, 1, none⟩ = some (.slice F1 s1.length z1) ∧ X.cell? ⟨Bf, 2, none⟩ = some (.slice F2 s2.length z2)) X from fun X e0 e1 e2 => ⟨by rw [cellsAt e0]; rfl, by rw [cellsAt e0]; rfl, by rw [cellsAt e0]; rfl, by rw [cellsAt e1]; rfl, by rw [cellsAt e1]; rfl, by rw [cellsAt e1]; rfl, by rw [cellsAt e2]; rfl, by rw [cellsAt e2]; rfl, by rw [cellsAt e2]; rfl⟩)
          clear hlf hvf hbf ef hjF eo hjO hbw0
          go_wp2_with fail
          {
 refine wp_region_noPanic ?_
 refine wp_region_held_drew (S := (fun X => X.cell? ⟨w2.heap.size, 0, none⟩ = some (.bool bA) ∧ X.cell? ⟨w2.heap.size, 1, none⟩ = some (.slice A1 l1.length c1') ∧ X.cell? ⟨w2.heap.size, 2, none⟩ = some (.slice A2 l2.length c2') ∧ X.cell? ⟨Bo, 0, none⟩ = some (.bool bO) ∧ X.cell? ⟨Bo, 1, none⟩ = some (.slice O1 p1.length v1) ∧ X.cell? ⟨Bo, 2, none⟩ = some (.slice O2 p2.length v2) ∧ X.cell? ⟨Bf, 0, none⟩ = some (.bool bF) ∧ X.cell? ⟨Bf, 1, none⟩ = some (.slice F1 s1.length z1) ∧ X.cell? ⟨Bf, 2, none⟩ = some (.slice F2 s2.length z2))) (by kernel_rfl) (HKS17.out _ HE0.out HE1.out HE2.out) (fun HS0 => ?_)
 obtain ⟨X0, hX0⟩ : ∃ X, X = wc.drew := ⟨_, rfl⟩
 have HV0_X0 := Lib.hid (show FracR X0 (.agg #[.bool bA, .slice A1 l1.length c1', .slice A2 l2.length c2']) (linA l) by rw [hX0]; exact HV0.out.on (Below.refl _ wc).drew)
 have HE0_X0 := Lib.hid (show X0.heap[w2.heap.size]? = some (.cells #[.bool bA, .slice A1 l1.length c1', .slice A2 l2.length c2'] 35 (0, 0)) by rw [hX0]; exact HE0.out)
 have HFB0_X0 := Lib.hid (show FBox X0 w.heap.size by rw [hX0]; exact HFB0.out)
 have HV1_X0 := Lib.hid (show FracR X0 (.agg #[.bool bO, .slice O1 p1.length v1, .slice O2 p2.length v2]) (linB l) by rw [hX0]; exact HV1.out.on (Below.refl _ wc).drew)
 have HE1_X0 := Lib.hid (show X0.heap[Bo]? = some (.cells #[.bool bO, .slice O1 p1.length v1, .slice O2 p2.length v2] 35 (0, 0)) by rw [hX0]; exact HE1.out)
 have HFB1_X0 := Lib.hid (show FBox X0 (w.heap.size + 1) by rw [hX0]; exact HFB1.out)
 have HV2_X0 := Lib.hid (show FracR X0 (.agg #[.bool bF, .slice F1 s1.length z1, .slice F2 s2.length z2]) (linF l) by rw [hX0]; exact HV2.out.on (Below.refl _ wc).drew)
 have HE2_X0 := Lib.hid (show X0.heap[Bf]? = some (.cells #[.bool bF, .slice F1 s1.length z1, .slice F2 s2.length z2] 35 (0, 0)) by rw [hX0]; exact HE2.out)
 have HFB2_X0 := Lib.hid (show FBox X0 (w.heap.size + 1 + 1) by rw [hX0]; exact HFB2.out)
 have HBW_X0 := Lib.hid (show Below w.heap.size w X0 by rw [hX0]; exact HBWC.out.drew)
 rw [← hX0] at HS0 ⊢
 clear hX0
 refine wpAnyH_take (i := 0) (v := ?_) rfl (by kernel_rfl) (by kernel_rfl) (by kernel_rfl) (fun _ _ _ h => h) (Or.inl ⟨by rfl, ?_⟩) HS0 ?_
 rotate_left
 · intro W hW; (try dsimp only at hW); go_simp; try (with_reducible rfl)
 refine wpAnyH_take (i := 1) (v := ?_) rfl (by kernel_rfl) (by kernel_rfl) (by kernel_rfl) (fun _ _ _ h => h) (Or.inl ⟨by rfl, ?_⟩) HS0 ?_
 rotate_left
 · intro W hW; (try dsimp only at hW); go_simp; try (with_reducible rfl)
 refine wpAnyH_take (i := 2) (v := ?_) rfl (by kernel_rfl) (by kernel_rfl) (by kernel_rfl) (fun _ _ _ h => h) (Or.inl ⟨by rfl, ?_⟩) HS0 ?_
 rotate_left
 · intro W hW; (try dsimp only at hW); go_simp; try (with_reducible rfl)
 clear HS0
 obtain ⟨k0, k1, k2, y0, y1, y2, hlt⟩ := HFB0_X0.out.facts
 obtain ⟨X1, hY⟩ : ∃ Y, Y = ((X0.setCell ⟨w.heap.size, 0, none⟩ (.bool bA)).setCell ⟨w.heap.size, 1, none⟩ (.slice A1 l1.length c1')).setCell ⟨w.heap.size, 2, none⟩ (.slice A2 l2.length c2') := ⟨_, rfl⟩
 have hfr : Fr (fun i => i = w.heap.size) X0 X1 := by rw [hY]; exact fr3 _ _ _
 have HV0_X1 := Lib.hid (show FracR X1 (.agg #[.bool bA, .slice A1 l1.length c1', .slice A2 l2.length c2']) (linA l) from HV0_X0.out.keep HFB0_X0.out (by intro v hv z; simp at hv; rcases hv with rfl | rfl <;> simp) hfr)
 have HE0_X1 := Lib.hid (show X1.heap[w2.heap.size]? = some (.cells #[.bool bA, .slice A1 l1.length c1', .slice A2 l2.length c2'] 35 (0, 0)) from (hfr.block _ (heap_lt HE0_X0.out) (by have := HLO0.out; omega)).trans HE0_X0.out)
 have HV1_X1 := Lib.hid (show FracR X1 (.agg #[.bool bO, .slice O1 p1.length v1, .slice O2 p2.length v2]) (linB l) from HV1_X0.out.keep HFB0_X0.out (by intro v hv z; simp at hv; rcases hv with rfl | rfl <;> simp) hfr)
 have HE1_X1 := Lib.hid (show X1.heap[Bo]? = some (.cells #[.bool bO, .slice O1 p1.length v1, .slice O2 p2.length v2] 35 (0, 0)) from (hfr.block _ (heap_lt HE1_X0.out) (by have := HLO1.out; omega)).trans HE1_X0.out)
 have HV2_X1 := Lib.hid (show FracR X1 (.agg #[.bool bF, .slice F1 s1.length z1, .slice F2 s2.length z2]) (linF l) from HV2_X0.out.keep HFB0_X0.out (by intro v hv z; simp at hv; rcases hv with rfl | rfl <;> simp) hfr)
 have HE2_X1 := Lib.hid (show X1.heap[Bf]? = some (.cells #[.bool bF, .slice F1 s1.length z1, .slice F2 s2.length z2] 35 (0, 0)) from (hfr.block _ (heap_lt HE2_X0.out) (by have := HLO2.out; omega)).trans HE2_X0.out)
 have HFB1_X1 := Lib.hid (show FBox X1 (w.heap.size + 1) from (hfr.block _ (heap_lt HFB1_X0.out) (by omega)).trans HFB1_X0.out)
 have HFB2_X1 := Lib.hid (show FBox X1 (w.heap.size + 1 + 1) from (hfr.block _ (heap_lt HFB2_X0.out) (by omega)).trans HFB2_X0.out)
 have HRB0_X1 := Lib.hid (show X1.heap[w.heap.size]? = some (.cells #[.bool bA, .slice A1 l1.length c1', .slice A2 l2.length c2'] 35 (0, 0)) by rw [hY]; exact set3_at HFB0_X0.out)
 have HBW_X1 := Lib.hid (show Below w.heap.size w X1 from HBW_X0.out.trans (hfr.below HBW_X0.out.size (fun i hi hm => by omega)))
 refine run_one (i := 3) (by kernel_rfl) rfl rfl ?_
 intro K hK
 go_simp
 rw [← hY]
 refine hK.out _ _ (HKS17.out _ HE0_X1.out HE1_X1.out HE2_X1.out) ?_
 clear hK K k0 k1 k2 y0 y1 y2 hlt hY hfr
 intro _
 obtain ⟨k0, k1, k2, y0, y1, y2, hlt⟩ := HFB1_X1.out.facts
 obtain ⟨X2, hY⟩ : ∃ Y, Y = ((X1.setCell ⟨(w.heap.size + 1), 0, none⟩ (.bool bO)).setCell ⟨(w.heap.size + 1), 1, none⟩ (.slice O1 p1.length v1)).setCell ⟨(w.heap.size + 1), 2, none⟩ (.slice O2 p2.length v2) := ⟨_, rfl⟩
 have hfr : Fr (fun i => i = (w.heap.size + 1)) X1 X2 := by rw [hY]; exact fr3 _ _ _
 have HV0_X2 := Lib.hid (show FracR X2 (.agg #[.bool bA, .slice A1 l1.length c1', .slice A2 l2.length c2']) (linA l) from HV0_X1.out.keep HFB1_X1.out (by intro v hv z; simp at hv; rcases hv with rfl | rfl <;> simp) hfr)
 have HE0_X2 := Lib.hid (show X2.heap[w2.heap.size]? = some (.cells #[.bool bA, .slice A1 l1.length c1', .slice A2 l2.length c2'] 35 (0, 0)) from (hfr.block _ (heap_lt HE0_X1.out) (by have := HLO0.out; omega)).trans HE0_X1.out)
 have HV1_X2 := Lib.hid (show FracR X2 (.agg #[.bool bO, .slice O1 p1.length v1, .slice O2 p2.length v2]) (linB l) from HV1_X1.out.keep HFB1_X1.out (by intro v hv z; simp at hv; rcases hv with rfl | rfl <;> simp) hfr)
 have HE1_X2 := Lib.hid (show X2.heap[Bo]? = some (.cells #[.bool bO, .slice O1 p1.length v1, .slice O2 p2.length v2] 35 (0, 0)) from (hfr.block _ (heap_lt HE1_X1.out) (by have := HLO1.out; omega)).trans HE1_X1.out)
 have HV2_X2 := Lib.hid (show FracR X2 (.agg #[.bool bF, .slice F1 s1.length z1, .slice F2 s2.length z2]) (linF l) from HV2_X1.out.keep HFB1_X1.out (by intro v hv z; simp at hv; rcases hv with rfl | rfl <;> simp) hfr)
 have HE2_X2 := Lib.hid (show X2.heap[Bf]? = some (.cells #[.bool bF, .slice F1 s1.length z1, .slice F2 s2.length z2] 35 (0, 0)) from (hfr.block _ (heap_lt HE2_X1.out) (by have := HLO2.out; omega)).trans HE2_X1.out)
 have HRB0_X2 := Lib.hid (show X2.heap[w.heap.size]? = some (.cells #[.bool bA, .slice A1 l1.length c1', .slice A2 l2.length c2'] 35 (0, 0)) from (hfr.block _ (heap_lt HRB0_X1.out) (by omega)).trans HRB0_X1.out)
 have HFB2_X2 := Lib.hid (show FBox X2 (w.heap.size + 1 + 1) from (hfr.block _ (heap_lt HFB2_X1.out) (by omega)).trans HFB2_X1.out)
 have HRB1_X2 := Lib.hid (show X2.heap[(w.heap.size + 1)]? = some (.cells #[.bool bO, .slice O1 p1.length v1, .slice O2 p2.length v2] 35 (0, 0)) by rw [hY]; exact set3_at HFB1_X1.out)
 have HBW_X2 := Lib.hid (show Below w.heap.size w X2 from HBW_X1.out.trans (hfr.below HBW_X1.out.size (fun i hi hm => by omega)))
 refine run_one (i := 4) (by kernel_rfl) rfl rfl ?_
 intro K hK
 go_simp
 rw [← hY]
 refine hK.out _ _ (HKS17.out _ HE0_X2.out HE1_X2.out HE2_X2.out) ?_
 clear hK K k0 k1 k2 y0 y1 y2 hlt hY hfr
 intro _
 obtain ⟨k0, k1, k2, y0, y1, y2, hlt⟩ := HFB2_X2.out.facts
 obtain ⟨X3, hY⟩ : ∃ Y, Y = ((X2.setCell ⟨(w.heap.size + 1 + 1), 0, none⟩ (.bool bF)).setCell ⟨(w.heap.size + 1 + 1), 1, none⟩ (.slice F1 s1.length z1)).setCell ⟨(w.heap.size + 1 + 1), 2, none⟩ (.slice F2 s2.length z2) := ⟨_, rfl⟩
 have hfr : Fr (fun i => i = (w.heap.size + 1 + 1)) X2 X3 := by rw [hY]; exact fr3 _ _ _
 have HV0_X3 := Lib.hid (show FracR X3 (.agg #[.bool bA, .slice A1 l1.length c1', .slice A2 l2.length c2']) (linA l) from HV0_X2.out.keep HFB2_X2.out (by intro v hv z; simp at hv; rcases hv with rfl | rfl <;> simp) hfr)
 have HE0_X3 := Lib.hid (show X3.heap[w2.heap.size]? = some (.cells #[.bool bA, .slice A1 l1.length c1', .slice A2 l2.length c2'] 35 (0, 0)) from (hfr.block _ (heap_lt HE0_X2.out) (by have := HLO0.out; omega)).trans HE0_X2.out)
 have HV1_X3 := Lib.hid (show FracR X3 (.agg #[.bool bO, .slice O1 p1.length v1, .slice O2 p2.length v2]) (linB l) from HV1_X2.out.keep HFB2_X2.out (by intro v hv z; simp at hv; rcases hv with rfl | rfl <;> simp) hfr)
 have HE1_X3 := Lib.hid (show X3.heap[Bo]? = some (.cells #[.bool bO, .slice O1 p1.length v1, .slice O2 p2.length v2] 35 (0, 0)) from (hfr.block _ (heap_lt HE1_X2.out) (by have := HLO1.out; omega)).trans HE1_X2.out)
 have HV2_X3 := Lib.hid (show FracR X3 (.agg #[.bool bF, .slice F1 s1.length z1, .slice F2 s2.length z2]) (linF l) from HV2_X2.out.keep HFB2_X2.out (by intro v hv z; simp at hv; rcases hv with rfl | rfl <;> simp) hfr)
 have HE2_X3 := Lib.hid (show X3.heap[Bf]? = some (.cells #[.bool bF, .slice F1 s1.length z1, .slice F2 s2.length z2] 35 (0, 0)) from (hfr.block _ (heap_lt HE2_X2.out) (by have := HLO2.out; omega)).trans HE2_X2.out)
 have HRB0_X3 := Lib.hid (show X3.heap[w.heap.size]? = some (.cells #[.bool bA, .slice A1 l1.length c1', .slice A2 l2.length c2'] 35 (0, 0)) from (hfr.block _ (heap_lt HRB0_X2.out) (by omega)).trans HRB0_X2.out)
 have HRB1_X3 := Lib.hid (show X3.heap[(w.heap.size + 1)]? = some (.cells #[.bool bO, .slice O1 p1.length v1, .slice O2 p2.length v2] 35 (0, 0)) from (hfr.block _ (heap_lt HRB1_X2.out) (by omega)).trans HRB1_X2.out)
 have HRB2_X3 := Lib.hid (show X3.heap[(w.heap.size + 1 + 1)]? = some (.cells #[.bool bF, .slice F1 s1.length z1, .slice F2 s2.length z2] 35 (0, 0)) by rw [hY]; exact set3_at HFB2_X2.out)
 have HBW_X3 := Lib.hid (show Below w.heap.size w X3 from HBW_X2.out.trans (hfr.below HBW_X2.out.size (fun i hi hm => by omega)))
 refine run_one (i := 5) (by kernel_rfl) rfl rfl ?_
 intro K hK
 go_simp
 rw [← hY]
 refine hK.out _ _ (HKS17.out _ HE0_X3.out HE1_X3.out HE2_X3.out) ?_
 clear hK K k0 k1 k2 y0 y1 y2 hlt hY hfr
 intro _
 refine wpAnyH_done (by kernel_rfl) ?_ _
 refine NoPanic.normal ?_
 have r00 : X3.cell? ⟨w.heap.size, 0, none⟩ = some (.bool bA) := by rw [cellsAt HRB0_X3.out]; rfl
 have r01 : X3.cell? ⟨w.heap.size, 1, none⟩ = some (.slice A1 l1.length c1') := by rw [cellsAt HRB0_X3.out]; rfl
 have r02 : X3.cell? ⟨w.heap.size, 2, none⟩ = some (.slice A2 l2.length c2') := by rw [cellsAt HRB0_X3.out]; rfl
 have r10 : X3.cell? ⟨(w.heap.size + 1), 0, none⟩ = some (.bool bO) := by rw [cellsAt HRB1_X3.out]; rfl
 have r11 : X3.cell? ⟨(w.heap.size + 1), 1, none⟩ = some (.slice O1 p1.length v1) := by rw [cellsAt HRB1_X3.out]; rfl
 have r12 : X3.cell? ⟨(w.heap.size + 1), 2, none⟩ = some (.slice O2 p2.length v2) := by rw [cellsAt HRB1_X3.out]; rfl
 have r20 : X3.cell? ⟨(w.heap.size + 1 + 1), 0, none⟩ = some (.bool bF) := by rw [cellsAt HRB2_X3.out]; rfl
 have r21 : X3.cell? ⟨(w.heap.size + 1 + 1), 1, none⟩ = some (.slice F1 s1.length z1) := by rw [cellsAt HRB2_X3.out]; rfl
 have r22 : X3.cell? ⟨(w.heap.size + 1 + 1), 2, none⟩ = some (.slice F2 s2.length z2) := by rw [cellsAt HRB2_X3.out]; rfl
 go_wp2
 refine bodyPost_ret (v := .tuple #[.agg #[.bool bA, .slice A1 l1.length c1', .slice A2 l2.length c2'], .agg #[.bool bO, .slice O1 p1.length v1, .slice O2 p2.length v2], .agg #[.bool bF, .slice F1 s1.length z1, .slice F2 s2.length z2]]) (by simp [results, Tryz.results78, go_sem, r00, r01, r02, r10, r11, r12, r20, r21, r22]) rfl ⟨_, _, _, rfl, HV0_X3.out, HV1_X3.out, HV2_X3.out, HBW_X3.out⟩
          }
end Go.Proofs.YtpmnhdgajkickaaGreatDoor
