/- Package dynamometerref10: Signs. -/
import Derived.StillTailTactics
import Derived.Test.YtnapdhfkgfjjfaaGreatDoorG40
import Derived.Test.YtnapdhfkgfjjfaaGreatDoorJSgn
namespace Go.Proofs.YtnapdhfkgfjjfaaGreatDoor
open Go Go.RowKit Go.Proofs

theorem updZ_two (f : Int → Int) (done : Int → Bool) (y : Int) (h : done y = false) : updZ (updZ (gS f done) y (gS f done y + f y)) (y + 1) (gS f done (y + 1) + f y) = gS f (fun z => done z || z == y) := by
  funext x
  rw [← gS_two f done y h x]
  unfold updZ
  rw [if_neg (show y + 1 ≠ y by omega)]
set_option maxHeartbeats 8000000 in
set_option maxRecDepth 100000 in
theorem rSigns_any (A B : Option Addr) (c d : Nat) (a b : List Int) (w : World) (hr1 : Rd w 0 w.heap.size 1 A a.length (ints a)) (hr2 : Rd w 0 w.heap.size 1 B b.length (ints b)) (hm1 : a.length ≤ 4000000000000000000) (_hm2 : b.length ≤ 4000000000000000000) :
    Calls Tryz.prog 14 #[.slice A a.length c, .slice B b.length d] w fun e w' => e = .returned (sgW a b) ∧ Below w.heap.size w w' := by
  have HR1 := Lib.hid hr1
  have HR2 := Lib.hid hr2
  obtain ⟨W0, hW0⟩ : ∃ W0, W0 = w.alloc (.cells #[.int .i64 0, .int .i64 0, .int .i64 0, .int .i64 0] 24) := ⟨_, rfl⟩
  have HST0 := Lib.hid (show St w W0 [(w.heap.size, .cells #[.int .i64 0, .int .i64 0, .int .i64 0, .int .i64 0] 24 (0, 0))] by rw [hW0]; exact (St.start w).alloc _ _ rfl)
  clear hr1 hr2
  by_cases hf : a.length ≠ b.length
  · have HWE := Lib.hid (show sgW a b = .tuple #[rkZ, .int .i64 2] by rw [sgW_bad (by rw [sgC_form hf]; decide), sgC_form hf])
    have t1 : ((a.length : Int) != (b.length : Int)) = true := by rw [bne_iff_ne]; omega
    clear hf
    go_enter Tryz.func14, Tryz.ntmps14
    go_upto_region 1 with fail
    rw [← hW0]
    clear hW0
    have hst1 := HST0.out.call (Below.refl _ W0)
    have k0 : _ = some (Value.int .i64 0) := hst1.cell 0 0 rfl rfl
    have k1 : _ = some (Value.int .i64 0) := hst1.cell 0 1 rfl rfl
    have k2 : _ = some (Value.int .i64 0) := hst1.cell 0 2 rfl rfl
    have k3 : _ = some (Value.int .i64 0) := hst1.cell 0 3 rfl rfl
    have z0 := hst1.frozen 0 0 rfl
    have z1 := hst1.frozen 0 1 rfl
    have z2 := hst1.frozen 0 2 rfl
    have z3 := hst1.frozen 0 3 rfl
    have hlt := hst1.lt 0 rfl
    have HBF := Lib.hid (fun x y u v => ((((below_next HST0.out.below (Below.refl _ W0)).setCell (p := ⟨w.heap.size, 0, none⟩) (Nat.le_refl _) x).setCell (p := ⟨w.heap.size, 1, none⟩) (Nat.le_refl _) y).setCell (p := ⟨w.heap.size, 2, none⟩) (Nat.le_refl _) u).setCell (p := ⟨w.heap.size, 3, none⟩) (Nat.le_refl _) v)
    clear hst1
    go_wp2
    refine bodyPost_ret (v := .tuple #[.agg #[.int .i64 0, .int .i64 0, .int .i64 0, .int .i64 0], .int .i64 2]) (by simp [results, Tryz.results14, go_sem, k0, k1, k2, k3]) rfl ⟨by rw [HWE.out]; rfl, HBF.out _ _ _ _⟩
  have hab : a.length = b.length := by omega
  have t1 : ((a.length : Int) != (b.length : Int)) = false := by rw [hab]; simp
  by_cases hs : 60 < a.length
  · have HWE := Lib.hid (show sgW a b = .tuple #[rkZ, .int .i64 3] by rw [sgW_bad (by rw [sgC_size hab hs]; decide), sgC_size hab hs])
    have t2 : decide (60 < (a.length : Int)) = true := decide_eq_true (by omega)
    clear hf hs hab
    go_enter Tryz.func14, Tryz.ntmps14
    go_upto_region 1 with fail
    rw [← hW0]
    clear hW0
    have hst1 := HST0.out.call (Below.refl _ W0)
    have k0 : _ = some (Value.int .i64 0) := hst1.cell 0 0 rfl rfl
    have k1 : _ = some (Value.int .i64 0) := hst1.cell 0 1 rfl rfl
    have k2 : _ = some (Value.int .i64 0) := hst1.cell 0 2 rfl rfl
    have k3 : _ = some (Value.int .i64 0) := hst1.cell 0 3 rfl rfl
    have z0 := hst1.frozen 0 0 rfl
    have z1 := hst1.frozen 0 1 rfl
    have z2 := hst1.frozen 0 2 rfl
    have z3 := hst1.frozen 0 3 rfl
    have hlt := hst1.lt 0 rfl
    have HBF := Lib.hid (fun x y u v => ((((below_next HST0.out.below (Below.refl _ W0)).setCell (p := ⟨w.heap.size, 0, none⟩) (Nat.le_refl _) x).setCell (p := ⟨w.heap.size, 1, none⟩) (Nat.le_refl _) y).setCell (p := ⟨w.heap.size, 2, none⟩) (Nat.le_refl _) u).setCell (p := ⟨w.heap.size, 3, none⟩) (Nat.le_refl _) v)
    clear hst1
    go_wp2
    refine bodyPost_ret (v := .tuple #[.agg #[.int .i64 0, .int .i64 0, .int .i64 0, .int .i64 0], .int .i64 3]) (by simp [results, Tryz.results14, go_sem, k0, k1, k2, k3]) rfl ⟨by rw [HWE.out]; rfl, HBF.out _ _ _ _⟩
  have t2 : decide (60 < (a.length : Int)) = false := decide_eq_false (by omega)
  have HC1 := Lib.hid (fun W (hW : Below w.heap.size w W) => rNumF_any A c a W (HR1.out.old hW) (by omega))
  have HC2 := Lib.hid (fun W (hW : Below w.heap.size w W) => rNumF_any B d b W (HR2.out.old hW) (by omega))
  have hcn := sgC_num hab hs
  rw [okZ_two] at hcn
  by_cases ho : okZ a = true
  · rw [if_pos ho] at HC1
    rw [ho, Bool.true_and] at hcn
    by_cases ho2 : okZ b = true
    · rw [if_pos ho2] at HC2 hcn
      have HWE := Lib.hid (show sgW a b = .tuple #[sgR a b, .int .i64 0] from sgW_ok hcn)
      have HZA := Lib.hid (fun x (hx : x ∈ a) => okZ_mem ho hx)
      have HZB := Lib.hid (fun x (hx : x ∈ b) => okZ_mem ho2 hx)
      have hN : a.length ≤ 60 := by omega
      have HAB := Lib.hid hab
      have HLE := Lib.hid (fun k => sg_le a b k)
      clear hf hs ho ho2 hcn hab
      go_enter Tryz.func14, Tryz.ntmps14
      go_upto_region 1 with fail
      rw [← hW0]
      clear hW0
      go_wp2_with fail
      (with_reducible refine (HC1.out W0 HST0.out.below).mono ?_)
      rintro e w1 ⟨rfl, hb1⟩
      have HB1 := Lib.hid hb1
      clear hb1
      go_wp2_with fail
      (with_reducible refine (HC2.out w1 (below_next HST0.out.below HB1.out)).mono ?_)
      rintro e w2 ⟨rfl, hb2⟩
      have hmk := @run_makeMap Tryz.prog
      have hz := mapZ_made w2
      obtain ⟨hput, hpm, hpg⟩ := putZ_run2 hz (by omega) 0 1 (by omega) (by omega) (by omega) (by omega) (by omega)
      obtain ⟨W3, hW3⟩ : ∃ W, W = putZ w2.heap.size 0 1 (w2.alloc (.map #[] 0)) := ⟨_, rfl⟩
      rw [← hW3] at hput hpm hpg
      have hz2 : w2.heap.size < (w2.alloc (.map #[] 0)).heap.size := hz.lt
      have HB3 := Lib.hid (show Below W0.heap.size W0 W3 from ((below_next HB1.out hb2).alloc (below_next HB1.out hb2).size (.map #[] 0)).trans ((Fr.of_grown hpg).below (by have := (below_next HB1.out hb2).size; omega) fun i hi h => by have := (below_next HB1.out hb2).size; simp at h; omega))
      have HM3 := Lib.hid (show MapZ W3 w2.heap.size 200 ((0 : Nat) : Int) (cN (tS 0)) from by
        have e : updZ (fun _ => 0) 0 1 = cN (tS 0) := funext fun x => (tS_zero x).symm
        rw [← e]
        exact hpm.mono (by omega) (by omega))
      clear hz hpm hpg hb2 hz2
      go_wp2
      rw [← hW3]
      clear hW3 hput
      go_loopw [8, 9, 10] (fun vv mv iv wr => ∃ (k m : Nat), iv = .int .i64 (k : Nat) ∧ k ≤ a.length ∧ vv = .int .i64 (sgV a b k : Nat) ∧ mv = .map (some m) ∧ MapZ wr m 200 (sgD a b k : Nat) (cN (tS (sgD a b k))) ∧ Below W0.heap.size W0 wr) (fun _ _ iv _ => a.length - (intOf iv).toNat)
      case atStart => exact ⟨0, w2.heap.size, rfl, Nat.zero_le _, rfl, rfl, HM3.out, HB3.out⟩
      case round =>
        obtain ⟨k, m, rfl, hk, rfl, rfl, hmz, hbw⟩ := hrel
        have HBW := Lib.hid hbw
        have HMZ := Lib.hid hmz
        have hvk := HLE.out k
        have hvd := hvk.1
        have hdk := hvk.2
        clear hbw hmz HM3 HB3 hvk
        by_cases hlt : k < a.length
        · obtain ⟨b1, o1, u1, rfl, hbB1, hu1, _⟩ := HR1.out.at1 hlt
          obtain ⟨b2, o2, u2, rfl, hbB2, hu2, _⟩ := HR2.out.at1 (show k < b.length by rw [← HAB.out]; exact hlt)
          obtain ⟨x, hx, rfl⟩ := ints_get hu1
          obtain ⟨y, hy, rfl⟩ := ints_get hu2
          have HXC := Lib.hid (show ∀ W, Below w.heap.size w W → W.cell? ⟨b1, o1 + k, none⟩ = some (.int .i64 x) ∧ W.cell? ⟨b2, o2 + k, none⟩ = some (.int .i64 y) from fun W hW => by
            obtain ⟨b1', o1', e1, _, _, h1⟩ := (HR1.out.old hW).2 (by omega)
            obtain ⟨b2', o2', e2, _, _, h2⟩ := (HR2.out.old hW).2 (by have := HAB.out; omega)
            cases e1
            cases e2
            exact ⟨h1 k _ hu1, h2 k _ hu2⟩)
          have HDN := Lib.hid (sgD_next hx hy)
          have HVN := Lib.hid (sgV_next hx hy)
          have q1 : (0 : Int) ≤ (k : Int) := by omega
          have q2 : (k : Int) < (a.length : Int) := by omega
          have q3 : (k : Int) < (b.length : Int) := by have := HAB.out; omega
          obtain ⟨Dk, hDk⟩ : ∃ z, z = sgD a b k := ⟨_, rfl⟩
          obtain ⟨Vk, hVk⟩ : ∃ z, z = sgV a b k := ⟨_, rfl⟩
          rw [← hDk, ← hVk] at hvd
          rw [← hDk] at hdk HDN HMZ
          rw [← hVk] at HVN ⊢
          obtain ⟨p1, p2⟩ := HXC.out wr (below_next HST0.out.below HBW.out)
          clear hbB1 hu1 hbB2 hu2 hx hy hDk hVk
          by_cases he : x = y
          · have t3 : (y != x) = false := by rw [he]; simp
            have t4 : decide (x < y) = false := decide_eq_false (by omega)
            have HD1 := Lib.hid (show sgD a b (k + 1) = Dk by rw [HDN.out, if_pos he]; rfl)
            have HV1 := Lib.hid (show sgV a b (k + 1) = Vk by rw [HVN.out, if_neg (by omega)]; rfl)
            clear he
            go_wp2
            refine wp_region_still_tail 8 (by kernel_rfl) (by kernel_rfl) ?_
            simp only [List.take_succ_cons, List.take_zero, List.drop_succ_cons, List.drop_zero]
            repeat still_step
            refine wpStill_nil ?_
            change wpList _ _ _ _ _ wr.drew
            obtain ⟨wd, hwd⟩ : ∃ X, X = wr.drew := ⟨_, rfl⟩
            rw [← hwd]
            have HBD' := Lib.hid (show Below W0.heap.size W0 wd by rw [hwd]; exact HBW.out.drew)
            have HMD := Lib.hid (show MapZ wd m 200 (Dk : Nat) (cN (tS Dk)) by rw [hwd]; exact HMZ.out.on (Below.refl _ wr).drew)
            obtain ⟨r1, r2⟩ := HXC.out wd (below_next HST0.out.below HBD'.out)
            clear hwd p1 p2
            go_wp2
            refine wp_region_still_tail 8 (by kernel_rfl) (by kernel_rfl) ?_
            simp only [List.take_succ_cons, List.take_zero, List.drop_succ_cons, List.drop_zero]
            repeat still_step
            refine wpStill_nil ?_
            change wpList _ _ _ _ _ wd.drew
            obtain ⟨we, hwe⟩ : ∃ X, X = wd.drew := ⟨_, rfl⟩
            rw [← hwe]
            have HBE := Lib.hid (show Below W0.heap.size W0 we by rw [hwe]; exact HBD'.out.drew)
            have HME := Lib.hid (show MapZ we m 200 (Dk : Nat) (cN (tS Dk)) by rw [hwe]; exact HMD.out.on (Below.refl _ wd).drew)
            clear hwe r1 r2
            go_wp2
            go_roundw
            case rel => exact ⟨k + 1, m, by go_num, by omega, by rw [HV1.out], rfl, by rw [HD1.out]; exact HME.out, HBE.out⟩
            case measure => simp [intOf]; omega
          · have t3 : (y != x) = true := by rw [bne_iff_ne]; exact fun e => he e.symm
            have HD1 := Lib.hid (show sgD a b (k + 1) = Dk + 1 by rw [HDN.out, if_neg he])
            by_cases hlt2 : x < y
            · have t4 : decide (x < y) = true := decide_eq_true hlt2
              have HV1 := Lib.hid (show ((sgV a b (k + 1) : Nat) : Int) = (Vk : Int) + 1 by rw [HVN.out, if_pos hlt2]; omega)
              clear he hlt2
              go_wp2
              refine wp_region_still_tail 8 (by kernel_rfl) (by kernel_rfl) ?_
              simp only [List.take_succ_cons, List.take_zero, List.drop_succ_cons, List.drop_zero]
              repeat still_step
              refine wpStill_nil ?_
              change wpList _ _ _ _ _ wr.drew
              obtain ⟨wd, hwd⟩ : ∃ X, X = wr.drew := ⟨_, rfl⟩
              rw [← hwd]
              have HBD' := Lib.hid (show Below W0.heap.size W0 wd by rw [hwd]; exact HBW.out.drew)
              have HMD := Lib.hid (show MapZ wd m 200 (Dk : Nat) (cN (tS Dk)) by rw [hwd]; exact HMZ.out.on (Below.refl _ wr).drew)
              obtain ⟨r1, r2⟩ := HXC.out wd (below_next HST0.out.below HBD'.out)
              clear hwd p1 p2
              go_wp2
              refine wp_region_still_tail 8 (by kernel_rfl) (by kernel_rfl) ?_
              simp only [List.take_succ_cons, List.take_zero, List.drop_succ_cons, List.drop_zero]
              repeat still_step
              refine wpStill_nil ?_
              change wpList _ _ _ _ _ wd.drew
              obtain ⟨we, hwe⟩ : ∃ X, X = wd.drew := ⟨_, rfl⟩
              rw [← hwe]
              have HBE := Lib.hid (show Below W0.heap.size W0 we by rw [hwe]; exact HBD'.out.drew)
              have HME := Lib.hid (show MapZ we m 200 (Dk : Nat) (cN (tS Dk)) by rw [hwe]; exact HMD.out.on (Below.refl _ wd).drew)
              clear hwe r1 r2
              have hz2 : MapZ (we.alloc (.map #[] 0)) we.heap.size 0 0 (fun _ => 0) := mapZ_made we
              obtain ⟨W2, hW2⟩ : ∃ W2, W2 = we.alloc (.map #[] 0) := ⟨_, rfl⟩
              rw [← hW2] at hz2
              have hb2 : Below we.heap.size we W2 := by rw [hW2]; exact (Below.refl _ we).alloc (Nat.le_refl _) _
              have hmz := HME.out.on hb2
              have hml := HME.out.lt
              have HNE := Lib.hid (show m ≠ we.heap.size by omega)
              have hm2l := hz2.lt
              have HB2 := Lib.hid (below_next HBE.out hb2)
              have HZ2 := Lib.hid (show MapZ W2 we.heap.size 0 ((Dk : Int) + 1) (gS (cN (tS Dk)) (fun _ => false)) by rw [gS_start]; exact hz2.mono (Nat.le_refl _) (by omega))
              have hmk := @run_makeMap Tryz.prog
              have hDk : Dk ≤ 59 := by omega
              have h2p : 2 ^ Dk ≤ 576460752303423488 := Nat.le_trans (Nat.pow_le_pow_right (by omega) hDk) (by decide)
              have HTB := Lib.hid (fun x => (show 0 ≤ cN (tS Dk) x ∧ cN (tS Dk) x ≤ 576460752303423488 from by have := tS_bd Dk x; omega))
              have HWF := Lib.hid (fun x (h : cN (tS Dk) x ≠ 0) => (show (Lit.int .i64 x).wf = true from by have := tS_nz h; exact wfZ (by omega) (by omega)))
              obtain ⟨m2, hm2⟩ : ∃ z, z = we.heap.size := ⟨_, rfl⟩
              have HM2 := Lib.hid (show W0.heap.size ≤ m2 by rw [hm2]; exact HBE.out.size)
              rw [← hm2] at HZ2 HNE hm2l
              obtain ⟨f, hf⟩ : ∃ f, f = cN (tS Dk) := ⟨_, rfl⟩
              have HFF := Lib.hid hf
              rw [← hf] at HZ2 HTB HWF hmz
              rw [hW2] at hmz
              clear hz2 hb2 h2p hf
              go_wp2_with (at_range; refine wpList_range_z rfl _ rfl m 200 (Dk : Nat) f rfl hmz ?_; intro w6 cnt0 hrg0 hcn0 hb6)
              go_frame
              rw [← hm2]
              rw [← hW2] at hrg0 hb6 ⊢
              have HZ6 := Lib.hid (HZ2.out.on hb6)
              have HRG0 := Lib.hid hrg0
              have HB6 := Lib.hid hb6
              clear hmz hrg0 hb6 hW2 hm2 HME HMD
              go_loopw [12, 13] (fun _ _ wr => ∃ done cnt n', RgZ wr m W2.heap.size 200 (Dk : Nat) f done cnt ∧ n' + 2 * cnt ≤ 400 ∧ MapZ wr m2 n' ((Dk : Int) + 1) (gS f done) ∧ Fr (fun b => b = m2 ∨ W2.heap.size ≤ b) W2 wr) (fun _ _ wr => wr.rangeLeft m W2.heap.size)
              case atStart => exact ⟨fun _ => false, cnt0, 0, HRG0.out, by omega, HZ6.out, (Fr.of_below HB6.out).mono fun i _ h => .inr h⟩
              case round =>
                obtain ⟨done, cnt, n', hrg, hcnt, hmz, hfr⟩ := hrel
                have HMZ2 := Lib.hid hmz
                have HFR := Lib.hid hfr
                clear hmz hfr HZ6 HRG0
                go_wp2_with (at_next; refine wpList_next_z rfl _ rfl m W2.heap.size 200 (Dk : Nat) f done cnt rfl hrg ?_ ?_)
                · intro hall
                  have hfn : gS f done = cN (tS (Dk + 1)) := by
                    funext x
                    rw [gS_all f done x (fun h => hall x h (HWF.out x h)) (fun h => hall (x - 1) h (HWF.out _ h)), tS_succ, HFF.out]
                  have HMN := Lib.hid (show MapZ wr m2 200 ((Dk + 1 : Nat) : Int) (cN (tS (Dk + 1))) by rw [← hfn]; exact HMZ2.out.small (by omega))
                  have HBN := Lib.hid (show Below W0.heap.size W0 wr from HB2.out.trans (HFR.out.below HB2.out.size fun i hi h => by have := HM2.out; have := HB2.out.size; omega))
                  clear hall hfn hrg
                  go_wp2
                  go_roundw
                  case rel => exact ⟨k + 1, m2, by go_num, by omega, by rw [HV1.out], rfl, by rw [HD1.out]; exact HMN.out, HBN.out⟩
                  case measure => simp [intOf]; omega
                · intro y w7 cnt1 hdy b0 b1 c0 c1 hrg7 hlt7 hf7 hs7 hen
                  have hmz7 := HMZ2.out.fr hf7 (by omega)
                  have hFb := HTB.out y
                  have hGb := gS_bd (done := done) HTB.out y
                  have hHb := gS_bd (done := done) HTB.out (y + 1)
                  have hstep := updZ_two f done y hdy
                  have hlook := lookZ_run hmz7 y (by omega) (by omega)
                  obtain ⟨F, hF⟩ : ∃ F, F = f y := ⟨_, rfl⟩
                  obtain ⟨G, hG⟩ : ∃ G, G = gS f done y := ⟨_, rfl⟩
                  obtain ⟨H, hH⟩ : ∃ G, G = gS f done (y + 1) := ⟨_, rfl⟩
                  rw [← hF] at hen hFb
                  rw [← hG] at hGb hlook
                  rw [← hH] at hHb
                  rw [← hF, ← hG, ← hH] at hstep
                  rw [← hF]
                  obtain ⟨hput, hpm, hpg⟩ := putZ_run2 hmz7 (by omega) y (G + F) (by omega) (by omega) (by omega) (by omega) (by omega)
                  have hlook2 := lookZ_run hpm (y + 1) (by omega) (by omega)
                  rw [show updZ (gS f done) y (G + F) (y + 1) = H by unfold updZ; rw [if_neg (by omega), hH]] at hlook2
                  obtain ⟨hput2, hpm2, hpg2⟩ := putZ_run2 hpm (by omega) (y + 1) (H + F) (by omega) (by omega) (by omega) (by omega) (by omega)
                  rw [hstep] at hpm2
                  obtain ⟨W8, hW8⟩ : ∃ W, W = putZ m2 y (G + F) w7 := ⟨_, rfl⟩
                  rw [← hW8] at hput hpg hlook2 hput2 hpm2 hpg2
                  obtain ⟨W9, hW9⟩ : ∃ W, W = putZ m2 (y + 1) (H + F) W8 := ⟨_, rfl⟩
                  rw [← hW9] at hput2 hpm2 hpg2
                  have hfp : Fr (fun b => b = m2) w7 W9 := ((Fr.of_grown hpg).mono fun i _ h => by simpa using h).trans (Fr.of_grown hpg2) fun i _ h => by simpa using h
                  have hrg8 := hrg7.fr hfp HNE.out (by have := hrg7.lt; have := HB6.out.size; omega)
                  have HRG8 := Lib.hid hrg8
                  have HPM := Lib.hid hpm2
                  have HFR8 := Lib.hid (show Fr (fun b => b = m2 ∨ W2.heap.size ≤ b) W2 W9 from (HFR.out.trans (hf7.mono (may' := fun b => b = m2 ∨ W2.heap.size ≤ b) fun i _ h => by omega) (fun i _ h => h)).trans (hfp.mono (may' := fun b => b = m2 ∨ W2.heap.size ≤ b) fun i _ h => .inl h) (fun i _ h => h))
                  have HLE := Lib.hid (And.intro hrg.left hrg8.left)
                  have hF0 := hFb.1
                  have hF1 := hFb.2
                  have hG0 := hGb.1
                  have hG1 := hGb.2
                  have hH0 := hHb.1
                  have hH1 := hHb.2
                  have q5 : IntKind.i64.wrap (y + 1) = y + 1 := IntWalk.i64_in _ (by omega)
                  have q6 : IntKind.i64.wrap (G + F) = G + F := IntWalk.i64_in _ (by omega)
                  have q7 : IntKind.i64.wrap (H + F) = H + F := IntWalk.i64_in _ (by omega)
                  clear hstep hF hG hH hpm hpg hpm2 hpg2 hfp hrg8 hmz7 hf7 hrg7 hdy hrg hFb hGb hHb hW8 hW9
                  go_wp2
                  go_roundw
                  case rel => exact ⟨_, cnt1, n' + 1 + 1, HRG8.out, by omega, HPM.out, HFR8.out⟩
                  case measure => rw [HLE.out.1, HLE.out.2]; exact hlt7
            · have t4 : decide (x < y) = false := decide_eq_false hlt2
              have HV1 := Lib.hid (show ((sgV a b (k + 1) : Nat) : Int) = (Vk : Int) by rw [HVN.out, if_neg hlt2]; omega)
              clear he hlt2
              go_wp2
              refine wp_region_still_tail 8 (by kernel_rfl) (by kernel_rfl) ?_
              simp only [List.take_succ_cons, List.take_zero, List.drop_succ_cons, List.drop_zero]
              repeat still_step
              refine wpStill_nil ?_
              change wpList _ _ _ _ _ wr.drew
              obtain ⟨wd, hwd⟩ : ∃ X, X = wr.drew := ⟨_, rfl⟩
              rw [← hwd]
              have HBD' := Lib.hid (show Below W0.heap.size W0 wd by rw [hwd]; exact HBW.out.drew)
              have HMD := Lib.hid (show MapZ wd m 200 (Dk : Nat) (cN (tS Dk)) by rw [hwd]; exact HMZ.out.on (Below.refl _ wr).drew)
              obtain ⟨r1, r2⟩ := HXC.out wd (below_next HST0.out.below HBD'.out)
              clear hwd p1 p2
              go_wp2
              refine wp_region_still_tail 8 (by kernel_rfl) (by kernel_rfl) ?_
              simp only [List.take_succ_cons, List.take_zero, List.drop_succ_cons, List.drop_zero]
              repeat still_step
              refine wpStill_nil ?_
              change wpList _ _ _ _ _ wd.drew
              obtain ⟨we, hwe⟩ : ∃ X, X = wd.drew := ⟨_, rfl⟩
              rw [← hwe]
              have HBE := Lib.hid (show Below W0.heap.size W0 we by rw [hwe]; exact HBD'.out.drew)
              have HME := Lib.hid (show MapZ we m 200 (Dk : Nat) (cN (tS Dk)) by rw [hwe]; exact HMD.out.on (Below.refl _ wd).drew)
              clear hwe r1 r2
              have hz2 : MapZ (we.alloc (.map #[] 0)) we.heap.size 0 0 (fun _ => 0) := mapZ_made we
              obtain ⟨W2, hW2⟩ : ∃ W2, W2 = we.alloc (.map #[] 0) := ⟨_, rfl⟩
              rw [← hW2] at hz2
              have hb2 : Below we.heap.size we W2 := by rw [hW2]; exact (Below.refl _ we).alloc (Nat.le_refl _) _
              have hmz := HME.out.on hb2
              have hml := HME.out.lt
              have HNE := Lib.hid (show m ≠ we.heap.size by omega)
              have hm2l := hz2.lt
              have HB2 := Lib.hid (below_next HBE.out hb2)
              have HZ2 := Lib.hid (show MapZ W2 we.heap.size 0 ((Dk : Int) + 1) (gS (cN (tS Dk)) (fun _ => false)) by rw [gS_start]; exact hz2.mono (Nat.le_refl _) (by omega))
              have hmk := @run_makeMap Tryz.prog
              have hDk : Dk ≤ 59 := by omega
              have h2p : 2 ^ Dk ≤ 576460752303423488 := Nat.le_trans (Nat.pow_le_pow_right (by omega) hDk) (by decide)
              have HTB := Lib.hid (fun x => (show 0 ≤ cN (tS Dk) x ∧ cN (tS Dk) x ≤ 576460752303423488 from by have := tS_bd Dk x; omega))
              have HWF := Lib.hid (fun x (h : cN (tS Dk) x ≠ 0) => (show (Lit.int .i64 x).wf = true from by have := tS_nz h; exact wfZ (by omega) (by omega)))
              obtain ⟨m2, hm2⟩ : ∃ z, z = we.heap.size := ⟨_, rfl⟩
              have HM2 := Lib.hid (show W0.heap.size ≤ m2 by rw [hm2]; exact HBE.out.size)
              rw [← hm2] at HZ2 HNE hm2l
              obtain ⟨f, hf⟩ : ∃ f, f = cN (tS Dk) := ⟨_, rfl⟩
              have HFF := Lib.hid hf
              rw [← hf] at HZ2 HTB HWF hmz
              rw [hW2] at hmz
              clear hz2 hb2 h2p hf
              go_wp2_with (at_range; refine wpList_range_z rfl _ rfl m 200 (Dk : Nat) f rfl hmz ?_; intro w6 cnt0 hrg0 hcn0 hb6)
              go_frame
              rw [← hm2]
              rw [← hW2] at hrg0 hb6 ⊢
              have HZ6 := Lib.hid (HZ2.out.on hb6)
              have HRG0 := Lib.hid hrg0
              have HB6 := Lib.hid hb6
              clear hmz hrg0 hb6 hW2 hm2 HME HMD
              go_loopw [12, 13] (fun _ _ wr => ∃ done cnt n', RgZ wr m W2.heap.size 200 (Dk : Nat) f done cnt ∧ n' + 2 * cnt ≤ 400 ∧ MapZ wr m2 n' ((Dk : Int) + 1) (gS f done) ∧ Fr (fun b => b = m2 ∨ W2.heap.size ≤ b) W2 wr) (fun _ _ wr => wr.rangeLeft m W2.heap.size)
              case atStart => exact ⟨fun _ => false, cnt0, 0, HRG0.out, by omega, HZ6.out, (Fr.of_below HB6.out).mono fun i _ h => .inr h⟩
              case round =>
                obtain ⟨done, cnt, n', hrg, hcnt, hmz, hfr⟩ := hrel
                have HMZ2 := Lib.hid hmz
                have HFR := Lib.hid hfr
                clear hmz hfr HZ6 HRG0
                go_wp2_with (at_next; refine wpList_next_z rfl _ rfl m W2.heap.size 200 (Dk : Nat) f done cnt rfl hrg ?_ ?_)
                · intro hall
                  have hfn : gS f done = cN (tS (Dk + 1)) := by
                    funext x
                    rw [gS_all f done x (fun h => hall x h (HWF.out x h)) (fun h => hall (x - 1) h (HWF.out _ h)), tS_succ, HFF.out]
                  have HMN := Lib.hid (show MapZ wr m2 200 ((Dk + 1 : Nat) : Int) (cN (tS (Dk + 1))) by rw [← hfn]; exact HMZ2.out.small (by omega))
                  have HBN := Lib.hid (show Below W0.heap.size W0 wr from HB2.out.trans (HFR.out.below HB2.out.size fun i hi h => by have := HM2.out; have := HB2.out.size; omega))
                  clear hall hfn hrg
                  go_wp2
                  go_roundw
                  case rel => exact ⟨k + 1, m2, by go_num, by omega, by rw [HV1.out], rfl, by rw [HD1.out]; exact HMN.out, HBN.out⟩
                  case measure => simp [intOf]; omega
                · intro y w7 cnt1 hdy b0 b1 c0 c1 hrg7 hlt7 hf7 hs7 hen
                  have hmz7 := HMZ2.out.fr hf7 (by omega)
                  have hFb := HTB.out y
                  have hGb := gS_bd (done := done) HTB.out y
                  have hHb := gS_bd (done := done) HTB.out (y + 1)
                  have hstep := updZ_two f done y hdy
                  have hlook := lookZ_run hmz7 y (by omega) (by omega)
                  obtain ⟨F, hF⟩ : ∃ F, F = f y := ⟨_, rfl⟩
                  obtain ⟨G, hG⟩ : ∃ G, G = gS f done y := ⟨_, rfl⟩
                  obtain ⟨H, hH⟩ : ∃ G, G = gS f done (y + 1) := ⟨_, rfl⟩
                  rw [← hF] at hen hFb
                  rw [← hG] at hGb hlook
                  rw [← hH] at hHb
                  rw [← hF, ← hG, ← hH] at hstep
                  rw [← hF]
                  obtain ⟨hput, hpm, hpg⟩ := putZ_run2 hmz7 (by omega) y (G + F) (by omega) (by omega) (by omega) (by omega) (by omega)
                  have hlook2 := lookZ_run hpm (y + 1) (by omega) (by omega)
                  rw [show updZ (gS f done) y (G + F) (y + 1) = H by unfold updZ; rw [if_neg (by omega), hH]] at hlook2
                  obtain ⟨hput2, hpm2, hpg2⟩ := putZ_run2 hpm (by omega) (y + 1) (H + F) (by omega) (by omega) (by omega) (by omega) (by omega)
                  rw [hstep] at hpm2
                  obtain ⟨W8, hW8⟩ : ∃ W, W = putZ m2 y (G + F) w7 := ⟨_, rfl⟩
                  rw [← hW8] at hput hpg hlook2 hput2 hpm2 hpg2
                  obtain ⟨W9, hW9⟩ : ∃ W, W = putZ m2 (y + 1) (H + F) W8 := ⟨_, rfl⟩
                  rw [← hW9] at hput2 hpm2 hpg2
                  have hfp : Fr (fun b => b = m2) w7 W9 := ((Fr.of_grown hpg).mono fun i _ h => by simpa using h).trans (Fr.of_grown hpg2) fun i _ h => by simpa using h
                  have hrg8 := hrg7.fr hfp HNE.out (by have := hrg7.lt; have := HB6.out.size; omega)
                  have HRG8 := Lib.hid hrg8
                  have HPM := Lib.hid hpm2
                  have HFR8 := Lib.hid (show Fr (fun b => b = m2 ∨ W2.heap.size ≤ b) W2 W9 from (HFR.out.trans (hf7.mono (may' := fun b => b = m2 ∨ W2.heap.size ≤ b) fun i _ h => by omega) (fun i _ h => h)).trans (hfp.mono (may' := fun b => b = m2 ∨ W2.heap.size ≤ b) fun i _ h => .inl h) (fun i _ h => h))
                  have HLE := Lib.hid (And.intro hrg.left hrg8.left)
                  have hF0 := hFb.1
                  have hF1 := hFb.2
                  have hG0 := hGb.1
                  have hG1 := hGb.2
                  have hH0 := hHb.1
                  have hH1 := hHb.2
                  have q5 : IntKind.i64.wrap (y + 1) = y + 1 := IntWalk.i64_in _ (by omega)
                  have q6 : IntKind.i64.wrap (G + F) = G + F := IntWalk.i64_in _ (by omega)
                  have q7 : IntKind.i64.wrap (H + F) = H + F := IntWalk.i64_in _ (by omega)
                  clear hstep hF hG hH hpm hpg hpm2 hpg2 hfp hrg8 hmz7 hf7 hrg7 hdy hrg hFb hGb hHb hW8 hW9
                  go_wp2
                  go_roundw
                  case rel => exact ⟨_, cnt1, n' + 1 + 1, HRG8.out, by omega, HPM.out, HFR8.out⟩
                  case measure => rw [HLE.out.1, HLE.out.2]; exact hlt7
        · obtain rfl : k = a.length := by omega
          have HRK := Lib.hid (rRanked_any (sgV a b a.length : Nat) m 200 _ (tS (sgD a b a.length)) wr HMZ.out (fun x hx => by have := tS_nz hx; exact wfZ (by omega) (by omega)) (by
            rw [tS_len]
            exact Nat.le_trans (Nat.pow_le_pow_right (by omega) (show sgD a b a.length ≤ 60 by omega)) (by decide)))
          have HVF := HWE
          unfold sgR at HVF
          obtain ⟨V, hV⟩ : ∃ z, z = sgV a b a.length := ⟨_, rfl⟩
          rw [← hV] at HRK HVF ⊢
          obtain ⟨L1, hL1⟩ : ∃ z, z = cntLe (V : Nat) (tS (sgD a b a.length)) := ⟨_, rfl⟩
          obtain ⟨L2, hL2⟩ : ∃ z, z = cntGe (V : Nat) (tS (sgD a b a.length)) := ⟨_, rfl⟩
          obtain ⟨L3, hL3⟩ : ∃ z, z = (tS (sgD a b a.length)).length := ⟨_, rfl⟩
          rw [← hL1, ← hL2, ← hL3] at HRK HVF
          clear hL1 hL2 hL3 hV hlt hvd hdk
          go_wp2_with fail
          (with_reducible refine (HRK.out).mono ?_)
          rintro e w6 ⟨rfl, hb6⟩
          have hst := HST0.out.call (below_next HBW.out hb6)
          have HBY := Lib.hid hst.below
          have b0 : w6.cell? ⟨w.heap.size, 0, none⟩ = some (.int .i64 0) := hst.cell 0 0 rfl rfl
          have b1 : w6.cell? ⟨w.heap.size, 1, none⟩ = some (.int .i64 0) := hst.cell 0 1 rfl rfl
          have b2 : w6.cell? ⟨w.heap.size, 2, none⟩ = some (.int .i64 0) := hst.cell 0 2 rfl rfl
          have b3 : w6.cell? ⟨w.heap.size, 3, none⟩ = some (.int .i64 0) := hst.cell 0 3 rfl rfl
          have z0 := hst.frozen 0 0 rfl
          have z1 := hst.frozen 0 1 rfl
          have z2 := hst.frozen 0 2 rfl
          have z3 := hst.frozen 0 3 rfl
          have hlt := hst.lt 0 rfl
          have HBF := Lib.hid (fun x y u v => ((((HBY.out.setCell (p := ⟨w.heap.size, 0, none⟩) (Nat.le_refl _) x).setCell (p := ⟨w.heap.size, 1, none⟩) (Nat.le_refl _) y).setCell (p := ⟨w.heap.size, 2, none⟩) (Nat.le_refl _) u).setCell (p := ⟨w.heap.size, 3, none⟩) (Nat.le_refl _) v))
          clear hst hb6
          go_wp2
          refine bodyPost_ret (v := .tuple #[.agg #[.int .i64 (V : Nat), .int .i64 (L1 : Nat), .int .i64 (L2 : Nat), .int .i64 (L3 : Nat)], .int .i64 0]) (by simp [results, Tryz.results14, go_sem, b0, b1, b2, b3]) rfl ⟨by rw [HVF.out], HBF.out _ _ _ _⟩
    · rw [if_neg ho2] at HC2 hcn
      have HWE := Lib.hid (show sgW a b = .tuple #[rkZ, .int .i64 9] by rw [sgW_bad (by rw [hcn]; decide), hcn])
      clear hf hs ho ho2 hcn hab
      go_enter Tryz.func14, Tryz.ntmps14
      go_upto_region 1 with fail
      rw [← hW0]
      clear hW0
      go_wp2_with fail
      (with_reducible refine (HC1.out W0 HST0.out.below).mono ?_)
      rintro e w1 ⟨rfl, hb1⟩
      have HB1 := Lib.hid hb1
      clear hb1
      go_wp2_with fail
      (with_reducible refine (HC2.out w1 (below_next HST0.out.below HB1.out)).mono ?_)
      rintro e w2 ⟨rfl, hb2⟩
      have HB2 := Lib.hid (below_next HB1.out hb2)
      clear hb2
      have hst1 := HST0.out.call HB2.out
      have k0 : _ = some (Value.int .i64 0) := hst1.cell 0 0 rfl rfl
      have k1 : _ = some (Value.int .i64 0) := hst1.cell 0 1 rfl rfl
      have k2 : _ = some (Value.int .i64 0) := hst1.cell 0 2 rfl rfl
      have k3 : _ = some (Value.int .i64 0) := hst1.cell 0 3 rfl rfl
      have z0 := hst1.frozen 0 0 rfl
      have z1 := hst1.frozen 0 1 rfl
      have z2 := hst1.frozen 0 2 rfl
      have z3 := hst1.frozen 0 3 rfl
      have hlt := hst1.lt 0 rfl
      have HBF := Lib.hid (fun x y u v => ((((below_next HST0.out.below HB2.out).setCell (p := ⟨w.heap.size, 0, none⟩) (Nat.le_refl _) x).setCell (p := ⟨w.heap.size, 1, none⟩) (Nat.le_refl _) y).setCell (p := ⟨w.heap.size, 2, none⟩) (Nat.le_refl _) u).setCell (p := ⟨w.heap.size, 3, none⟩) (Nat.le_refl _) v)
      clear hst1
      go_wp2
      refine bodyPost_ret (v := .tuple #[.agg #[.int .i64 0, .int .i64 0, .int .i64 0, .int .i64 0], .int .i64 9]) (by simp [results, Tryz.results14, go_sem, k0, k1, k2, k3]) rfl ⟨by rw [HWE.out]; rfl, HBF.out _ _ _ _⟩
  · rw [if_neg ho] at HC1
    have hcn2 : sgC a b = 9 := by
      rw [hcn, if_neg]
      intro h
      rw [Bool.and_eq_true] at h
      exact ho h.1
    have HWE := Lib.hid (show sgW a b = .tuple #[rkZ, .int .i64 9] by rw [sgW_bad (by rw [hcn2]; decide), hcn2])
    clear hf hs ho hcn hcn2 hab HC2
    go_enter Tryz.func14, Tryz.ntmps14
    go_upto_region 1 with fail
    rw [← hW0]
    clear hW0
    go_wp2_with fail
    (with_reducible refine (HC1.out W0 HST0.out.below).mono ?_)
    rintro e w1 ⟨rfl, hb1⟩
    have HB1 := Lib.hid hb1
    clear hb1
    have hst1 := HST0.out.call HB1.out
    have k0 : _ = some (Value.int .i64 0) := hst1.cell 0 0 rfl rfl
    have k1 : _ = some (Value.int .i64 0) := hst1.cell 0 1 rfl rfl
    have k2 : _ = some (Value.int .i64 0) := hst1.cell 0 2 rfl rfl
    have k3 : _ = some (Value.int .i64 0) := hst1.cell 0 3 rfl rfl
    have z0 := hst1.frozen 0 0 rfl
    have z1 := hst1.frozen 0 1 rfl
    have z2 := hst1.frozen 0 2 rfl
    have z3 := hst1.frozen 0 3 rfl
    have hlt := hst1.lt 0 rfl
    have HBF := Lib.hid (fun x y u v => ((((below_next HST0.out.below HB1.out).setCell (p := ⟨w.heap.size, 0, none⟩) (Nat.le_refl _) x).setCell (p := ⟨w.heap.size, 1, none⟩) (Nat.le_refl _) y).setCell (p := ⟨w.heap.size, 2, none⟩) (Nat.le_refl _) u).setCell (p := ⟨w.heap.size, 3, none⟩) (Nat.le_refl _) v)
    clear hst1
    go_wp2
    refine bodyPost_ret (v := .tuple #[.agg #[.int .i64 0, .int .i64 0, .int .i64 0, .int .i64 0], .int .i64 9]) (by simp [results, Tryz.results14, go_sem, k0, k1, k2, k3]) rfl ⟨by rw [HWE.out]; rfl, HBF.out _ _ _ _⟩
end Go.Proofs.YtnapdhfkgfjjfaaGreatDoor
