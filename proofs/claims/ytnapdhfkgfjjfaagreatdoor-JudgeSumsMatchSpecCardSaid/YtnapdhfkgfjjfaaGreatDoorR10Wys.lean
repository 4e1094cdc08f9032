/- Package dynamometerref10: ways. -/
import Derived.Test.YtnapdhfkgfjjfaaGreatDoorG34
import Derived.StillTailTactics
namespace Go.Proofs.YtnapdhfkgfjjfaaGreatDoor
open Go Go.RowKit Go.Proofs

theorem zeroM_size : (Value.map none).cells.size = 1 := rfl
set_option maxHeartbeats 8000000 in
set_option maxRecDepth 100000 in
theorem rWays_any (A : Option Addr) (c K : Nat) (Wt : List Int) (M : Int) (w : World) (hr : Rd w 0 w.heap.size 1 A Wt.length (ints Wt)) (hl : Wt.length ≤ 40) (hK : K ≤ 40) (hM : 0 ≤ M) (hM2 : M ≤ 1000000000000) (hW : ∀ x ∈ Wt, -M ≤ x ∧ x ≤ M) :
    Calls Tryz.prog 35 #[.slice A Wt.length c, .int .i64 (K : Nat)] w fun e w' => ∃ m, e = .returned (.map (some m)) ∧ w.heap.size ≤ m ∧ MapZ w' m (2 ^ Wt.length) (MB M Wt.length) (cN (chs Wt K)) ∧ Below w.heap.size w w' := by
  obtain ⟨i0, hi0, hz0, hz1, hz2⟩ := info_parts infoMp
  have HR := Lib.hid hr
  have HWF := Lib.hid (fun j i x => wTab_wfM hM hM2 hW hl j i x)
  have HTB := Lib.hid (fun j i x => wTab_bd Wt j i x hl)
  have HXB := Lib.hid hW
  have HMB := Lib.hid (fun j (h : j ≤ 40) => MB_le hM j h)
  have HMS := Lib.hid (fun j => MB_succ M j)
  have HW0 := Lib.hid (show MapZ (w.alloc (.map #[] 0)) w.heap.size 0 0 (fun _ => 0) from mapZ_made w)
  obtain ⟨hput, hpm, hpg⟩ := putZ_run2 HW0.out (by omega) 0 1 (by omega) (by omega) (by omega) (by omega) (by omega)
  have hs0 : w.heap.size < (w.alloc (.map #[] 0)).heap.size := by simp
  obtain ⟨W1, hW1⟩ : ∃ W, W = putZ w.heap.size 0 1 (w.alloc (.map #[] 0)) := ⟨_, rfl⟩
  rw [← hW1] at hpm hpg
  have hb1 : Below w.heap.size w W1 := ((Below.refl _ w).alloc (Nat.le_refl _) _).trans ((Fr.of_grown hpg).below (by simp) (fun i hi hh => by simp at hh; omega))
  have hpl := hpm.lt
  have HT1 := Lib.hid (TabM.one (W := Wt) (M := M) (W1.ownsRow_lit (base := w.heap.size) (e := 55) (size := 1) #[.map (some w.heap.size)] 1 hb1.size (by unfold maxLen; omega) rfl) (Nat.le_refl _) (hpm.on ((Below.refl _ W1).alloc (Nat.le_refl _) _)) K)
  have HB1 := Lib.hid (show Below w.heap.size w (W1.alloc (.cells #[.map (some w.heap.size)] 55)) from hb1.trans ((Below.refl _ W1).alloc hb1.size _))
  have hmm := @run_makeMap Tryz.prog
  clear hr hW hpm hpg hb1 hpl hs0
  go_enter Tryz.func35, Tryz.ntmps35
  go_wp2
  rw [← hW1]
  clear hW1 hput
  go_loopw [5, 6] (fun v iv wr => ∃ (k : Nat) (ms : List Nat), iv = .int .i64 (k : Nat) ∧ k ≤ K ∧ ms.length = k + 1 ∧ TabM wr w.heap.size v ms Wt M 0 K ∧ Below w.heap.size w wr) (fun _ iv _ => K - (intOf iv).toNat)
  case atStart => exact ⟨0, [w.heap.size], rfl, Nat.zero_le _, rfl, HT1.out, HB1.out⟩
  case round =>
    obtain ⟨k, ms, rfl, hkK, hmk0, htab, hbw⟩ := hrel
    have HBW := Lib.hid hbw
    have HMK := Lib.hid hmk0
    have hsz := hbw.size
    have hm0 : 0 < ms.length := by omega
    have hml : ms.length ≤ K + 1 := by omega
    clear hmk0
    by_cases hlt : k < K
    · have htb := htab.on (w' := wr.alloc (.map #[] 0)) ((Below.refl _ wr).alloc (Nat.le_refl _) _)
      have htb2 := htb.on (w' := (wr.alloc (.map #[] 0)).alloc (.cells #[.map (some wr.heap.size)] 55)) ((Below.refl _ _).alloc (Nat.le_refl _) _)
      have hz2' : MapZ ((wr.alloc (.map #[] 0)).alloc (.cells #[.map (some wr.heap.size)] 55)) wr.heap.size 0 0 (fun _ => 0) := (mapZ_made wr).on ((Below.refl _ _).alloc (Nat.le_refl _) _)
      have hnin : wr.heap.size ∉ ms := fun hm => by
        obtain ⟨k, hk⟩ := List.getElem?_of_mem hm
        have := ((htab.2.2.2 k _ hk).2 (by have := (List.getElem?_eq_some_iff.1 hk).1; omega)).lt
        omega
      have HTB2 := Lib.hid htb2
      have HZ2 := Lib.hid hz2'
      have HNI := Lib.hid hnin
      have HBA := Lib.hid (show Below w.heap.size w ((wr.alloc (.map #[] 0)).alloc (.cells #[.map (some wr.heap.size)] 55)) from (below_next hbw ((Below.refl _ wr).alloc (Nat.le_refl _) _)).trans ((Below.refl _ _).alloc (by simp; omega) _))
      have hmk : ms.length ≤ K := by have := HMK.out; omega
      clear htab hbw htb htb2 hz2' hnin
      go_wp2_with (at_builtin; refine wpList_append_own _ rfl (.tmp 19) (.tmp 21) 54 rfl w.heap.size 55 i0 _ 1 8 Tryz.underlying54 hi0 hz0 hz1 hz2 zeroM_size (by decide) _ _ _ rfl HTB2.out.1 ⟨wr.heap.size + 1, 0, none⟩ 1 1 [.map (some wr.heap.size)] rfl rfl ?c0 (by simp [Value.oneCell']) ?c3 ?c4 ?c5 ?_)
      case c0 =>
        have := cell_one_new (wr.alloc (.map #[] 0)) (.map (some wr.heap.size)) 55
        simpa using this
      case c3 => unfold maxLen; omega
      case c4 => omega
      case c5 => simp; omega
      intro v' w6 hown6 hgr6 _
      have HT6 := Lib.hid (HTB2.out.app hown6 hgr6 HZ2.out hsz HNI.out hm0 hmk)
      have HB6 := Lib.hid (show Below w.heap.size w w6 from HBA.out.trans ((Fr.of_grown hgr6).below (B := w.heap.size) HBA.out.size (fun i hi hm => by have := (ownsRow_block HTB2.out.1 hm).1; omega)))
      clear hown6 hgr6
      go_wp2
      go_roundw
      case rel => exact ⟨k + 1, ms ++ [wr.heap.size], by go_num, by omega, by rw [List.length_append, List.length_singleton, HMK.out], HT6.out, HB6.out⟩
      case measure => simp [intOf]; omega
    · have hml2 : ms.length = K + 1 := by have := HMK.out; omega
      obtain ⟨g, cap, rfl, hg0, _⟩ := ownsRow_some htab.1 hm0
      have HML := Lib.hid hml2
      have hNK : K < ms.length := by omega
      have HT2 := Lib.hid htab
      clear htab hbw HT1 HB1 hml2 hmm
      go_wp2
      clear hlt
      obtain ⟨N, hN⟩ : ∃ N, N = ms.length := ⟨_, rfl⟩
      rw [← hN] at hNK ⊢
      have HN := Lib.hid hN
      clear hN hm0 hml
      go_loopw [7] (fun jv wr => ∃ j : Nat, jv = .int .i64 (j : Nat) ∧ j ≤ Wt.length ∧ TabM wr w.heap.size (.slice (some ⟨g, 0, none⟩) N cap) ms Wt M j K ∧ Below w.heap.size w wr) (fun jv _ => Wt.length - (intOf jv).toNat)
      case atStart => exact ⟨0, rfl, Nat.zero_le _, by rw [HN.out]; exact HT2.out, HBW.out⟩
      case round =>
        obtain ⟨j, rfl, hj, htab, hbw⟩ := hrel
        have HBW1 := Lib.hid hbw
        by_cases hlt : j < Wt.length
        · obtain ⟨b, o, u, rfl, hbB, hu, hc⟩ := (HR.out.old hbw).at1 hlt
          obtain ⟨S, hS, rfl⟩ := ints_get hu
          have hbw0 : b < w.heap.size := by
            obtain ⟨b', o', e', h1, _⟩ := HR.out.2 (by omega)
            simp at e'
            omega
          have HCX := Lib.hid (fun W (hB : Below w.heap.size wr W) => show W.cell? ⟨b, o + j, none⟩ = some (.int .i64 S) from (World.cell?_of_block (hB.block b hbw0)).trans hc)
          have hsb := HXB.out S (List.mem_of_getElem? hS)
          have hs0 := hsb.1
          have hs1 := hsb.2
          have HWS := Lib.hid hS
          have HT3 := Lib.hid htab
          obtain ⟨WJ, rfl⟩ : ∃ W : World, W = wr := ⟨_, rfl⟩
          clear hsb hu hS hc htab hbw
          go_wp2
          go_loopw [8] (fun iv wr => ∃ i : Nat, iv = .int .i64 (i : Nat) ∧ i ≤ K ∧ TabM wr w.heap.size (.slice (some ⟨g, 0, none⟩) N cap) ms Wt M j i ∧ Below w.heap.size WJ wr) (fun iv _ => (intOf iv).toNat)
          case atStart => exact ⟨K, rfl, Nat.le_refl _, HT3.out, Below.refl _ _⟩
          case round =>
            obtain ⟨i, rfl, hi, htab, hbw⟩ := hrel
            by_cases hip : 0 < i
            · obtain ⟨i', hi'⟩ : ∃ i', i = i' + 1 := ⟨i - 1, by omega⟩
              have HI := Lib.hid hi'
              have htab : TabM wr w.heap.size (.slice (some ⟨g, 0, none⟩) N cap) ms Wt M j (i' + 1) := hi' ▸ htab
              obtain ⟨m1, hm1'⟩ : ∃ m, ms[i']? = some m := ⟨_, List.getElem?_eq_getElem (by rw [HML.out]; omega)⟩
              obtain ⟨m2, hm2'⟩ : ∃ m, ms[i' + 1]? = some m := ⟨_, List.getElem?_eq_getElem (by rw [HML.out]; omega)⟩
              have hz1' := (htab.2.2.2 i' m1 hm1').2 (by omega)
              have hz2' := (htab.2.2.2 (i' + 1) m2 hm2').2 (Nat.le_refl _)
              have hne : m1 ≠ m2 := fun e => by have := nodup_at htab.2.1 hm1' (e ▸ hm2'); omega
              have hl1 := hz1'.lt
              have hl2 := hz2'.lt
              have hg2 : g ≠ m2 := fun e => hz2'.neRow htab.1 (by rw [e]; rfl)
              have hgl := (ownsRow_block htab.1 (i := g) rfl).2
              have hm2g := htab.2.2.1 m2 (List.mem_of_getElem? hm2')
              have hcr : ∀ {W : World} {k m : Nat}, TabM W w.heap.size (.slice (some ⟨g, 0, none⟩) N cap) ms Wt M j (i' + 1) → ms[k]? = some m → W.cell? ⟨g, k, none⟩ = some (.map (some m)) := fun {W k m} ht hk => by
                have h0 := ht.1
                rw [← HN.out] at h0
                rw [h0.cellAt k (by have := (List.getElem?_eq_some_iff.1 hk).1; rw [HN.out]; omega)]
                exact msV_get hk
              have c1 : wr.cell? ⟨g, i', none⟩ = some (.map (some m1)) := hcr htab hm1'
              have HCR := Lib.hid (show wr.cell? ⟨g, i' + 1, none⟩ = some (.map (some m2)) from hcr htab hm2')
              have HTB1 := Lib.hid htab
              have HBW2 := Lib.hid hbw
              have HM2 := Lib.hid hm2'
              have hkk : (i : Int) - 1 = (i' : Int) := by omega
              have hia : i' < K := by omega
              have hp1 : 2 ^ (j + 1) = 2 ^ j + 2 ^ j := by rw [Nat.pow_succ]; omega
              have hp2 : 2 ^ (j + 1) ≤ 1099511627776 := two_pow (by omega)
              obtain ⟨P, hP⟩ : ∃ P, P = 2 ^ j := ⟨_, rfl⟩
              obtain ⟨Q2, hQ2⟩ : ∃ P, P = 2 ^ (j + 1) := ⟨_, rfl⟩
              have hb0 := HMB.out j (by omega)
              have hb2 := HMB.out (j + 1) (by omega)
              have hbs := HMS.out j
              obtain ⟨B1, hB1⟩ : ∃ P, P = MB M j := ⟨_, rfl⟩
              obtain ⟨B2, hB2⟩ : ∃ P, P = MB M (j + 1) := ⟨_, rfl⟩
              rw [← hP, ← hQ2] at hp1
              rw [← hQ2] at hp2
              rw [← hP, ← hB1] at hz1' hz2'
              rw [← hB1] at hb0 hbs
              rw [← hB2] at hb2 hbs
              have HQ2 := Lib.hid hQ2
              have HB2 := Lib.hid hB2
              have HBS := Lib.hid hbs
              have hbs1 : B1 + M ≤ B2 := by omega
              have hb20 := hb2.1
              have hb21 := hb2.2
              have hb10 := hb0.1
              clear htab hbw hm1' hm2' hP hQ2 hi' hB1 hB2 hcr hbs hb2 hb0
              go_wp2_with (at_range; refine wpList_range_z rfl _ rfl m1 P B1 (wTab Wt j i') rfl hz1' ?_; intro w6 cnt0 hrg0 hcn0 hb6)
              go_frame
              have HZ2 := Lib.hid (hz2'.on hb6)
              have HF6 := Lib.hid (show Fr (fun b => b = m2 ∨ wr.heap.size ≤ b) wr w6 from (Fr.of_below hb6).mono fun i _ h => .inr h)
              have HRG0 := Lib.hid hrg0
              obtain ⟨WI, rfl⟩ : ∃ W : World, W = wr := ⟨_, rfl⟩
              clear hz1' hz2' hb6 hrg0 c1
              go_loopw [9, 10] (fun _ _ wr => ∃ done cnt n', RgZ wr m1 WI.heap.size P B1 (wTab Wt j i') done cnt ∧ n' + cnt ≤ Q2 ∧ MapZ wr m2 n' B2 (gZ (wTab Wt j (i' + 1)) (wTab Wt j i') S done) ∧ Fr (fun b => b = m2 ∨ WI.heap.size ≤ b) WI wr) (fun _ _ wr => wr.rangeLeft m1 WI.heap.size)
              case atStart => exact ⟨fun _ => false, cnt0, P, HRG0.out, by omega, by rw [gZ_start]; exact HZ2.out.mono (Nat.le_refl _) (by omega), HF6.out⟩
              case round =>
                obtain ⟨done, cnt, n', hrg, hcnt, hmz, hfr⟩ := hrel
                have HMZ := Lib.hid hmz
                have HFR := Lib.hid hfr
                clear hmz hfr HZ2 HF6 HRG0
                go_wp2_with (at_next; refine wpList_next_z rfl _ rfl m1 WI.heap.size P B1 (wTab Wt j i') done cnt rfl hrg ?_ ?_)
                · intro hall
                  have hnew := inner_doneM HMZ.out (show n' ≤ 2 ^ (j + 1) by rw [← HQ2.out]; omega) HWS.out hall (fun x => HWF.out j i' x)
                  rw [HB2.out] at hnew
                  have HT := Lib.hid (HTB1.out.next HM2.out HFR.out (Nat.le_refl _) hnew)
                  have HBN := Lib.hid (HBW2.out.trans (HFR.out.below (B := w.heap.size) (by have := HBW2.out.size; have := HBW1.out.size; omega) fun i hi hh => by have := HBW2.out.size; have := HBW1.out.size; omega))
                  clear hall hnew hrg
                  go_wp2
                  go_roundw
                  case rel => exact ⟨i', by go_num, by omega, HT.out, HBN.out⟩
                  case measure =>
                    have := HI.out
                    simp [intOf]; omega
                · intro y w7 cnt1 hdy b0 b1 c0 c1 hrg7 hlt7 hf7 hs7 hen
                  have hmz7 := HMZ.out.fr hf7 (by omega)
                  have hFb := HTB.out j i' y
                  have hGb := gZ_bdM (w := S) (done := done) (HTB.out j (i' + 1)) (HTB.out j i') (y + S)
                  have hstep := gZ_step (wTab Wt j (i' + 1)) (wTab Wt j i') S y done hdy
                  obtain ⟨F, hF⟩ : ∃ F, F = wTab Wt j i' y := ⟨_, rfl⟩
                  obtain ⟨G, hG⟩ : ∃ G, G = gZ (wTab Wt j (i' + 1)) (wTab Wt j i') S done (y + S) := ⟨_, rfl⟩
                  rw [← hF] at hen hFb hstep
                  rw [← hG] at hGb hstep
                  rw [← hF]
                  have hbd : Below w7.heap.size w7 w7.drew := (Below.refl _ w7).drew
                  have hmzd := hmz7.on hbd
                  have hlook := lookZ_run hmzd (y + S) (by omega) (by omega)
                  rw [← hG] at hlook
                  obtain ⟨hput, hpm, hpg⟩ := putZ_run2 hmzd (by omega) (y + S) (G + F) (by omega) (by omega) (by omega) (by omega) (by omega)
                  have c2 : w7.cell? ⟨g, i, none⟩ = some (.map (some m2)) := by
                    rw [HI.out]
                    exact ((World.cell?_of_block (hf7.block g (by have := HFR.out.size; omega) (by omega))).trans (World.cell?_of_block (HFR.out.block g hgl (by omega)))).trans HCR.out
                  have hfr7 := HFR.out.trans (hf7.mono (may' := fun b => b = m2 ∨ WI.heap.size ≤ b) fun i _ h => by omega) (fun i _ h => h)
                  have hbw7 : Below w.heap.size WJ w7 := HBW2.out.trans (hfr7.below (B := w.heap.size) (by have := HBW2.out.size; have := HBW1.out.size; omega) fun i hi hh => by have := HBW2.out.size; have := HBW1.out.size; omega)
                  have c3 := HCX.out w7 hbw7
                  have hfp : Fr (fun b => b = m2) w7.drew (putZ m2 (y + S) (G + F) w7.drew) := (Fr.of_grown hpg).mono fun i _ h => by simpa using h
                  have hrg8 := (hrg7.fr (Fr.of_below hbd) (by have := hrg7.lt; omega) (by have := hrg7.lt; omega)).fr hfp (by omega) (by omega)
                  have HRG8 := Lib.hid hrg8
                  have HPM := Lib.hid (show MapZ (putZ m2 (y + S) (G + F) w7.drew) m2 (n' + 1) B2 (gZ (wTab Wt j (i' + 1)) (wTab Wt j i') S (fun z => done z || z == y)) from by rw [← hstep]; exact hpm)
                  have HFR8 := Lib.hid (show Fr (fun b => b = m2 ∨ WI.heap.size ≤ b) WI (putZ m2 (y + S) (G + F) w7.drew) from (hfr7.trans ((Fr.of_below hbd).mono (may' := fun b => b = m2 ∨ WI.heap.size ≤ b) fun i _ h => .inr (by omega)) (fun i _ h => h)).trans (hfp.mono (may' := fun b => b = m2 ∨ WI.heap.size ≤ b) fun i _ h => .inl h) (fun i _ h => h))
                  have hle := hrg.left
                  have hle8 := hrg8.left
                  have HLE := Lib.hid (And.intro hle hle8)
                  have hF0 := hFb.1
                  have hF1 := hFb.2
                  have hG0 := hGb.1
                  have hG1 := hGb.2
                  have q1 : (0 : Int) ≤ (i : Int) := by omega
                  have q2 : (i : Int) < (N : Int) := by omega
                  have q3 : (0 : Int) ≤ (j : Int) := by omega
                  have q4 : (j : Int) < (Wt.length : Int) := by omega
                  have q5 : IntKind.i64.wrap (y + S) = y + S := IntWalk.i64_in _ (by omega)
                  have q6 : IntKind.i64.wrap (G + F) = G + F := IntWalk.i64_in _ (by omega)
                  clear hstep hF hG hpm hpg hfp hrg8 hmz7 hle hle8 hf7 hrg7 hdy hrg hbw7 hFb hGb hfr7 hmzd hbd
                  go_wp2
                  refine wp_region_still_tail 23 (by kernel_rfl) (by kernel_rfl) ?_
                  simp only [List.take_succ_cons, List.take_zero, List.drop_succ_cons, List.drop_zero]
                  repeat still_step
                  refine wpStill_nil ?_
                  change wpList _ _ _ _ _ w7.drew
                  go_wp2
                  go_roundw
                  case rel => exact ⟨_, cnt1, n' + 1, HRG8.out, by omega, HPM.out, HFR8.out⟩
                  case measure => rw [HLE.out.1, HLE.out.2]; exact hlt7
            · obtain rfl : i = 0 := by omega
              have HTN := Lib.hid (htab.turn (N := K) HWS.out hM (by rw [HML.out]; omega))
              have HBN := Lib.hid (HBW1.out.trans hbw)
              clear htab hbw
              go_wp2
              go_roundw
              case rel => exact ⟨j + 1, by go_num, by omega, HTN.out, HBN.out⟩
              case measure => simp [intOf]; omega
        · obtain rfl : j = Wt.length := by omega
          obtain ⟨mN, hmN⟩ : ∃ m, ms[K]? = some m := ⟨_, List.getElem?_eq_getElem (by rw [HML.out]; omega)⟩
          have hzN := (htab.2.2.2 K mN hmN).2 (Nat.le_refl _)
          have hfT : wTab Wt Wt.length K = cN (chs Wt K) := funext fun x => by
            unfold wTab
            rw [List.take_length]
          rw [hfT] at hzN
          have HZN := Lib.hid hzN
          have HMG := Lib.hid (htab.2.2.1 mN (List.mem_of_getElem? hmN))
          have cN' : wr.cell? ⟨g, K, none⟩ = some (.map (some mN)) := by
            have h0 := htab.1
            rw [← HN.out] at h0
            rw [h0.cellAt K (by omega)]
            exact msV_get hmN
          clear htab hbw hmN hzN hfT
          go_wp2
          go_ret
          exact ⟨mN, rfl, HMG.out, HZN.out, HBW1.out⟩
end Go.Proofs.YtnapdhfkgfjjfaaGreatDoor
