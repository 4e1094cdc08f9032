/- Package judge: chance (the probability of a verdict). Printed by gen_jchn.py. -/
import Derived.Test.YtlkjgjojahjapaaGreatDoorG33
import Derived.Test.YtlkjgjojahjapaaGreatDoorG40
import Derived.Test.YtlkjgjojahjapaaGreatDoorG30
import Derived.Test.YtlkjgjojahjapaaGreatDoorG32
namespace Go.Proofs.YtlkjgjojahjapaaGreatDoor
open Go Go.RowKit Go.Proofs

set_option maxHeartbeats 8000000 in
set_option maxRecDepth 100000 in
theorem jChance_any (B : Nat) (u : Value) (y d most : Nat) (v : Int) (p q r0 r1 : Rat) (w : World) (hT : TrR w B p q r0 r1) (hok : TrOk p q r0 r1) (hu : JF w u false y d) (hyd : y ≤ d) (hd0 : 0 < d) (hd : d < 1000000) (hm : most ≤ 40) (hv : v = 1 ∨ v = 2) :
    Calls Tryz.prog 28 #[.pointer (some ⟨B, 0, none⟩), u, .int .i64 (most : Nat), .int .i64 v] w (JFPost false (errW (verN p q r0 r1) v y (d - y) d most) (d ^ most) w) := by
  obtain ⟨A1, c1, l1, A2, c2, l2, rfl, h1, h2⟩ := hu
  have HAF := Lib.hid (fun n f W (hb : Below w.heap.size w W) (hf : f ≤ n) (hn : n ≤ 2000) => jAfter_any B n f p q r0 r1 W (hT.on hb) hok hf hn)
  have hone := verN_one p q r0 r1
  obtain ⟨ver, hver⟩ : ∃ f, f = verN p q r0 r1 := ⟨_, rfl⟩
  rw [← hver] at HAF hone ⊢
  have HON := Lib.hid hone
  obtain ⟨g, hg⟩ : ∃ g, g = d - y := ⟨_, rfl⟩
  have hyg : y + g = d := by omega
  have hdW : d ≤ W64 := by unfold W64; omega
  have h42 : d ^ 41 < W64 ^ 42 := Nat.lt_of_le_of_lt (Nat.pow_le_pow_left hdW 41) (Nat.pow_lt_pow_right (by unfold W64; omega) (by omega))
  have hpw : ∀ k, k ≤ 41 → d ^ k ≤ d ^ 41 := fun k hk => Nat.pow_le_pow_right hd0 hk
  have HLN := Lib.hid (fun W A c l x (h : NatR W A c l x) (hx : x ≤ d ^ 41) => (show l.length ≤ 1000000 from by have := h.len (n := 42) (Nat.lt_of_le_of_lt hx h42); omega))
  have HW1 := Lib.hid (fun n F (hn : n ≤ 41) => (show wOp ver y g n F ≤ d ^ 41 from Nat.le_trans (hyg ▸ wOp_le ver hone y g n F) (hpw n hn)))
  have HW2 := Lib.hid (fun n F (hn : n ≤ 41) => (show wNx ver y g n F ≤ d ^ 41 from Nat.le_trans (hyg ▸ wNx_le ver hone y g n F) (hpw n hn)))
  have HW3 := Lib.hid (fun n F k (hn : n ≤ 40) => (show nxF ver y g n F k ≤ d ^ 41 from Nat.le_trans (hyg ▸ nxF_le ver hone y g n F k) (hpw (n + 1) (by omega))))
  have HW4 := Lib.hid (fun n F (hn : n + 1 ≤ most) (hF : F ≤ n + 2) => (show toF ver v y g d most n F ≤ d ^ 41 from Nat.le_trans (hyg ▸ toF_le ver hone v hv y g most n F hn hF) (hpw most (by omega))))
  have HW6 := Lib.hid (show errW ver v y g d most ≤ d ^ 41 from Nat.le_trans (by have := errW_le ver hone v hv y g most most (Nat.le_refl _); rw [hyg, Nat.sub_self, Nat.pow_zero, Nat.mul_one] at this; exact this) (hpw most (by omega)))
  have HW5 := Lib.hid hpw
  have hd41 : d ≤ d ^ 41 := by have := hpw 1 (by omega); rwa [Nat.pow_one] at this
  have hpr : ∀ n, n ≤ 40 → ∀ x, x ≤ d ^ n → ∀ z, z ≤ d → x * z ≤ d ^ 41 := fun n hn x hx z hz => Nat.le_trans (Nat.mul_le_mul hx hz) (by rw [← Nat.pow_succ]; exact hpw _ (by omega))
  have HW7 := Lib.hid (fun n F (hn : n ≤ 40) => (show wOp ver y g n F * g ≤ d ^ 41 ∧ wOp ver y g n F * y ≤ d ^ 41 from ⟨hpr n hn _ (hyg ▸ wOp_le ver hone y g n F) g (by omega), hpr n hn _ (hyg ▸ wOp_le ver hone y g n F) y (by omega)⟩))
  have HW8 := Lib.hid (fun n F (hn : n ≤ most) => (show wNx ver y g n F * d ^ (most - n) ≤ d ^ 41 from Nat.le_trans (Nat.mul_le_mul_right _ (hyg ▸ wNx_le ver hone y g n F)) (by rw [← Nat.pow_add]; exact hpw _ (by omega))))
  have HV := Lib.hid hv
  obtain ⟨W0, hW0⟩ : ∃ W0, W0 = (w.alloc (.cells #[.bool false, .slice A1 l1.length c1, .slice A2 l2.length c2] 71)).alloc (.cells #[.bool false, .slice none 0 0, .slice none 0 0] 71) := ⟨_, rfl⟩
  have HST0 := Lib.hid (show St w W0 [(w.heap.size, .cells #[.bool false, .slice A1 l1.length c1, .slice A2 l2.length c2] 71 (0, 0)), (w.heap.size + 1, .cells #[.bool false, .slice none 0 0, .slice none 0 0] 71 (0, 0))] by rw [hW0]; exact ((St.start w).alloc _ _ rfl).alloc _ _ (by simp))
  have HX0 := Lib.hid (show JBox W0 (w.heap.size + 1) from HST0.out.at 1 rfl)
  have HA1 := Lib.hid (h1.on HST0.out.below)
  have HA2 := Lib.hid (h2.on HST0.out.below)
  have HL1 := Lib.hid (HLN.out _ _ _ _ _ h1 (by omega))
  have HL2 := Lib.hid (HLN.out _ _ _ _ _ h2 hd41)
  have HP := Lib.hid (show ∀ X, Below W0.heap.size W0 X → X.cell? ⟨w.heap.size, 1, none⟩ = some (.slice A1 l1.length c1) ∧ X.cell? ⟨w.heap.size, 2, none⟩ = some (.slice A2 l2.length c2) from fun X hX => ⟨(HST0.out.call hX).cell 0 1 rfl rfl, (HST0.out.call hX).cell 0 2 rfl rfl⟩)
  have HPW := Lib.hid (fun k X (hX : Below W0.heap.size W0 X) (hk : k ≤ 40) => natPow_any A2 c2 l2 d k 1 X (HA2.out.on hX) (by rw [Nat.pow_one]; exact Nat.lt_of_lt_of_le hd (by unfold W64; omega)) (by omega) (by omega))
  have HD := Lib.hid (And.intro hd41 (show g ≤ d ^ 41 by omega))
  rw [← hg]
  have HG0 := Lib.hid hg
  have hmk := @run_makeMap Tryz.prog
  clear h1 h2 hT hok hver hone hg hyg hdW h42 hpw hpr hd41 hd0 hd hv
  go_enter Tryz.func28, Tryz.ntmps28
  go_upto_region 1 with fail
  rw [← hW0]
  clear hW0
  go_wp2_with fail
  (with_reducible refine (natOf_any 1 (W0.alloc (.map #[] 0)) (by omega)).mono ?_)
  rintro e w1 ⟨A3, c3, l3, rfl, h3, hb1⟩
  obtain ⟨hput, hpm, hpf⟩ := ((NMap.made W0).on hb1).put (by omega) 0 (by omega) A3 c3 _ l3 h3
  rw [show ((0 : Nat) : Int) = 0 from rfl] at hput hpm hpf
  obtain ⟨W2, hW2⟩ : ∃ W, W = putV 131 W0.heap.size 0 (.slice A3 l3.length c3) w1 := ⟨_, rfl⟩
  rw [← hW2] at hput hpm hpf
  have hb2 : Below W0.heap.size W0 W2 := ((Below.refl _ W0).alloc (Nat.le_refl _) _).trans ((hb1.mono (by simp)).trans (hpf.below (by have := hb1.size; simp at this; omega) fun i hi h => by omega))
  have HM2 := Lib.hid (show NMap W2 W0.heap.size 100 (wOp ver y g 0) from by
    rw [wOp_first]
    have e : upN (fun _ => 0) 0 (Int.toNat 1) = fun f => if f = 0 then 1 else 0 := rfl
    rw [← e]
    exact hpm.mono (by omega))
  have HB2 := Lib.hid hb2
  obtain ⟨o1, o2⟩ := HP.out W2 hb2
  have HSB := Lib.hid (natSub_any A2 A1 c2 c1 l2 l1 d y W2 (HA2.out.on hb2) (HA1.out.on hb2) HL2.out hyd)
  rw [← HG0.out] at HSB
  clear h3 hb1 hpm hpf hb2 hyd hW2
  go_wp2_with fail
  clear o1 o2 hput
  (with_reducible refine (HSB.out).mono ?_)
  rintro e w3 ⟨A4, c4, l4, rfl, h4, hb3⟩
  have HG := Lib.hid h4
  have HLG := Lib.hid (HLN.out _ _ _ _ _ h4 HD.out.2)
  have HB3 := Lib.hid (below_next HB2.out hb3)
  have HM3 := Lib.hid (HM2.out.on hb3)
  clear h4 hb3
  go_wp2
  go_loopw [9, 10, 12] (fun tv ov nv wr => ∃ (n mo : Nat) (A : Option Addr) (c : Nat) (l : List Nat), nv = .int .i64 ((n + 1 : Nat) : Int) ∧ n ≤ most ∧ ov = .map (some mo) ∧ tv = .slice A l.length c ∧ NMap wr mo 100 (wOp ver y g n) ∧ NatR wr A c l (errW ver v y g d n * d ^ (most - n)) ∧ Below w3.heap.size w3 wr) (fun _ _ nv _ => most + 1 - (intOf nv).toNat)
  case atStart => exact ⟨0, W0.heap.size, none, 0, [], rfl, Nat.zero_le _, rfl, rfl, HM3.out, by rw [show errW ver v y g d 0 = 0 from rfl, Nat.zero_mul]; exact natr_nil _, Below.refl _ _⟩
  case round =>
    obtain ⟨n, mo, A, c, l, rfl, hn, rfl, rfl, hmo, htot, hbw⟩ := hrel
    have HNM := Lib.hid hn
    have HMO := Lib.hid hmo
    have HTO := Lib.hid htot
    have HBW := Lib.hid hbw
    obtain ⟨N, hN⟩ : ∃ N, N = n + 1 := ⟨_, rfl⟩
    rw [← hN]
    have HN := Lib.hid hN
    clear hmo htot hbw hN HM3
    by_cases hlt : n < most
    · obtain ⟨wo, rfl⟩ : ∃ W : World, W = wr := ⟨_, rfl⟩
      have hNm : N ≤ most := by have := HN.out; omega
      have hN40 : N ≤ 40 := by omega
      have hnN : n ≤ 39 := by omega
      obtain ⟨W4, hW4⟩ : ∃ W, W = wo.alloc (.map #[] 0) := ⟨_, rfl⟩
      obtain ⟨mn, hmn⟩ : ∃ m, m = wo.heap.size := ⟨_, rfl⟩
      have HMN4 := Lib.hid (show NMap W4 mn 0 (nxF ver y g n 0) by rw [hW4, hmn, nxF_zero]; exact NMap.made wo)
      have HB4 := Lib.hid (show Below wo.heap.size wo W4 by rw [hW4]; exact (Below.refl _ wo).alloc (Nat.le_refl _) _)
      have HMNE := Lib.hid (show wo.heap.size ≤ mn by omega)
      go_wp2
      rw [← hW4, ← hmn]
      clear hW4 hmn
      go_loopw [14] (fun fv wq => ∃ F : Nat, fv = .int .i64 (F : Nat) ∧ F ≤ N ∧ NMap wq mn (2 * F) (nxF ver y g n F) ∧ Below wo.heap.size wo wq) (fun fv _ => N - (intOf fv).toNat)
      case atStart => exact ⟨0, rfl, Nat.zero_le _, HMN4.out, HB4.out⟩
      case round =>
        clear HMN4 HB4
        obtain ⟨wq, rfl⟩ : ∃ W : World, W = wr := ⟨_, rfl⟩
        obtain ⟨F, rfl, hF, hmn, hbq⟩ := hrel
        have HBQ := Lib.hid hbq
        have HMQ := Lib.hid hmn
        by_cases hlf : F < N
        · obtain ⟨A5, c5, l5, b, h5, hz5, hl5⟩ := (HMO.out.on hbq).look_ok F (by omega)
          have hlk := hl5 wq (Below.refl _ _)
          cases b with
          | false =>
            have HNX := Lib.hid (show NMap wq mn (2 * (F + 1)) (nxF ver y g n (F + 1)) by rw [nxF_skip ver y g n F (hz5 rfl)]; exact hmn.mono (by omega))
            clear h5 hz5 hl5 hmn hbq
            go_wp2
            go_roundw
            case rel => exact ⟨F + 1, by go_num, by omega, HNX.out, HBQ.out⟩
            case measure => simp [intOf]; omega
          | true =>
            obtain ⟨A6, c6, l6, h6, hl6⟩ := hmn.look F (by omega)
            have H5 := Lib.hid h5
            have H6 := Lib.hid h6
            have HL5 := Lib.hid (HLN.out _ _ _ _ _ h5 (HW1.out n F (by omega)))
            have HL6 := Lib.hid (HLN.out _ _ _ _ _ h6 (HW3.out n F F (by omega)))
            have HBT := Lib.hid (show ∀ X, Below wq.heap.size wq X → Below w3.heap.size w3 X from fun X hX => below_next (below_next HBW.out HBQ.out) hX)
            have HLP := Lib.hid (fun W A c l (h : NatR W A c l (wOp ver y g n F * g)) => HLN.out W A c l _ h (HW7.out n F (by omega)).1)
            have HKS := Lib.hid (show ∀ X, Below wq.heap.size wq X → (fun X => Below wq.heap.size wq X ∧ (Instr.lookup 131 (.map (some mn)) (.int .i64 (F : Int)) false).run Tryz.prog X = .ok (.slice A6 l6.length c6) X) X from fun X hX => ⟨hX, hl6 X hX⟩)
            clear h5 h6 hz5 hl5 hl6 hmn hbq
            go_wp2
            refine wp_region_last (init := #[_, _, _, _, _, _, _, _, _]) (last := _) rfl (by kernel_rfl) (by kernel_rfl) (by kernel_rfl) ?_
            show wpAny _ _ _ _ 9 (Array.replicate 9 false) _ _
            refine wpAny_of_held (S := (fun X => Below wq.heap.size wq X ∧ (Instr.lookup 131 (.map (some mn)) (.int .i64 (F : Int)) false).run Tryz.prog X = .ok (.slice A6 l6.length c6) X)) _ _ _ _ ?_
            have HS0 := HKS.out _ (Below.refl _ wq).drew
            refine wpAnyH_take (i := 0) (v := ?_) rfl (by kernel_rfl) (by kernel_rfl) (by kernel_rfl) (fun _ _ _ h => h) (Or.inl ⟨by rfl, ?_⟩) HS0 ?_
            rotate_left
            · intro W hW; (try dsimp only at hW); go_simp; try (with_reducible rfl)
            (try simp only [List.getElem_toArray, List.getElem_cons_zero, Act.put, List.setIfInBounds_toArray, List.set_cons_zero, List.set_cons_succ])
            refine wpAnyH_take (i := 1) (v := ?_) rfl (by kernel_rfl) (by kernel_rfl) (by kernel_rfl) (fun _ _ _ h => h) (Or.inl ⟨by rfl, ?_⟩) HS0 ?_
            rotate_left
            · intro W hW; (try dsimp only at hW); go_simp; try (with_reducible rfl)
            (try simp only [List.getElem_toArray, List.getElem_cons_succ, List.getElem_cons_zero, Act.put, List.setIfInBounds_toArray, List.set_cons_zero, List.set_cons_succ])
            refine wpAnyH_take (i := 2) (v := ?_) rfl (by kernel_rfl) (by kernel_rfl) (by kernel_rfl) (fun _ _ _ h => h) (Or.inl ⟨by rfl, ?_⟩) HS0 ?_
            rotate_left
            · intro W hW; (try dsimp only at hW); go_simp; try (with_reducible rfl)
            (try simp only [List.getElem_toArray, List.getElem_cons_succ, List.getElem_cons_zero, Act.put, List.setIfInBounds_toArray, List.set_cons_zero, List.set_cons_succ])
            refine wpAnyH_take (i := 3) (v := ?_) rfl (by kernel_rfl) (by kernel_rfl) (by kernel_rfl) (fun _ _ _ h => h) (Or.inl ⟨by rfl, ?_⟩) HS0 ?_
            rotate_left
            · intro W hW; (try dsimp only at hW); go_simp; try (with_reducible rfl)
            (try simp only [List.getElem_toArray, List.getElem_cons_succ, List.getElem_cons_zero, Act.put, List.setIfInBounds_toArray, List.set_cons_zero, List.set_cons_succ])
            refine wpAnyH_take (i := 4) (v := ?_) rfl (by kernel_rfl) (by kernel_rfl) (by kernel_rfl) (fun _ _ _ h => h) (Or.inl ⟨by rfl, ?_⟩) HS0 ?_
            rotate_left
            · intro W hW; (try dsimp only at hW); go_simp; try (with_reducible rfl)
            (try simp only [List.getElem_toArray, List.getElem_cons_succ, List.getElem_cons_zero, Act.put, List.setIfInBounds_toArray, List.set_cons_zero, List.set_cons_succ])
            refine wpAnyH_take (i := 5) (v := ?_) rfl (by kernel_rfl) (by kernel_rfl) (by kernel_rfl) (fun _ _ _ h => h) (Or.inl ⟨by rfl, ?_⟩) HS0 ?_
            rotate_left
            · intro W hW; (try dsimp only at hW); go_simp; try (with_reducible rfl)
            (try simp only [List.getElem_toArray, List.getElem_cons_succ, List.getElem_cons_zero, Act.put, List.setIfInBounds_toArray, List.set_cons_zero, List.set_cons_succ])
            refine wpAnyH_take (i := 6) (v := ?_) rfl (by kernel_rfl) (by kernel_rfl) (by kernel_rfl) (fun _ _ _ h => h) (Or.inl ⟨by rfl, ?_⟩) HS0 ?_
            rotate_left
            · intro W hW; (try dsimp only at hW); go_simp; try (with_reducible rfl)
            (try simp only [List.getElem_toArray, List.getElem_cons_succ, List.getElem_cons_zero, Act.put, List.setIfInBounds_toArray, List.set_cons_zero, List.set_cons_succ])
            refine run_one (i := 7) (by kernel_rfl) rfl rfl ?_
            intro K hK
            go_simp
            refine (natMul_any A5 A4 c5 c4 l5 l4 _ _ _ (H5.out.on HS0.1) (HG.out.on (HBT.out _ HS0.1)) HL5.out HLG.out).mono ?_
            rintro e w7 ⟨A7, c7, l7, rfl, hn7, hb7⟩
            refine hK.out _ _ (HKS.out _ (below_next HS0.1 hb7)) ?_
            clear hK K
            have HSP := HS0
            clear HS0
            intro HS0
            refine run_one (i := 8) (by kernel_rfl) rfl rfl ?_
            intro K hK
            go_simp
            refine (natAdd_any A6 A7 c6 c7 l6 l7 _ _ w7 (H6.out.on HS0.1) hn7 HL6.out (HLP.out _ _ _ _ hn7)).mono ?_
            rintro e w8 ⟨A8, c8, l8, rfl, hn8, hb8⟩
            refine hK.out _ _ (HKS.out _ (below_next HS0.1 hb8)) ?_
            clear hK K
            have HSP := HS0
            clear HS0
            intro HS0
            refine wpAnyH_done (by kernel_rfl) ?_ _
            simp only [LastQ]
            obtain ⟨hput, hpm, hpf⟩ := (HMQ.out.on HS0.1).put (by omega) F (by omega) A8 c8 _ l8 hn8
            obtain ⟨W9, hW9⟩ : ∃ W, W = putV 131 mn (F : Int) (.slice A8 l8.length c8) w8 := ⟨_, rfl⟩
            rw [← hW9] at hput hpm hpf
            have HPM := Lib.hid hpm
            have HB9 := Lib.hid (show Below wo.heap.size wo W9 from (below_next HBQ.out HS0.1).trans (hpf.below (below_next HBQ.out HS0.1).size fun i hi h => by have := HMNE.out; omega))
            have H59 := Lib.hid (show NatR W9 A5 c5 l5 (wOp ver y g n F) from (H5.out.on HS0.1).frM (HMQ.out.on HS0.1).block hpf)
            clear HS0 HSP HKS HBT hlk hpm hpf hn7 hb7 hn8 hb8 hW9
            go_simp
            clear hput
            have HPM1 := Lib.hid (HPM.out.look (F + 1) (by omega))
            obtain ⟨B6, d6, k6, g6, hl6⟩ := HPM1.out
            rw [upN_other _ _ (show F + 1 ≠ F by omega)] at g6
            have HB6 := Lib.hid g6
            have HL6B := Lib.hid (HLN.out _ _ _ _ _ g6 (HW3.out n F (F + 1) (by omega)))
            have HLQ := Lib.hid (fun W A c l (h : NatR W A c l (wOp ver y g n F * y)) => HLN.out W A c l _ h (HW7.out n F (by omega)).2)
            have HBT9 := Lib.hid (show ∀ X, Below W9.heap.size W9 X → Below W0.heap.size W0 X from fun X hX => below_next HB3.out (below_next (below_next HBW.out HB9.out) hX))
            have HKS := Lib.hid (show ∀ X, Below W9.heap.size W9 X → (fun X => Below W9.heap.size W9 X ∧ (Instr.lookup 131 (.map (some mn)) (.int .i64 ((F : Int) + 1)) false).run Tryz.prog X = .ok (.slice B6 k6.length d6) X ∧ X.cell? ⟨w.heap.size, 1, none⟩ = some (.slice A1 l1.length c1)) X from fun X hX => ⟨hX, by rw [show (F : Int) + 1 = ((F + 1 : Nat) : Int) by omega]; exact hl6 X hX, (HP.out X (HBT9.out X hX)).1⟩)
            clear g6 hl6 HPM1
            have q5 : IntKind.i64.wrap ((F : Int) + 1) = (F : Int) + 1 := IntWalk.i64_in _ (by omega)
            go_wp2
            refine wp_region_last (init := #[_, _, _, _, _, _, _, _, _, _, _, _]) (last := _) rfl (by kernel_rfl) (by kernel_rfl) (by kernel_rfl) ?_
            show wpAny _ _ _ _ 12 (Array.replicate 12 false) _ _
            refine wpAny_of_held (S := (fun X => Below W9.heap.size W9 X ∧ (Instr.lookup 131 (.map (some mn)) (.int .i64 ((F : Int) + 1)) false).run Tryz.prog X = .ok (.slice B6 k6.length d6) X ∧ X.cell? ⟨w.heap.size, 1, none⟩ = some (.slice A1 l1.length c1))) _ _ _ _ ?_
            have HS0 := HKS.out _ (Below.refl _ W9).drew
            refine wpAnyH_take (i := 0) (v := ?_) rfl (by kernel_rfl) (by kernel_rfl) (by kernel_rfl) (fun _ _ _ h => h) (Or.inl ⟨by rfl, ?_⟩) HS0 ?_
            rotate_left
            · intro W hW; (try dsimp only at hW); go_simp; try (with_reducible rfl)
            (try simp only [List.getElem_toArray, List.getElem_cons_zero, Act.put, List.setIfInBounds_toArray, List.set_cons_zero, List.set_cons_succ])
            refine wpAnyH_take (i := 1) (v := ?_) rfl (by kernel_rfl) (by kernel_rfl) (by kernel_rfl) (fun _ _ _ h => h) (Or.inl ⟨by rfl, ?_⟩) HS0 ?_
            rotate_left
            · intro W hW; (try dsimp only at hW); go_simp; try (with_reducible rfl)
            (try simp only [List.getElem_toArray, List.getElem_cons_succ, List.getElem_cons_zero, Act.put, List.setIfInBounds_toArray, List.set_cons_zero, List.set_cons_succ])
            refine wpAnyH_take (i := 2) (v := ?_) rfl (by kernel_rfl) (by kernel_rfl) (by kernel_rfl) (fun _ _ _ h => h) (Or.inl ⟨by rfl, ?_⟩) HS0 ?_
            rotate_left
            · intro W hW; (try dsimp only at hW); go_simp; try (with_reducible rfl)
            (try simp only [List.getElem_toArray, List.getElem_cons_succ, List.getElem_cons_zero, Act.put, List.setIfInBounds_toArray, List.set_cons_zero, List.set_cons_succ])
            refine wpAnyH_take (i := 3) (v := ?_) rfl (by kernel_rfl) (by kernel_rfl) (by kernel_rfl) (fun _ _ _ h => h) (Or.inl ⟨by rfl, ?_⟩) HS0 ?_
            rotate_left
            · intro W hW; (try dsimp only at hW); go_simp; try (with_reducible rfl)
            (try simp only [List.getElem_toArray, List.getElem_cons_succ, List.getElem_cons_zero, Act.put, List.setIfInBounds_toArray, List.set_cons_zero, List.set_cons_succ])
            refine wpAnyH_take (i := 4) (v := ?_) rfl (by kernel_rfl) (by kernel_rfl) (by kernel_rfl) (fun _ _ _ h => h) (Or.inl ⟨by rfl, ?_⟩) HS0 ?_
            rotate_left
            · intro W hW; (try dsimp only at hW); go_simp; try (with_reducible rfl)
            (try simp only [List.getElem_toArray, List.getElem_cons_succ, List.getElem_cons_zero, Act.put, List.setIfInBounds_toArray, List.set_cons_zero, List.set_cons_succ])
            refine wpAnyH_take (i := 5) (v := ?_) rfl (by kernel_rfl) (by kernel_rfl) (by kernel_rfl) (fun _ _ _ h => h) (Or.inl ⟨by rfl, ?_⟩) HS0 ?_
            rotate_left
            · intro W hW; (try dsimp only at hW); go_simp; try (with_reducible rfl)
            (try simp only [List.getElem_toArray, List.getElem_cons_succ, List.getElem_cons_zero, Act.put, List.setIfInBounds_toArray, List.set_cons_zero, List.set_cons_succ])
            refine wpAnyH_take (i := 6) (v := ?_) rfl (by kernel_rfl) (by kernel_rfl) (by kernel_rfl) (fun _ _ _ h => h) (Or.inl ⟨by rfl, ?_⟩) HS0 ?_
            rotate_left
            · intro W hW; (try dsimp only at hW); go_simp; try (with_reducible rfl)
            (try simp only [List.getElem_toArray, List.getElem_cons_succ, List.getElem_cons_zero, Act.put, List.setIfInBounds_toArray, List.set_cons_zero, List.set_cons_succ])
            refine wpAnyH_take (i := 7) (v := ?_) rfl (by kernel_rfl) (by kernel_rfl) (by kernel_rfl) (fun _ _ _ h => h) (Or.inl ⟨by rfl, ?_⟩) HS0 ?_
            rotate_left
            · intro W hW; (try dsimp only at hW); go_simp; try (with_reducible rfl)
            (try simp only [List.getElem_toArray, List.getElem_cons_succ, List.getElem_cons_zero, Act.put, List.setIfInBounds_toArray, List.set_cons_zero, List.set_cons_succ])
            refine wpAnyH_take (i := 8) (v := ?_) rfl (by kernel_rfl) (by kernel_rfl) (by kernel_rfl) (fun _ _ _ h => h) (Or.inl ⟨by rfl, ?_⟩) HS0 ?_
            rotate_left
            · intro W hW; (try dsimp only at hW); go_simp; try (with_reducible rfl)
            (try simp only [List.getElem_toArray, List.getElem_cons_succ, List.getElem_cons_zero, Act.put, List.setIfInBounds_toArray, List.set_cons_zero, List.set_cons_succ])
            refine wpAnyH_take (i := 9) (v := ?_) rfl (by kernel_rfl) (by kernel_rfl) (by kernel_rfl) (fun _ _ _ h => h) (Or.inl ⟨by rfl, ?_⟩) HS0 ?_
            rotate_left
            · intro W hW; (try dsimp only at hW); go_simp; try (with_reducible rfl)
            (try simp only [List.getElem_toArray, List.getElem_cons_succ, List.getElem_cons_zero, Act.put, List.setIfInBounds_toArray, List.set_cons_zero, List.set_cons_succ])
            refine run_one (i := 10) (by kernel_rfl) rfl rfl ?_
            intro K hK
            go_simp
            refine (natMul_any A5 A1 c5 c1 l5 l1 _ _ _ (H59.out.on HS0.1) (HA1.out.on (HBT9.out _ HS0.1)) HL5.out HL1.out).mono ?_
            rintro e x7 ⟨B7, d7, k7, rfl, hm7, hc7⟩
            refine hK.out _ _ (HKS.out _ (below_next HS0.1 hc7)) ?_
            clear hK K
            have HSP := HS0
            clear HS0
            intro HS0
            refine run_one (i := 11) (by kernel_rfl) rfl rfl ?_
            intro K hK
            go_simp
            refine (natAdd_any B6 B7 d6 d7 k6 k7 _ _ x7 (HB6.out.on HS0.1) hm7 HL6B.out (HLQ.out _ _ _ _ hm7)).mono ?_
            rintro e x8 ⟨B8, d8, k8, rfl, hm8, hc8⟩
            refine hK.out _ _ (HKS.out _ (below_next HS0.1 hc8)) ?_
            clear hK K
            have HSP := HS0
            clear HS0
            intro HS0
            refine wpAnyH_done (by kernel_rfl) ?_ _
            simp only [LastQ]
            obtain ⟨hput, hpm, hpf⟩ := (HPM.out.on HS0.1).put (by omega) (F + 1) (by omega) B8 d8 _ k8 hm8
            rw [nxF_next] at hpm
            rw [show ((F + 1 : Nat) : Int) = (F : Int) + 1 by omega] at hput hpm hpf
            obtain ⟨X9, hX9⟩ : ∃ W, W = putV 131 mn ((F : Int) + 1) (.slice B8 k8.length d8) x8 := ⟨_, rfl⟩
            rw [← hX9] at hput hpm hpf
            have HPX := Lib.hid hpm
            have HBX := Lib.hid (show Below wo.heap.size wo X9 from (below_next HB9.out HS0.1).trans (hpf.below (below_next HB9.out HS0.1).size fun i hi h => by have := HMNE.out; omega))
            clear HS0 HSP HKS HBT9 hpm hpf hm7 hc7 hm8 hc8 hX9
            go_simp
            clear hput
            go_wp2
            go_roundw
            case rel => exact ⟨F + 1, by go_num, by omega, HPX.out.mono (by omega), HBX.out⟩
            case measure => simp [intOf]; omega
        · obtain rfl : N = F := by omega
          have HMA := Lib.hid (show NMap wq mn 100 (wNx ver y g (n + 1)) by rw [← nxF_all, ← HN.out]; exact hmn.mono (by omega))
          obtain ⟨W6, hW6⟩ : ∃ W, W = wq.alloc (.map #[] 0) := ⟨_, rfl⟩
          obtain ⟨m2, hm2⟩ : ∃ m, m = wq.heap.size := ⟨_, rfl⟩
          have HM6 := Lib.hid (show NMap W6 m2 0 (opF ver y g (n + 1) 0) by rw [hW6, hm2, opF_zero]; exact NMap.made wq)
          have hb6 : Below wq.heap.size wq W6 := by rw [hW6]; exact (Below.refl _ wq).alloc (Nat.le_refl _) _
          have HB6 := Lib.hid hb6
          have HM2E := Lib.hid (show wq.heap.size ≤ m2 by omega)
          have HT6 := Lib.hid (show NatR W6 A c l (toF ver v y g d most n 0) by rw [toF_zero]; exact HTO.out.on (below_next HBQ.out hb6))
          clear hb6 hlf hmn hbq
          go_wp2
          rw [← hW6, ← hm2]
          clear hW6 hm2
          go_loopw [9, 17] (fun tv fv ws => ∃ (F : Nat) (A : Option Addr) (c : Nat) (l : List Nat), fv = .int .i64 (F : Nat) ∧ F ≤ N + 1 ∧ tv = .slice A l.length c ∧ NatR ws A c l (toF ver v y g d most n F) ∧ NMap ws m2 F (opF ver y g (n + 1) F) ∧ Below wq.heap.size wq ws) (fun _ fv _ => N + 1 - (intOf fv).toNat)
          case atStart => exact ⟨0, A, c, l, rfl, Nat.zero_le _, rfl, HT6.out, HM6.out, HB6.out⟩
          case round =>
            obtain ⟨ws, rfl⟩ : ∃ W : World, W = wr := ⟨_, rfl⟩
            clear HT6 HM6 HB6
            obtain ⟨F, A, c, l, rfl, hF, rfl, hto, hm2, hbs⟩ := hrel
            have HTO2 := Lib.hid hto
            have HM2 := Lib.hid hm2
            have HBS := Lib.hid hbs
            by_cases hlf : F < N + 1
            · have hlf2 : F ≤ N := by omega
              obtain ⟨A5, c5, l5, b, h5, hz5, hl5⟩ := (HMA.out.on hbs).look_ok F (by omega)
              have hlk := hl5 ws (Below.refl _ _)
              have hFn : F ≤ n + 1 := by have := HN.out; omega
              cases b with
              | false =>
                have hz := hz5 rfl
                have HT7 := Lib.hid (show NatR ws A c l (toF ver v y g d most n (F + 1)) by rw [toF_miss ver (.inr hz)]; exact HTO2.out)
                have HM7 := Lib.hid (show NMap ws m2 (F + 1) (opF ver y g (n + 1) (F + 1)) by rw [opF_skip ver y g (n + 1) F (wOp_zero ver hz)]; exact HM2.out.mono (by omega))
                clear h5 hz5 hl5 hto hm2 hbs hz
                go_wp2
                go_roundw
                case rel => exact ⟨F + 1, A, c, l, by go_num, by omega, rfl, HT7.out, HM7.out, HBS.out⟩
                case measure => simp [intOf]; omega
              | true =>
                have H5 := Lib.hid h5
                have HBW0 := Lib.hid (show Below W0.heap.size W0 ws from below_next HB3.out (below_next (below_next HBW.out HBQ.out) hbs))
                have HAFN := Lib.hid (HAF.out N F ws (below_next HST0.out.below HBW0.out) hlf2 (by omega))
                have hver := HON.out N F
                obtain ⟨k, hk⟩ : ∃ k, k = ver N F := ⟨_, rfl⟩
                rw [← hk] at HAFN hver
                have HK := Lib.hid (show ver (n + 1) F = k by rw [hk, HN.out])
                clear h5 hz5 hl5 hto hm2 hbs hk
                by_cases hk3 : k = 3
                · have HT7 := Lib.hid (show toF ver v y g d most n (F + 1) = toF ver v y g d most n F from toF_miss ver (.inl (by rw [HK.out, hk3]; rcases HV.out with h | h <;> rw [h] <;> decide)))
                  have HO7 := Lib.hid (opF_next ver y g (n + 1) F (by rw [HK.out, hk3]))
                  subst hk3
                  clear hver
                  go_wp2_with fail
                  (with_reducible refine (HAFN.out).mono ?_)
                  rintro e w6 ⟨rfl, hb6⟩
                  have HB6 := Lib.hid hb6
                  obtain ⟨hput, hpm, hpf⟩ := (HM2.out.on hb6).put (by omega) F (by omega) A5 c5 _ l5 (H5.out.on hb6)
                  obtain ⟨W7, hW7⟩ : ∃ W, W = putV 131 m2 (F : Int) (.slice A5 l5.length c5) w6 := ⟨_, rfl⟩
                  rw [← hW7] at hput hpm hpf
                  rw [HO7.out] at hpm
                  have HM7 := Lib.hid hpm
                  have HB7 := Lib.hid (show Below wq.heap.size wq W7 from (below_next HBS.out hb6).trans (hpf.below (below_next HBS.out hb6).size fun i hi h => by have := HM2E.out; omega))
                  have HT8 := Lib.hid (show NatR W7 A c l (toF ver v y g d most n (F + 1)) by rw [HT7.out]; exact (HTO2.out.on hb6).frM (HM2.out.on hb6).block hpf)
                  clear hb6 hpm hpf hW7
                  go_wp2
                  go_roundw
                  case rel => exact ⟨F + 1, A, c, l, by go_num, by omega, rfl, HT8.out, HM7.out, HB7.out⟩
                  case measure => simp [intOf]; omega
                · have hO7 : opF ver y g (n + 1) (F + 1) = opF ver y g (n + 1) F := opF_skip ver y g (n + 1) F (wOp_not ver (by omega) (by rw [HK.out]; exact hk3))
                  have HO7 := Lib.hid hO7
                  have t3 : (k == 3) = false := by rw [beq_eq_false_iff_ne]; exact hk3
                  clear hO7
                  by_cases hkv : k = v
                  · have t4 : (k == v) = true := by rw [hkv]; exact beq_self_eq_true _
                    have HT7 := Lib.hid (toF_hit ver (y := y) (q := g) (d := d) (most := most) (show ver (n + 1) F = v by rw [HK.out, hkv]))
                    rw [← HN.out] at HT7
                    have HPWF := Lib.hid (show ∀ X, Below W0.heap.size W0 X → Calls Tryz.prog 81 #[.slice A2 l2.length c2, .int .i64 ((most : Int) - (N : Int))] X (NatPost (d ^ (most - N)) X) from fun X hX => by
                      rw [show (most : Int) - (N : Int) = ((most - N : Nat) : Int) by omega]
                      exact HPW.out (most - N) X hX (by omega))
                    have HLW := Lib.hid (HLN.out _ _ _ _ _ H5.out (HW2.out (n + 1) F (by omega)))
                    have HLP := Lib.hid (fun W A c l (h : NatR W A c l (d ^ (most - N))) => HLN.out W A c l _ h (HW5.out _ (by omega)))
                    have HLM := Lib.hid (fun W A c l (h : NatR W A c l (wNx ver y g (n + 1) F * d ^ (most - N))) => HLN.out W A c l _ h (by rw [HN.out]; exact HW8.out (n + 1) F (by omega)))
                    have HLT := Lib.hid (HLN.out _ _ _ _ _ HTO2.out (HW4.out n F (by omega) (by omega)))
                    clear hkv hk3 hver
                    go_wp2_with fail
                    (with_reducible refine (HAFN.out).mono ?_)
                    rintro e w6 ⟨rfl, hb6⟩
                    have HB6 := Lib.hid (below_next HBW0.out hb6)
                    have HB66 := Lib.hid hb6
                    obtain ⟨o1, o2⟩ := HP.out w6 HB6.out
                    clear hb6
                    go_wp2_with fail
                    (with_reducible refine (HPWF.out w6 HB6.out).mono ?_)
                    clear o1 o2
                    rintro e w7 ⟨A7, c7, l7, rfl, h7, hb7⟩
                    have H7 := Lib.hid h7
                    have HB7 := Lib.hid (below_next HB66.out hb7)
                    clear h7 hb7
                    go_wp2_with fail
                    (with_reducible refine (natMul_any A5 A7 c5 c7 l5 l7 _ _ w7 (H5.out.on HB7.out) H7.out HLW.out (HLP.out _ _ _ _ H7.out)).mono ?_)
                    rintro e w8 ⟨A8, c8, l8, rfl, h8, hb8⟩
                    have H8 := Lib.hid h8
                    have HB8 := Lib.hid (below_next HB7.out hb8)
                    clear h8 hb8
                    go_wp2_with fail
                    (with_reducible refine (natAdd_any A A8 c c8 l l8 _ _ w8 (HTO2.out.on HB8.out) H8.out HLT.out (HLM.out _ _ _ _ H8.out)).mono ?_)
                    rintro e w9 ⟨A9, c9, l9, rfl, h9, hb9⟩
                    have H9 := Lib.hid (show NatR w9 A9 c9 l9 (toF ver v y g d most n (F + 1)) by rw [HT7.out]; rw [HN.out] at h9 ⊢; exact h9)
                    have HB9 := Lib.hid (below_next HB8.out hb9)
                    have HM9 := Lib.hid (show NMap w9 m2 (F + 1) (opF ver y g (n + 1) (F + 1)) by rw [HO7.out]; exact (HM2.out.on HB9.out).mono (by omega))
                    have HBF := Lib.hid (below_next HBS.out HB9.out)
                    clear h9 hb9
                    go_wp2
                    go_roundw
                    case rel => exact ⟨F + 1, A9, c9, l9, by go_num, by omega, rfl, H9.out, HM9.out, HBF.out⟩
                    case measure => simp [intOf]; omega
                  · have t4 : (k == v) = false := by rw [beq_eq_false_iff_ne]; exact hkv
                    have HT7 := Lib.hid (show toF ver v y g d most n (F + 1) = toF ver v y g d most n F from toF_miss ver (.inl (by rw [HK.out]; exact hkv)))
                    clear hkv hk3 hver
                    go_wp2_with fail
                    (with_reducible refine (HAFN.out).mono ?_)
                    rintro e w6 ⟨rfl, hb6⟩
                    have HT8 := Lib.hid (show NatR w6 A c l (toF ver v y g d most n (F + 1)) by rw [HT7.out]; exact HTO2.out.on hb6)
                    have HM9 := Lib.hid (show NMap w6 m2 (F + 1) (opF ver y g (n + 1) (F + 1)) by rw [HO7.out]; exact (HM2.out.on hb6).mono (by omega))
                    have HBF := Lib.hid (below_next HBS.out hb6)
                    clear hb6
                    go_wp2
                    go_roundw
                    case rel => exact ⟨F + 1, A, c, l, by go_num, by omega, rfl, HT8.out, HM9.out, HBF.out⟩
                    case measure => simp [intOf]; omega
            · obtain rfl : F = N + 1 := by omega
              have HTN := Lib.hid (show NatR ws A c l (errW ver v y g d (n + 1) * d ^ (most - (n + 1))) by
                have e := toF_all ver (v := v) (y := y) (q := g) (d := d) (most := most) (n := n) (by omega)
                rw [← e, show n + 2 = N + 1 by have := HN.out; omega]
                exact HTO2.out)
              have HMN := Lib.hid (show NMap ws m2 100 (wOp ver y g (n + 1)) by
                have h := HM2.out.mono (N' := 100) (by omega)
                rw [HN.out, opF_all] at h
                exact h)
              have HBN := Lib.hid (show Below w3.heap.size w3 ws from below_next (below_next HBW.out HBQ.out) hbs)
              clear hto hm2 hbs hlf
              go_wp2
              go_roundw
              case rel => exact ⟨n + 1, m2, A, c, l, by rw [HN.out]; go_num, by omega, rfl, rfl, HMN.out, HTN.out, HBN.out⟩
              case measure => have := HN.out; simp [intOf]; omega
    · obtain rfl : most = n := by omega
      have hNm : ¬ N ≤ most := by have := HN.out; omega
      have HTF := Lib.hid (show NatR wr A c l (errW ver v y g d most) by have := HTO.out; rw [Nat.sub_self, Nat.pow_zero, Nat.mul_one] at this; exact this)
      have HB4 := Lib.hid (below_next HB3.out HBW.out)
      obtain ⟨o1, o2⟩ := HP.out wr HB4.out
      go_wp2_with fail
      clear o1 o2
      (with_reducible refine (HPW.out most wr HB4.out hm).mono ?_)
      rintro e w5 ⟨A5, c5, l5, rfl, h5, hb5⟩
      have H5 := Lib.hid h5
      have HB5 := Lib.hid (below_next HB4.out hb5)
      have HT5 := Lib.hid (HTF.out.on hb5)
      clear h5 hb5
      go_wp2_with fail
      (with_reducible refine (jOf_any _ _ _ _ _ _ _ _ w5 HT5.out H5.out).mono ?_)
      rintro e w6 ⟨v6, rfl, hv, hb6⟩
      obtain ⟨A8, c8, l8, A9, c9, l9, rfl, hj1, hj2⟩ := hv
      have HB6 := Lib.hid (below_next HB5.out hb6)
      have HF := Lib.hid (fun W (hf : Fr (fun i => i = w.heap.size + 1) w6 W) => jf_ret (HX0.out.on HB6.out) (jf_mk (b := false) hj1 hj2) (below_next HST0.out.below HB6.out) (by omega) hf)
      obtain ⟨k0, k1, k2, z0, z1, z2, hlt6⟩ := (HX0.out.on HB6.out).facts
      clear hj1 hj2 hb6
      go_wp2
      refine bodyPost_ret (v := .agg #[.bool false, .slice A8 l8.length c8, .slice A9 l9.length c9]) (by simp [results, Tryz.results28, go_sem, k0, k1, k2]) rfl ⟨_, rfl, HF.out _ (fr3 _ _ _)⟩
end Go.Proofs.YtlkjgjojahjapaaGreatDoor
