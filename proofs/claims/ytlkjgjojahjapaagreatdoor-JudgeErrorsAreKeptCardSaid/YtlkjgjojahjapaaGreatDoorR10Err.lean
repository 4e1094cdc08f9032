/- The reference's errors: errorOf. Printed by gen_r10err.py. -/
import Derived.Test.YtlkjgjojahjapaaGreatDoorG31
import Derived.Test.YtlkjgjojahjapaaGreatDoorG38
import Derived.Test.YtlkjgjojahjapaaGreatDoorG32
import Derived.Test.YtlkjgjojahjapaaGreatDoorG9
import Derived.Test.YtlkjgjojahjapaaGreatDoorG27
namespace Go.Proofs.YtlkjgjojahjapaaGreatDoor
open Go Go.RowKit Go.Proofs

theorem infoRNE : (Tryz.prog.info? 31).map (fun i => (i.zero, i.size, i.bytes)) = some (some (.slice none 0 0), 1, 24) := by kernel_rfl
theorem frB {W X Y : World} {B : Nat} (h : Fr (fun i => i = B) W X) (hb : Below X.heap.size X Y) : Fr (fun i => i = B) W Y := h.trans (Fr.of_below hb) fun i hi hh => by have := h.size; omega
set_option maxHeartbeats 8000000 in
set_option maxRecDepth 100000 in
theorem rErrorOf_any (S0 S1 S2 S3 S4 S5 S6 S7 : ByteArray) (most : Nat) (u : Value) (x : Rat) (up : Bool) (v : Int) (p q r0 r1 : Rat) (w : World) (hu : FracR w u x) (hyd : frN x ≤ x.den) (hd : x.den < 1000000) (hm : most ≤ 40) (hv : v = if up = true then 2 else 1) (hp : prQ (S0, S1) = p) (hq : prQ (S2, S3) = q) (hr0 : prQ (S4, S5) = r0) (hr1 : prQ (S6, S7) = r1) (c0 : cRt S0.data.toList S1.data.toList = 0) (c1 : cRt S2.data.toList S3.data.toList = 0) (c2 : cRt S4.data.toList S5.data.toList = 0) (c3 : cRt S6.data.toList S7.data.toList = 0) (ok : TrOk p q r0 r1) :
    Calls Tryz.prog 32 #[.agg #[.string S0, .string S1, .string S2, .string S3, .string S4, .string S5, .string S6, .string S7], .int .i64 (most : Nat), u, .bool up] w (FracPost (errQ p q r0 r1 x v most) w) := by
  obtain ⟨i0, hi0, hz0, hz1, hz2⟩ := info_parts infoRNE
  have HLOW := Lib.hid (fun N f W (hN : N ≤ 2000) (hf : f ≤ N) => rIsLow_any S0 S1 S2 S3 S4 S5 S6 S7 N f p q r1 W hp hq hr1 c0 c1 c3 ok.g ok.s ok.b2 (by have := ok.b1; have := ok.b2; omega) hf hN)
  have HHIG := Lib.hid (fun N f W (hN : N ≤ 2000) (hf : f ≤ N) => rIsHigh_any S0 S1 S2 S3 S4 S5 S6 S7 N f p q r0 W hp hq hr0 c0 c1 c2 ok.g ok.s ok.a2 (by have := ok.a1; have := ok.a2; omega) hf hN)
  have hone := verN_one p q r0 r1
  obtain ⟨ver, hver⟩ : ∃ f, f = verN p q r0 r1 := ⟨_, rfl⟩
  have HVR := Lib.hid (show ∀ n f, ver n f = if hiT r0 (trU p q n f) (trD p q n f) = true then 2 else if loT r1 (trU p q n f) (trD p q n f) = true then 1 else 3 from fun n f => by rw [hver]; rfl)
  rw [← hver] at hone
  unfold errQ
  rw [← hver]
  obtain ⟨A1, a1, b1, A2, a2, b2, rfl, h1, h2⟩ := hu
  obtain ⟨bu, hbu⟩ : ∃ b, b = frS x := ⟨_, rfl⟩
  rw [← hbu]
  obtain ⟨y, hy⟩ : ∃ y, y = frN x := ⟨_, rfl⟩
  obtain ⟨d, hdd⟩ : ∃ d, d = x.den := ⟨_, rfl⟩
  have hd0 : 0 < d := by rw [hdd]; exact x.den_pos
  rw [← hy] at h1 hyd ⊢
  rw [← hdd] at h2 hyd hd ⊢
  obtain ⟨U1, rfl⟩ : ∃ U, U = A1 := ⟨_, rfl⟩
  obtain ⟨U2, rfl⟩ : ∃ U, U = A2 := ⟨_, rfl⟩
  obtain ⟨d1, rfl⟩ : ∃ U, U = a1 := ⟨_, rfl⟩
  obtain ⟨d2, rfl⟩ : ∃ U, U = a2 := ⟨_, rfl⟩
  obtain ⟨k1, rfl⟩ : ∃ U, U = b1 := ⟨_, rfl⟩
  obtain ⟨k2, rfl⟩ : ∃ U, U = b2 := ⟨_, rfl⟩
  obtain ⟨g, hg⟩ : ∃ g, g = d - y := ⟨_, rfl⟩
  have hyg : y + g = d := by omega
  have hvv : v = 1 ∨ v = 2 := by rw [hv]; cases up <;> simp
  have HVU := Lib.hid hv
  have h42 : d ^ 41 < T4 ^ 83 := by
    have h0 : d ^ 41 ≤ (T4 ^ 2) ^ 41 := Nat.pow_le_pow_left (show d ≤ T4 ^ 2 by unfold T4; omega) 41
    rw [← Nat.pow_mul] at h0
    exact Nat.lt_of_le_of_lt h0 (Nat.pow_lt_pow_right (by unfold T4; omega) (by omega))
  have hpw : ∀ k, k ≤ 41 → d ^ k ≤ d ^ 41 := fun k hk => Nat.pow_le_pow_right hd0 hk
  have HLN := Lib.hid (fun W A c l x (h : RNatR W A c l x) (hx : x ≤ d ^ 41) => (show l.length ≤ 1000 from by have := h.len (n := 83) (Nat.lt_of_le_of_lt hx h42); omega))
  have HW1 := Lib.hid (fun n F (hn : n ≤ 41) => (show wOp ver y g n F ≤ d ^ 41 from Nat.le_trans (hyg ▸ wOp_le ver hone y g n F) (hpw n hn)))
  have HW2 := Lib.hid (fun n F (hn : n ≤ 41) => (show wNx ver y g n F ≤ d ^ 41 from Nat.le_trans (hyg ▸ wNx_le ver hone y g n F) (hpw n hn)))
  have HW3 := Lib.hid (fun n F k (hn : n ≤ 40) => (show nxF ver y g n F k ≤ d ^ 41 from Nat.le_trans (hyg ▸ nxF_le ver hone y g n F k) (hpw (n + 1) (by omega))))
  have hd41 : d ≤ d ^ 41 := by have := hpw 1 (by omega); rwa [Nat.pow_one] at this
  have hpr : ∀ n, n ≤ 40 → ∀ x, x ≤ d ^ n → ∀ z, z ≤ d → x * z ≤ d ^ 41 := fun n hn x hx z hz => Nat.le_trans (Nat.mul_le_mul hx hz) (by rw [← Nat.pow_succ]; exact hpw _ (by omega))
  have HW7 := Lib.hid (fun n F (hn : n ≤ 40) => (show wOp ver y g n F * g ≤ d ^ 41 ∧ wOp ver y g n F * y ≤ d ^ 41 from ⟨hpr n hn _ (hyg ▸ wOp_le ver hone y g n F) g (by omega), hpr n hn _ (hyg ▸ wOp_le ver hone y g n F) y (by omega)⟩))
  have hSD : ∀ n, n ≤ 40 → d ^ (n + 1) < T4 ^ 83 := fun n hn => Nat.lt_of_le_of_lt (hpw (n + 1) (by omega)) h42
  have HSZA := Lib.hid (fun n F (hn : n ≤ 40) => (show Sz 83 (mkRat (sg false (wNx ver y g (n + 1) F)) (d ^ (n + 1))) from sz_mk (Nat.pow_pos hd0) (Nat.lt_of_le_of_lt (Nat.le_trans (hyg ▸ wNx_le ver hone y g (n + 1) F) (hpw (n + 1) (by omega))) h42) (hSD n hn)))
  have HSZB := Lib.hid (fun n F (hn : n ≤ 40) (hF : F ≤ n + 2) => (show Sz 83 (qP ver v y g d n F) from sz_mk (b := false) (Nat.pow_pos hd0) (Nat.lt_of_le_of_lt (Nat.le_trans (hyg ▸ toF_le ver hone v hvv y g (n + 1) n F (Nat.le_refl _) hF) (hpw (n + 1) (by omega))) h42) (hSD n hn)))
  have HD0 := Lib.hid hd0
  have HD2 := Lib.hid (show d < T4 ^ 2 by unfold T4; omega)
  have HDG := Lib.hid (And.intro hd41 (show g ≤ d ^ 41 by omega))
  have HPWL := Lib.hid hpw
  rw [← hg]
  have HG0 := Lib.hid hg
  obtain ⟨W0, hW0⟩ : ∃ W0, W0 = ((w.alloc (.cells #[.string S0, .string S1, .string S2, .string S3, .string S4, .string S5, .string S6, .string S7] 25)).alloc (.cells #[.bool bu, .slice U1 k1.length d1, .slice U2 k2.length d2] 33)).alloc (.cells #[.bool false, .slice none 0 0, .slice none 0 0] 33) := ⟨_, rfl⟩
  have HST0 := Lib.hid (show St w W0 [(w.heap.size, .cells #[.string S0, .string S1, .string S2, .string S3, .string S4, .string S5, .string S6, .string S7] 25 (0, 0)), (w.heap.size + 1, .cells #[.bool bu, .slice U1 k1.length d1, .slice U2 k2.length d2] 33 (0, 0)), (w.heap.size + 2, .cells #[.bool false, .slice none 0 0, .slice none 0 0] 33 (0, 0))] by rw [hW0]; exact (((St.start w).alloc _ _ rfl).alloc _ _ (by simp)).alloc _ _ (by simp))
  have HA1 := Lib.hid (h1.on HST0.out.below)
  have HA2 := Lib.hid (h2.on HST0.out.below)
  have HLU1 := Lib.hid (show k1.length ≤ 1000000 by have := HLN.out _ _ _ _ _ h1 (by omega); omega)
  have HLU2 := Lib.hid (show k2.length ≤ 1000000 by have := HLN.out _ _ _ _ _ h2 hd41; omega)
  clear h1 h2 hone hver hbu hy hdd hg hyg hvv h42 hpw hpr hd41 hSD hd0 hd hv hp hq hr0 hr1 c0 c1 c2 c3 ok
  go_enter Tryz.func32, Tryz.ntmps32
  go_upto_region 1 with fail
  rw [← hW0]
  clear hW0
  go_wp2_with fail
  (with_reducible refine (rnatOf_any 1 W0 (by omega)).mono ?_)
  rintro e w1 ⟨A3, c3, l3, rfl, h3, hb1⟩
  obtain ⟨W2, hW2⟩ : ∃ W, W = w1.alloc (.cells #[.slice A3 l3.length c3] 31) := ⟨_, rfl⟩
  have hb12 : Below w1.heap.size w1 W2 := by rw [hW2]; exact (Below.refl _ w1).alloc (Nat.le_refl _) _
  have HR2 := Lib.hid (show RRow W2 w1.heap.size 1 (wOp ver y g 0) from ⟨[.slice A3 l3.length c3], by rw [hW2]; exact alloc_at _ _ _ rfl, rfl, fun k hk => by
    obtain rfl : k = 0 := by omega
    refine ⟨A3, c3, l3, rfl, ?_⟩
    rw [wOp_first]
    exact h3.on hb12⟩)
  have HB2 := Lib.hid (below_next hb1 hb12)
  obtain ⟨gi, hgi⟩ : ∃ m, m = w1.heap.size := ⟨_, rfl⟩
  rw [← hgi] at HR2
  clear h3 hb1 hb12
  go_wp2_with fail
  rw [← hW2, ← hgi]
  clear hW2 hgi
  (with_reducible refine (rWhole_any 0 W2 (by omega) (by omega)).mono ?_)
  rintro e w3 ⟨v3, rfl, hv3, hb3⟩
  obtain ⟨b0, O1, e1, m1, O2, e2, m2, rfl⟩ := hv3.shape
  obtain ⟨W3, hW3⟩ : ∃ W, W = w3.alloc (.cells #[.bool b0, .slice O1 m1.length e1, .slice O2 m2.length e2] 33) := ⟨_, rfl⟩
  obtain ⟨B10, hB10⟩ : ∃ m, m = w3.heap.size := ⟨_, rfl⟩
  have hb33 : Below w3.heap.size w3 W3 := by rw [hW3]; exact (Below.refl _ w3).alloc (Nat.le_refl _) _
  have hb03 : Below W0.heap.size W0 W3 := below_next (below_next HB2.out hb3) hb33
  have HV3 := Lib.hid (show VarQ W3 B10 (mkRat (errW ver v y g d 0 : Nat) (d ^ 0)) by
    have e : mkRat ((errW ver v y g d 0 : Nat) : Int) (d ^ 0) = ((0 : Int) : Rat) := by rw [show errW ver v y g d 0 = 0 from rfl]; simp [Rat.zero_mkRat]
    rw [e, hW3, hB10]
    exact VarQ.laid hv3)
  have HR3 := Lib.hid (HR2.out.on (below_next hb3 hb33))
  have hW0s := (HST0.out.box 2 _ _ rfl).2
  have HB10L := Lib.hid (show w.heap.size + 2 < B10 by have := heap_lt hW0s; have := (below_next HB2.out hb3).size; omega)
  have HBX := Lib.hid (show ∀ X, Fr (fun i => i = B10) W3 X → X.heap[w.heap.size]? = some (.cells #[.string S0, .string S1, .string S2, .string S3, .string S4, .string S5, .string S6, .string S7] 25 (0, 0)) ∧ X.heap[w.heap.size + 1]? = some (.cells #[.bool bu, .slice U1 k1.length d1, .slice U2 k2.length d2] 33 (0, 0)) ∧ FBox X (w.heap.size + 2) from fun X hX => by
    have hs := (HST0.out.call hb03)
    have hl := heap_lt (hs.box 2 _ _ rfl).2
    have hB := HB10L.out
    exact ⟨(hX.block _ (by omega) (by omega)).trans (hs.box 0 _ _ rfl).2, (hX.block _ (by omega) (by omega)).trans (hs.box 1 _ _ rfl).2, (hX.block _ (by omega) (by omega)).trans (hs.box 2 _ _ rfl).2⟩)
  have HU1 := Lib.hid (fun X (hX : Fr (fun i => i = B10) W3 X) => (HA1.out.on hb03).frQ HV3.out hX)
  have HU2 := Lib.hid (fun X (hX : Fr (fun i => i = B10) W3 X) => (HA2.out.on hb03).frQ HV3.out hX)
  have HWB := Lib.hid (show Below w.heap.size w W3 from below_next HST0.out.below hb03)
  clear hv3 hb3 hb33 hb03 hW0s
  go_wp2
  rw [← hW3, ← hB10]
  clear hW3 hB10
  go_loopw [9, 11] (fun ov nv wr => ∃ (n g0 : Nat), nv = .int .i64 ((n + 1 : Nat) : Int) ∧ n ≤ most ∧ ov = .slice (some ⟨g0, 0, none⟩) (n + 1) (n + 1) ∧ RRow wr g0 (n + 1) (wOp ver y g n) ∧ VarQ wr B10 (mkRat (errW ver v y g d n : Nat) (d ^ n)) ∧ Fr (fun i => i = B10) W3 wr) (fun _ nv _ => most + 1 - (intOf nv).toNat)
  case atStart => exact ⟨0, gi, rfl, Nat.zero_le _, rfl, HR3.out, HV3.out, Fr.refl _ _⟩
  case round =>
    obtain ⟨n, g0, rfl, hn, rfl, hro, hvo, hfo⟩ := hrel
    have HRO := Lib.hid hro
    have HVO := Lib.hid hvo
    have HFO := Lib.hid hfo
    have HNM := Lib.hid hn
    obtain ⟨N, hN⟩ : ∃ N, N = n + 1 := ⟨_, rfl⟩
    rw [← hN]
    have HN := Lib.hid hN
    clear hro hvo hfo hN HR3
    by_cases hlt : n < most
    · obtain ⟨wo, rfl⟩ : ∃ W : World, W = wr := ⟨_, rfl⟩
      have hNm : N ≤ most := by have := HN.out; omega
      have hN40 : N ≤ 40 := by omega
      have hnN : n ≤ 39 := by omega
      go_wp2_with (at_make; refine wpList_make_full _ rfl (.tmp 26) (.tmp 26) 137 rfl wo.heap.size 31 i0 _ 1 Tryz.underlying137 hi0 hz0 hz1 .i64 .i64 _ _ (N + 1) rfl rfl ?m1 ?m2 ?m3 ?m4 ?m5 ?_)
      case m1 => omega
      case m2 => omega
      case m3 => rw [hz2]; omega
      case m4 => unfold maxLen; omega
      case m5 => exact Nat.le_refl _
      intro W4 hown hgr
      rw [made_s] at hown
      obtain ⟨hblk, _⟩ := VBlk.of_own hown
      obtain ⟨gn, hgn⟩ : ∃ m, m = wo.heap.size := ⟨_, rfl⟩
      have HB4 := Lib.hid (show Below wo.heap.size wo W4 from (Below.refl _ wo).grown hgr (Nat.le_refl _) (fun k hk => by cases hk))
      have HR4 := Lib.hid (show RRow W4 gn (N + 1) (nxF ver y g n 0) by rw [nxF_zero, hgn]; exact RRow.zero hblk)
      have HGNW := Lib.hid (show wo.heap.size ≤ gn by omega)
      have HGN := Lib.hid (show W3.heap.size ≤ gn by have := HFO.out.size; omega)
      rw [← hgn]
      clear hown hgr hblk hgn
      go_wp2
      go_loopw [13] (fun fv wq => ∃ F : Nat, fv = .int .i64 (F : Nat) ∧ F ≤ N ∧ RRow wq gn (N + 1) (nxF ver y g n F) ∧ Below wo.heap.size wo wq) (fun fv _ => N - (intOf fv).toNat)
      case atStart => exact ⟨0, rfl, Nat.zero_le _, HR4.out, HB4.out⟩
      case round =>
        clear HR4 HB4
        obtain ⟨wq, rfl⟩ : ∃ W : World, W = wr := ⟨_, rfl⟩
        obtain ⟨F, rfl, hF, hrn, hbq⟩ := hrel
        have HBQ := Lib.hid hbq
        have HRQ := Lib.hid hrn
        by_cases hlf : F < N
        · obtain ⟨A5, c5, l5, hc5, h5⟩ := hrn.get (k := F) (by omega)
          obtain ⟨A6, c6, l6, hc6, h6⟩ := HRO.out.get (k := F) (by have := HN.out; omega)
          have HC6 := Lib.hid hc6
          have H5 := Lib.hid h5
          have H6 := Lib.hid h6
          have HL5 := Lib.hid (show l5.length ≤ 1000000 by have := HLN.out _ _ _ _ _ h5 (HW3.out n F F (by omega)); omega)
          have HL6 := Lib.hid (show l6.length ≤ 1000000 by have := HLN.out _ _ _ _ _ h6 (HW1.out n F (by omega)); omega)
          have HFQ := Lib.hid (show ∀ X, Below wq.heap.size wq X → Fr (fun i => i = B10) W3 X from fun X hX => frB HFO.out (below_next HBQ.out hX))
          have HLG := Lib.hid (fun W A c l (h : RNatR W A c l (d - y)) => (show l.length ≤ 1000000 by have := HLN.out W A c l _ h (by rw [← HG0.out]; exact HDG.out.2); omega))
          have HLP := Lib.hid (fun W A c l (h : RNatR W A c l (wOp ver y g n F * (d - y))) => (show l.length ≤ 1000000 by have := HLN.out W A c l _ h (by rw [← HG0.out]; exact (HW7.out n F (by omega)).1); omega))
          have HKS := Lib.hid (show ∀ X, Below wq.heap.size wq X → (fun X => Below wq.heap.size wq X ∧ X.cell? ⟨gn, F, none⟩ = some (.slice A5 l5.length c5) ∧ X.cell? ⟨g0, F, none⟩ = some (.slice A6 l6.length c6) ∧ X.cell? ⟨w.heap.size + 1, 1, none⟩ = some (.slice U1 k1.length d1) ∧ X.cell? ⟨w.heap.size + 1, 2, none⟩ = some (.slice U2 k2.length d2)) X from fun X hX => ⟨hX, hc5 X hX, HC6.out X (below_next HBQ.out hX), by rw [cellsAt (HBX.out X (HFQ.out X hX)).2.1]; rfl, by rw [cellsAt (HBX.out X (HFQ.out X hX)).2.1]; rfl⟩)
          have q1 : (0 : Int) ≤ (F : Int) := by omega
          have q2 : (F : Int) < (N : Int) := by omega
          have q3 : (F : Int) < (N : Int) + 1 := by omega
          have q4 : (F : Int) < ((N + 1 : Nat) : Int) := by omega
          clear h5 h6 hc5 hc6 hrn hbq
          go_wp2
          refine wp_region_last (init := #[_, _, _, _, _, _, _, _, _, _, _, _, _, _, _, _, _, _]) (last := _) rfl (by kernel_rfl) (by kernel_rfl) (by kernel_rfl) ?_
          show wpAny _ _ _ _ 18 (Array.replicate 18 false) _ _
          refine wpAny_of_held (S := (fun X => Below wq.heap.size wq X ∧ X.cell? ⟨gn, F, none⟩ = some (.slice A5 l5.length c5) ∧ X.cell? ⟨g0, F, none⟩ = some (.slice A6 l6.length c6) ∧ X.cell? ⟨w.heap.size + 1, 1, none⟩ = some (.slice U1 k1.length d1) ∧ X.cell? ⟨w.heap.size + 1, 2, none⟩ = some (.slice U2 k2.length d2))) _ _ _ _ ?_
          have HS0 := HKS.out _ (Below.refl _ wq).drew
          refine wpAnyH_take (i := 0) (v := ?_) rfl (by kernel_rfl) (by kernel_rfl) (by kernel_rfl) (fun _ _ _ h => h) (Or.inl ⟨by rfl, ?_⟩) HS0 ?_
          rotate_left
          · intro W hW; (try dsimp only at hW); go_simp; try (with_reducible rfl)
          (try simp only [List.getElem_toArray, List.getElem_cons_zero, Act.put, List.setIfInBounds_toArray, List.set_cons_zero, List.set_cons_succ])
          refine wpAnyH_take (i := 1) (v := ?_) rfl (by kernel_rfl) (by kernel_rfl) (by kernel_rfl) (fun _ _ _ h => h) (Or.inl ⟨by rfl, ?_⟩) HS0 ?_
          rotate_left
          · intro W hW; (try dsimp only at hW); go_simp; try (with_reducible rfl)
          (try simp only [List.getElem_toArray, List.getElem_cons_succ, List.getElem_cons_zero, Act.put, List.setIfInBounds_toArray, List.set_cons_zero, List.set_cons_succ])
          refine wpAnyH_take (i := 2) (v := ?_) rfl (by kernel_rfl) (by kernel_rfl) (by kernel_rfl) (fun _ _ _ h => h) (Or.inl ⟨by rfl, ?_⟩) HS0 ?_
          rotate_left
          · intro W hW; (try dsimp only at hW); go_simp; try (with_reducible rfl)
          (try simp only [List.getElem_toArray, List.getElem_cons_succ, List.getElem_cons_zero, Act.put, List.setIfInBounds_toArray, List.set_cons_zero, List.set_cons_succ])
          refine wpAnyH_take (i := 3) (v := ?_) rfl (by kernel_rfl) (by kernel_rfl) (by kernel_rfl) (fun _ _ _ h => h) (Or.inl ⟨by rfl, ?_⟩) HS0 ?_
          rotate_left
          · intro W hW; (try dsimp only at hW); go_simp; try (with_reducible rfl)
          (try simp only [List.getElem_toArray, List.getElem_cons_succ, List.getElem_cons_zero, Act.put, List.setIfInBounds_toArray, List.set_cons_zero, List.set_cons_succ])
          refine wpAnyH_take (i := 4) (v := ?_) rfl (by kernel_rfl) (by kernel_rfl) (by kernel_rfl) (fun _ _ _ h => h) (Or.inl ⟨by rfl, ?_⟩) HS0 ?_
          rotate_left
          · intro W hW; (try dsimp only at hW); go_simp; try (with_reducible rfl)
          (try simp only [List.getElem_toArray, List.getElem_cons_succ, List.getElem_cons_zero, Act.put, List.setIfInBounds_toArray, List.set_cons_zero, List.set_cons_succ])
          refine wpAnyH_take (i := 5) (v := ?_) rfl (by kernel_rfl) (by kernel_rfl) (by kernel_rfl) (fun _ _ _ h => h) (Or.inl ⟨by rfl, ?_⟩) HS0 ?_
          rotate_left
          · intro W hW; (try dsimp only at hW); go_simp; try (with_reducible rfl)
          (try simp only [List.getElem_toArray, List.getElem_cons_succ, List.getElem_cons_zero, Act.put, List.setIfInBounds_toArray, List.set_cons_zero, List.set_cons_succ])
          refine wpAnyH_take (i := 6) (v := ?_) rfl (by kernel_rfl) (by kernel_rfl) (by kernel_rfl) (fun _ _ _ h => h) (Or.inl ⟨by rfl, ?_⟩) HS0 ?_
          rotate_left
          · intro W hW; (try dsimp only at hW); go_simp; try (with_reducible rfl)
          (try simp only [List.getElem_toArray, List.getElem_cons_succ, List.getElem_cons_zero, Act.put, List.setIfInBounds_toArray, List.set_cons_zero, List.set_cons_succ])
          refine wpAnyH_take (i := 7) (v := ?_) rfl (by kernel_rfl) (by kernel_rfl) (by kernel_rfl) (fun _ _ _ h => h) (Or.inl ⟨by rfl, ?_⟩) HS0 ?_
          rotate_left
          · intro W hW; (try dsimp only at hW); go_simp; try (with_reducible rfl)
          (try simp only [List.getElem_toArray, List.getElem_cons_succ, List.getElem_cons_zero, Act.put, List.setIfInBounds_toArray, List.set_cons_zero, List.set_cons_succ])
          refine wpAnyH_take (i := 8) (v := ?_) rfl (by kernel_rfl) (by kernel_rfl) (by kernel_rfl) (fun _ _ _ h => h) (Or.inl ⟨by rfl, ?_⟩) HS0 ?_
          rotate_left
          · intro W hW; (try dsimp only at hW); go_simp; try (with_reducible rfl)
          (try simp only [List.getElem_toArray, List.getElem_cons_succ, List.getElem_cons_zero, Act.put, List.setIfInBounds_toArray, List.set_cons_zero, List.set_cons_succ])
          refine wpAnyH_take (i := 9) (v := ?_) rfl (by kernel_rfl) (by kernel_rfl) (by kernel_rfl) (fun _ _ _ h => h) (Or.inl ⟨by rfl, ?_⟩) HS0 ?_
          rotate_left
          · intro W hW; (try dsimp only at hW); go_simp; try (with_reducible rfl)
          (try simp only [List.getElem_toArray, List.getElem_cons_succ, List.getElem_cons_zero, Act.put, List.setIfInBounds_toArray, List.set_cons_zero, List.set_cons_succ])
          refine wpAnyH_take (i := 10) (v := ?_) rfl (by kernel_rfl) (by kernel_rfl) (by kernel_rfl) (fun _ _ _ h => h) (Or.inl ⟨by rfl, ?_⟩) HS0 ?_
          rotate_left
          · intro W hW; (try dsimp only at hW); go_simp; try (with_reducible rfl)
          (try simp only [List.getElem_toArray, List.getElem_cons_succ, List.getElem_cons_zero, Act.put, List.setIfInBounds_toArray, List.set_cons_zero, List.set_cons_succ])
          refine wpAnyH_take (i := 11) (v := ?_) rfl (by kernel_rfl) (by kernel_rfl) (by kernel_rfl) (fun _ _ _ h => h) (Or.inl ⟨by rfl, ?_⟩) HS0 ?_
          rotate_left
          · intro W hW; (try dsimp only at hW); go_simp; try (with_reducible rfl)
          (try simp only [List.getElem_toArray, List.getElem_cons_succ, List.getElem_cons_zero, Act.put, List.setIfInBounds_toArray, List.set_cons_zero, List.set_cons_succ])
          refine wpAnyH_take (i := 12) (v := ?_) rfl (by kernel_rfl) (by kernel_rfl) (by kernel_rfl) (fun _ _ _ h => h) (Or.inl ⟨by rfl, ?_⟩) HS0 ?_
          rotate_left
          · intro W hW; (try dsimp only at hW); go_simp; try (with_reducible rfl)
          (try simp only [List.getElem_toArray, List.getElem_cons_succ, List.getElem_cons_zero, Act.put, List.setIfInBounds_toArray, List.set_cons_zero, List.set_cons_succ])
          refine wpAnyH_take (i := 13) (v := ?_) rfl (by kernel_rfl) (by kernel_rfl) (by kernel_rfl) (fun _ _ _ h => h) (Or.inl ⟨by rfl, ?_⟩) HS0 ?_
          rotate_left
          · intro W hW; (try dsimp only at hW); go_simp; try (with_reducible rfl)
          (try simp only [List.getElem_toArray, List.getElem_cons_succ, List.getElem_cons_zero, Act.put, List.setIfInBounds_toArray, List.set_cons_zero, List.set_cons_succ])
          refine run_one (i := 14) (by kernel_rfl) rfl rfl ?_
          intro K hK
          go_simp
          refine (rnatSub_any U2 U1 d2 d1 k2 k1 _ _ _ (HU2.out _ (HFQ.out _ HS0.1)) (HU1.out _ (HFQ.out _ HS0.1)) HLU2.out hyd).mono ?_
          rintro e w7 ⟨A7, c7, l7, rfl, hn7, hb7⟩
          refine hK.out _ _ (HKS.out _ (below_next HS0.1 hb7)) ?_
          clear hK K
          have HSP := HS0
          clear HS0
          intro HS0
          refine run_one (i := 15) (by kernel_rfl) rfl rfl ?_
          intro K hK
          go_simp
          refine (rnatMul_any A6 A7 c6 c7 l6 l7 _ _ w7 (H6.out.on (below_next HBQ.out HS0.1)) hn7 HL6.out (HLG.out _ _ _ _ hn7)).mono ?_
          rintro e w8 ⟨A8, c8, l8, rfl, hn8, hb8⟩
          refine hK.out _ _ (HKS.out _ (below_next HS0.1 hb8)) ?_
          clear hK K
          have HSP := HS0
          clear HS0
          intro HS0
          refine run_one (i := 16) (by kernel_rfl) rfl rfl ?_
          intro K hK
          go_simp
          refine (rnatAdd_any A5 A8 c5 c8 l5 l8 _ _ w8 (H5.out.on HS0.1) hn8 HL5.out (HLP.out _ _ _ _ hn8)).mono ?_
          rintro e w9 ⟨A9, c9, l9, rfl, hn9, hb9⟩
          refine hK.out _ _ (HKS.out _ (below_next HS0.1 hb9)) ?_
          clear hK K
          have HSP := HS0
          clear HS0
          intro HS0
          refine wpAnyH_take (i := 17) (v := ?_) rfl (by kernel_rfl) (by kernel_rfl) (by kernel_rfl) (fun _ _ _ h => h) (Or.inl ⟨by rfl, ?_⟩) HS0 ?_
          rotate_left
          · intro W hW; (try dsimp only at hW); go_simp; try (with_reducible rfl)
          (try simp only [List.getElem_toArray, List.getElem_cons_succ, List.getElem_cons_zero, Act.put, List.setIfInBounds_toArray, List.set_cons_zero, List.set_cons_succ])
          refine wpAnyH_done (by kernel_rfl) ?_ _
          simp only [LastQ]
          have HBF := Lib.hid HS0.1
          have hrw := HRQ.out.on HBF.out
          have zf := hrw.frozen F
          have hl9 := hrw.lt
          obtain ⟨_, g5, g6, _, _⟩ := HS0
          obtain ⟨W9, hW9⟩ : ∃ W, W = w9.setCell ⟨gn, F, none⟩ (.slice A9 l9.length c9) := ⟨_, rfl⟩
          have HR9 := Lib.hid (show RRow W9 gn (N + 1) (upN (nxF ver y g n F) F (nxF ver y g n F F + wOp ver y g n F * g)) by
            rw [hW9]
            rw [← HG0.out] at hn9
            exact hrw.set (by omega) hn9)
          have HB9 := Lib.hid (show Below wo.heap.size wo W9 by rw [hW9]; exact (below_next HBQ.out HBF.out).setCell (p := ⟨gn, F, none⟩) HGNW.out _)
          clear HKS HFQ HSP hrw hn7 hb7 hn8 hb8 hn9 hb9 HLG HLP
          go_simp
          rw [← hW9]
          clear hW9 zf hl9 g5 g6
          obtain ⟨F1, hF1⟩ : ∃ k, k = F + 1 := ⟨_, rfl⟩
          obtain ⟨B5, e5, m5, hd5, j5⟩ := HR9.out.get (k := F1) (by omega)
          have e : upN (nxF ver y g n F) F (nxF ver y g n F F + wOp ver y g n F * g) F1 = nxF ver y g n F (F + 1) := by unfold upN; rw [if_neg (by omega), hF1]
          rw [e] at j5
          have HB5 := Lib.hid j5
          have HLB5 := Lib.hid (show m5.length ≤ 1000000 by have := HLN.out _ _ _ _ _ j5 (HW3.out n F (F + 1) (by omega)); omega)
          have HLQ := Lib.hid (fun W A c l (h : RNatR W A c l (wOp ver y g n F * y)) => (show l.length ≤ 1000000 by have := HLN.out W A c l _ h (HW7.out n F (by omega)).2; omega))
          have HFQ9 := Lib.hid (show ∀ X, Below W9.heap.size W9 X → Fr (fun i => i = B10) W3 X from fun X hX => frB HFO.out (below_next HB9.out hX))
          have HKS := Lib.hid (show ∀ X, Below W9.heap.size W9 X → (fun X => Below W9.heap.size W9 X ∧ X.cell? ⟨gn, F1, none⟩ = some (.slice B5 m5.length e5) ∧ X.cell? ⟨g0, F, none⟩ = some (.slice A6 l6.length c6) ∧ X.cell? ⟨w.heap.size + 1, 1, none⟩ = some (.slice U1 k1.length d1)) X from fun X hX => ⟨hX, hd5 X hX, HC6.out X (below_next HB9.out hX), by rw [cellsAt (HBX.out X (HFQ9.out X hX)).2.1]; rfl⟩)
          have hF1' : (F : Int) + 1 = (F1 : Int) := by omega
          have q5 : (0 : Int) ≤ (F1 : Int) := by omega
          have q6 : (F1 : Int) < (N : Int) + 1 := by omega
          have q7 : (F1 : Int) < ((N + 1 : Nat) : Int) := by omega
          have q8 : IntKind.i64.wrap (F1 : Int) = (F1 : Int) := IntWalk.i64_in _ (by omega)
          have HF1 := Lib.hid hF1
          clear e j5 hd5 hF1
          go_wp2
          refine wp_region_last (init := #[_, _, _, _, _, _, _, _, _, _, _, _, _, _, _, _, _]) (last := _) rfl (by kernel_rfl) (by kernel_rfl) (by kernel_rfl) ?_
          show wpAny _ _ _ _ 17 (Array.replicate 17 false) _ _
          refine wpAny_of_held (S := (fun X => Below W9.heap.size W9 X ∧ X.cell? ⟨gn, F1, none⟩ = some (.slice B5 m5.length e5) ∧ X.cell? ⟨g0, F, none⟩ = some (.slice A6 l6.length c6) ∧ X.cell? ⟨w.heap.size + 1, 1, none⟩ = some (.slice U1 k1.length d1))) _ _ _ _ ?_
          have HS0 := HKS.out _ (Below.refl _ W9).drew
          refine wpAnyH_take (i := 0) (v := ?_) rfl (by kernel_rfl) (by kernel_rfl) (by kernel_rfl) (fun _ _ _ h => h) (Or.inl ⟨by rfl, ?_⟩) HS0 ?_
          rotate_left
          · intro W hW; (try dsimp only at hW); go_simp; try (with_reducible rfl)
          (try simp only [List.getElem_toArray, List.getElem_cons_zero, Act.put, List.setIfInBounds_toArray, List.set_cons_zero, List.set_cons_succ])
          refine wpAnyH_take (i := 1) (v := ?_) rfl (by kernel_rfl) (by kernel_rfl) (by kernel_rfl) (fun _ _ _ h => h) (Or.inl ⟨by rfl, ?_⟩) HS0 ?_
          rotate_left
          · intro W hW; (try dsimp only at hW); go_simp; try (with_reducible rfl)
          (try simp only [List.getElem_toArray, List.getElem_cons_succ, List.getElem_cons_zero, Act.put, List.setIfInBounds_toArray, List.set_cons_zero, List.set_cons_succ])
          refine wpAnyH_take (i := 2) (v := ?_) rfl (by kernel_rfl) (by kernel_rfl) (by kernel_rfl) (fun _ _ _ h => h) (Or.inl ⟨by rfl, ?_⟩) HS0 ?_
          rotate_left
          · intro W hW; (try dsimp only at hW); go_simp; try (with_reducible rfl)
          (try simp only [List.getElem_toArray, List.getElem_cons_succ, List.getElem_cons_zero, Act.put, List.setIfInBounds_toArray, List.set_cons_zero, List.set_cons_succ])
          refine wpAnyH_take (i := 3) (v := ?_) rfl (by kernel_rfl) (by kernel_rfl) (by kernel_rfl) (fun _ _ _ h => h) (Or.inl ⟨by rfl, ?_⟩) HS0 ?_
          rotate_left
          · intro W hW; (try dsimp only at hW); go_simp; try (with_reducible rfl)
          (try simp only [List.getElem_toArray, List.getElem_cons_succ, List.getElem_cons_zero, Act.put, List.setIfInBounds_toArray, List.set_cons_zero, List.set_cons_succ])
          refine wpAnyH_take (i := 4) (v := ?_) rfl (by kernel_rfl) (by kernel_rfl) (by kernel_rfl) (fun _ _ _ h => h) (Or.inl ⟨by rfl, ?_⟩) HS0 ?_
          rotate_left
          · intro W hW; (try dsimp only at hW); go_simp; try (with_reducible rfl)
          (try simp only [List.getElem_toArray, List.getElem_cons_succ, List.getElem_cons_zero, Act.put, List.setIfInBounds_toArray, List.set_cons_zero, List.set_cons_succ])
          refine wpAnyH_take (i := 5) (v := ?_) rfl (by kernel_rfl) (by kernel_rfl) (by kernel_rfl) (fun _ _ _ h => h) (Or.inl ⟨by rfl, ?_⟩) HS0 ?_
          rotate_left
          · intro W hW; (try dsimp only at hW); go_simp; try (with_reducible rfl)
          (try simp only [List.getElem_toArray, List.getElem_cons_succ, List.getElem_cons_zero, Act.put, List.setIfInBounds_toArray, List.set_cons_zero, List.set_cons_succ])
          refine wpAnyH_take (i := 6) (v := ?_) rfl (by kernel_rfl) (by kernel_rfl) (by kernel_rfl) (fun _ _ _ h => h) (Or.inl ⟨by rfl, ?_⟩) HS0 ?_
          rotate_left
          · intro W hW; (try dsimp only at hW); go_simp; try (with_reducible rfl)
          (try simp only [List.getElem_toArray, List.getElem_cons_succ, List.getElem_cons_zero, Act.put, List.setIfInBounds_toArray, List.set_cons_zero, List.set_cons_succ])
          refine wpAnyH_take (i := 7) (v := ?_) rfl (by kernel_rfl) (by kernel_rfl) (by kernel_rfl) (fun _ _ _ h => h) (Or.inl ⟨by rfl, ?_⟩) HS0 ?_
          rotate_left
          · intro W hW; (try dsimp only at hW); go_simp; try (with_reducible rfl)
          (try simp only [List.getElem_toArray, List.getElem_cons_succ, List.getElem_cons_zero, Act.put, List.setIfInBounds_toArray, List.set_cons_zero, List.set_cons_succ])
          refine wpAnyH_take (i := 8) (v := ?_) rfl (by kernel_rfl) (by kernel_rfl) (by kernel_rfl) (fun _ _ _ h => h) (Or.inl ⟨by rfl, ?_⟩) HS0 ?_
          rotate_left
          · intro W hW; (try dsimp only at hW); go_simp; try (with_reducible rfl)
          (try simp only [List.getElem_toArray, List.getElem_cons_succ, List.getElem_cons_zero, Act.put, List.setIfInBounds_toArray, List.set_cons_zero, List.set_cons_succ])
          refine wpAnyH_take (i := 9) (v := ?_) rfl (by kernel_rfl) (by kernel_rfl) (by kernel_rfl) (fun _ _ _ h => h) (Or.inl ⟨by rfl, ?_⟩) HS0 ?_
          rotate_left
          · intro W hW; (try dsimp only at hW); go_simp; try (with_reducible rfl)
          (try simp only [List.getElem_toArray, List.getElem_cons_succ, List.getElem_cons_zero, Act.put, List.setIfInBounds_toArray, List.set_cons_zero, List.set_cons_succ])
          refine wpAnyH_take (i := 10) (v := ?_) rfl (by kernel_rfl) (by kernel_rfl) (by kernel_rfl) (fun _ _ _ h => h) (Or.inl ⟨by rfl, ?_⟩) HS0 ?_
          rotate_left
          · intro W hW; (try dsimp only at hW); go_simp; try (with_reducible rfl)
          (try simp only [List.getElem_toArray, List.getElem_cons_succ, List.getElem_cons_zero, Act.put, List.setIfInBounds_toArray, List.set_cons_zero, List.set_cons_succ])
          refine wpAnyH_take (i := 11) (v := ?_) rfl (by kernel_rfl) (by kernel_rfl) (by kernel_rfl) (fun _ _ _ h => h) (Or.inl ⟨by rfl, ?_⟩) HS0 ?_
          rotate_left
          · intro W hW; (try dsimp only at hW); go_simp; try (with_reducible rfl)
          (try simp only [List.getElem_toArray, List.getElem_cons_succ, List.getElem_cons_zero, Act.put, List.setIfInBounds_toArray, List.set_cons_zero, List.set_cons_succ])
          refine wpAnyH_take (i := 12) (v := ?_) rfl (by kernel_rfl) (by kernel_rfl) (by kernel_rfl) (fun _ _ _ h => h) (Or.inl ⟨by rfl, ?_⟩) HS0 ?_
          rotate_left
          · intro W hW; (try dsimp only at hW); go_simp; try (with_reducible rfl)
          (try simp only [List.getElem_toArray, List.getElem_cons_succ, List.getElem_cons_zero, Act.put, List.setIfInBounds_toArray, List.set_cons_zero, List.set_cons_succ])
          refine wpAnyH_take (i := 13) (v := ?_) rfl (by kernel_rfl) (by kernel_rfl) (by kernel_rfl) (fun _ _ _ h => h) (Or.inl ⟨by rfl, ?_⟩) HS0 ?_
          rotate_left
          · intro W hW; (try dsimp only at hW); go_simp; try (with_reducible rfl)
          (try simp only [List.getElem_toArray, List.getElem_cons_succ, List.getElem_cons_zero, Act.put, List.setIfInBounds_toArray, List.set_cons_zero, List.set_cons_succ])
          refine run_one (i := 14) (by kernel_rfl) rfl rfl ?_
          intro K hK
          go_simp
          refine (rnatMul_any A6 U1 c6 d1 l6 k1 _ _ _ (H6.out.on (below_next HB9.out HS0.1)) (HU1.out _ (HFQ9.out _ HS0.1)) HL6.out HLU1.out).mono ?_
          rintro e x7 ⟨B7, e7, m7, rfl, hm7, hc7⟩
          refine hK.out _ _ (HKS.out _ (below_next HS0.1 hc7)) ?_
          clear hK K
          have HSP := HS0
          clear HS0
          intro HS0
          refine run_one (i := 15) (by kernel_rfl) rfl rfl ?_
          intro K hK
          go_simp
          refine (rnatAdd_any B5 B7 e5 e7 m5 m7 _ _ x7 (HB5.out.on HS0.1) hm7 HLB5.out (HLQ.out _ _ _ _ hm7)).mono ?_
          rintro e x8 ⟨B8, e8, m8, rfl, hm8, hc8⟩
          refine hK.out _ _ (HKS.out _ (below_next HS0.1 hc8)) ?_
          clear hK K
          have HSP := HS0
          clear HS0
          intro HS0
          refine wpAnyH_take (i := 16) (v := ?_) rfl (by kernel_rfl) (by kernel_rfl) (by kernel_rfl) (fun _ _ _ h => h) (Or.inl ⟨by rfl, ?_⟩) HS0 ?_
          rotate_left
          · intro W hW; (try dsimp only at hW); go_simp; try (with_reducible rfl)
          (try simp only [List.getElem_toArray, List.getElem_cons_succ, List.getElem_cons_zero, Act.put, List.setIfInBounds_toArray, List.set_cons_zero, List.set_cons_succ])
          refine wpAnyH_done (by kernel_rfl) ?_ _
          simp only [LastQ]
          have HBF2 := Lib.hid HS0.1
          have hrw := HR9.out.on HBF2.out
          have zf := hrw.frozen F1
          have hl9 := hrw.lt
          obtain ⟨_, g5, g6, _⟩ := HS0
          obtain ⟨X9, hX9⟩ : ∃ W, W = x8.setCell ⟨gn, F1, none⟩ (.slice B8 m8.length e8) := ⟨_, rfl⟩
          have HRX9 := Lib.hid (show RRow X9 gn (N + 1) (nxF ver y g n (F + 1)) by
            rw [← nxF_next, hX9, ← HF1.out]
            rw [← HF1.out] at hm8
            exact hrw.set (by omega) hm8)
          have HBX9 := Lib.hid (show Below wo.heap.size wo X9 by rw [hX9]; exact (below_next HB9.out HBF2.out).setCell (p := ⟨gn, F1, none⟩) HGNW.out _)
          clear HKS HFQ9 HSP hrw hm7 hc7 hm8 hc8
          go_simp
          rw [← hX9]
          clear hX9 zf hl9 g5 g6 hF1' q5 q6 q7 q8
          go_wp2
          go_roundw
          case rel => exact ⟨F + 1, by go_num, by omega, HRX9.out, HBX9.out⟩
          case measure => simp [intOf]; omega
        · obtain rfl : N = F := by omega
          have e : nxF ver y g n N = wNx ver y g (n + 1) := by rw [HN.out, nxF_all]
          have HRS0 := Lib.hid (show RRow wq gn (N + 1) (opR ver y g (n + 1) 0) by rw [opR_zero, ← e]; exact HRQ.out)
          have HVS0 := Lib.hid (show VarQ wq B10 (qP ver v y g d n 0) by rw [qP_zero ver v y g d n HD0.out]; exact HVO.out.on hbq)
          have HFS0 := Lib.hid (frB HFO.out hbq)
          clear e hrn hbq hlf
          go_wp2
          go_loopw [14] (fun fv ws => ∃ F : Nat, fv = .int .i64 (F : Nat) ∧ F ≤ N + 1 ∧ RRow ws gn (N + 1) (opR ver y g (n + 1) F) ∧ VarQ ws B10 (qP ver v y g d n F) ∧ Fr (fun i => i = B10) W3 ws) (fun fv _ => N + 1 - (intOf fv).toNat)
          case atStart => exact ⟨0, rfl, Nat.zero_le _, HRS0.out, HVS0.out, HFS0.out⟩
          case round =>
            clear HRS0 HVS0 HFS0
            obtain ⟨ws, rfl⟩ : ∃ W : World, W = wr := ⟨_, rfl⟩
            obtain ⟨F, rfl, hF, hrs, hvs, hfs⟩ := hrel
            have HRS := Lib.hid hrs
            have HVS := Lib.hid hvs
            have HFS := Lib.hid hfs
            clear hrs hvs hfs
            by_cases hlf : F < N + 1
            · have hlf2 : F ≤ N := by omega
              have HHI := Lib.hid (fun W => HHIG.out N F W (by omega) hlf2)
              have HLO := Lib.hid (fun W => HLOW.out N F W (by omega) hlf2)
              obtain ⟨a, ha⟩ : ∃ a, a = hiT r0 (trU p q N F) (trD p q N F) := ⟨_, rfl⟩
              obtain ⟨b, hb⟩ : ∃ a, a = loT r1 (trU p q N F) (trD p q N F) := ⟨_, rfl⟩
              have HVER := Lib.hid (show ver (n + 1) F = if a = true then 2 else if b = true then 1 else 3 by rw [HVR.out, ← HN.out, ← ha, ← hb])
              rw [← ha] at HHI
              rw [← hb] at HLO
              have HOPF := Lib.hid (show opR ver y g (n + 1) F F = wNx ver y g (n + 1) F by unfold opR; rw [if_neg (by omega)])
              have HLD := Lib.hid (fun W A c l (h : RNatR W A c l (d ^ N)) => (show l.length ≤ 900000 by have := HLN.out W A c l _ h (HPWL.out _ (by omega)); omega))
              have HDP := Lib.hid (show 0 < d ^ N from Nat.pow_pos HD0.out)
              have HSZL := Lib.hid (fun F => (show Sz 83 (mkRat (sg false (wNx ver y g (n + 1) F)) (d ^ N)) by rw [HN.out]; exact HSZA.out n F (by omega)))
              have HSZQ := Lib.hid (fun F (hF : F ≤ N + 1) => HSZB.out n F (by omega) (by have := HN.out; omega))
              have HKS15 := Lib.hid (show ∀ X, Below ws.heap.size ws X → (fun X => Below ws.heap.size ws X ∧ X.cell? ⟨w.heap.size, 0, none⟩ = some (.string S0) ∧ X.cell? ⟨w.heap.size, 1, none⟩ = some (.string S1) ∧ X.cell? ⟨w.heap.size, 2, none⟩ = some (.string S2) ∧ X.cell? ⟨w.heap.size, 3, none⟩ = some (.string S3) ∧ X.cell? ⟨w.heap.size, 4, none⟩ = some (.string S4) ∧ X.cell? ⟨w.heap.size, 5, none⟩ = some (.string S5) ∧ X.cell? ⟨w.heap.size, 6, none⟩ = some (.string S6) ∧ X.cell? ⟨w.heap.size, 7, none⟩ = some (.string S7)) X from fun X hX => by
                have h := (HBX.out X (frB HFS.out hX)).1
                exact ⟨hX, by rw [cellsAt h]; rfl, by rw [cellsAt h]; rfl, by rw [cellsAt h]; rfl, by rw [cellsAt h]; rfl, by rw [cellsAt h]; rfl, by rw [cellsAt h]; rfl, by rw [cellsAt h]; rfl, by rw [cellsAt h]; rfl⟩)
              have q1 : (0 : Int) ≤ (F : Int) := by omega
              have q3 : (F : Int) < (N : Int) + 1 := by omega
              have q4 : (F : Int) < ((N + 1 : Nat) : Int) := by omega
              clear ha hb
              go_wp2
              refine wp_region_noPanic ?_
              refine wp_region_held_drew (S := (fun X => Below ws.heap.size ws X ∧ X.cell? ⟨w.heap.size, 0, none⟩ = some (.string S0) ∧ X.cell? ⟨w.heap.size, 1, none⟩ = some (.string S1) ∧ X.cell? ⟨w.heap.size, 2, none⟩ = some (.string S2) ∧ X.cell? ⟨w.heap.size, 3, none⟩ = some (.string S3) ∧ X.cell? ⟨w.heap.size, 4, none⟩ = some (.string S4) ∧ X.cell? ⟨w.heap.size, 5, none⟩ = some (.string S5) ∧ X.cell? ⟨w.heap.size, 6, none⟩ = some (.string S6) ∧ X.cell? ⟨w.heap.size, 7, none⟩ = some (.string S7))) (by kernel_rfl) (HKS15.out _ (Below.refl _ ws).drew) (fun HS0 => ?_)
              have hbx0 : Below ws.heap.size ws ws.drew := (Below.refl _ _).drew
              obtain ⟨Xx0, hXx0⟩ : ∃ X, X = ws.drew := ⟨_, rfl⟩
              rw [← hXx0] at hbx0 HS0 ⊢
              have HBx0 := Lib.hid hbx0
              clear hbx0 hXx0
              refine wpAnyH_take (i := 0) (v := ?_) rfl (by kernel_rfl) (by kernel_rfl) (by kernel_rfl) (fun _ _ _ h => h) (Or.inl ⟨by rfl, ?_⟩) HS0 ?_
              rotate_left
              · intro W hW; (try dsimp only at hW); go_simp; try (with_reducible rfl)

              refine wpAnyH_take (i := 1) (v := ?_) rfl (by kernel_rfl) (by kernel_rfl) (by kernel_rfl) (fun _ _ _ h => h) (Or.inl ⟨by rfl, ?_⟩) HS0 ?_
              rotate_left
              · intro W hW; (try dsimp only at hW); go_simp; try (with_reducible rfl)

              refine wpAnyH_take (i := 2) (v := ?_) rfl (by kernel_rfl) (by kernel_rfl) (by kernel_rfl) (fun _ _ _ h => h) (Or.inl ⟨by rfl, ?_⟩) HS0 ?_
              rotate_left
              · intro W hW; (try dsimp only at hW); go_simp; try (with_reducible rfl)

              refine wpAnyH_take (i := 4) (v := ?_) rfl (by kernel_rfl) (by kernel_rfl) (by kernel_rfl) (fun _ _ _ h => h) (Or.inl ⟨by rfl, ?_⟩) HS0 ?_
              rotate_left
              · intro W hW; (try dsimp only at hW); go_simp; try (with_reducible rfl)

              refine wpAnyH_take (i := 5) (v := ?_) rfl (by kernel_rfl) (by kernel_rfl) (by kernel_rfl) (fun _ _ _ h => h) (Or.inl ⟨by rfl, ?_⟩) HS0 ?_
              rotate_left
              · intro W hW; (try dsimp only at hW); go_simp; try (with_reducible rfl)

              refine wpAnyH_take (i := 6) (v := ?_) rfl (by kernel_rfl) (by kernel_rfl) (by kernel_rfl) (fun _ _ _ h => h) (Or.inl ⟨by rfl, ?_⟩) HS0 ?_
              rotate_left
              · intro W hW; (try dsimp only at hW); go_simp; try (with_reducible rfl)

              clear HS0
              refine run_one (i := 3) (by kernel_rfl) rfl rfl ?_
              intro K hK
              go_simp
              (with_reducible refine (HHI.out Xx0).mono ?_)
              rintro e Xx1 ⟨rfl, hbx1⟩
              have HBx1 := Lib.hid (below_next (HBx0.out) hbx1)
              refine hK.out _ _ (HKS15.out _ HBx1.out) ?_
              clear hK K
              intro _

              refine run_one (i := 7) (by kernel_rfl) rfl rfl ?_
              intro K hK
              go_simp
              (with_reducible refine (HLO.out Xx1).mono ?_)
              rintro e Xx2 ⟨rfl, hbx2⟩
              have HBx2 := Lib.hid (below_next (HBx1.out) hbx2)
              refine hK.out _ _ (HKS15.out _ HBx2.out) ?_
              clear hK K
              intro _

              have HS0 := HKS15.out _ (HBx2.out)
              refine wpAnyH_take (i := 8) (v := ?_) rfl (by kernel_rfl) (by kernel_rfl) (by kernel_rfl) (fun _ _ _ h => h) (Or.inl ⟨by rfl, ?_⟩) HS0 ?_
              rotate_left
              · intro W hW; (try dsimp only at hW); go_simp; try (with_reducible rfl)

              clear HS0
              have HS0 := HKS15.out _ (HBx2.out)
              refine wpAnyH_take (i := 9) (v := ?_) rfl (by kernel_rfl) (by kernel_rfl) (by kernel_rfl) (fun _ _ _ h => h) (Or.inl ⟨by rfl, ?_⟩) HS0 ?_
              rotate_left
              · intro W hW; (try dsimp only at hW); go_simp; try (with_reducible rfl)

              clear HS0
              refine wpAnyH_done (by kernel_rfl) ?_ _
              refine NoPanic.normal ?_
              obtain ⟨wx, hwx⟩ : ∃ W : World, W = Xx2 := ⟨_, rfl⟩
              have HBWX := Lib.hid (show Below ws.heap.size ws wx by rw [hwx]; exact HBx2.out)
              rw [← hwx]
              clear hwx
              have HVX := Lib.hid (HVS.out.on HBWX.out)
              have HRX := Lib.hid (HRS.out.on HBWX.out)
              have HFX := Lib.hid (fun X (hX : Below wx.heap.size wx X) => frB HFS.out (below_next HBWX.out hX))
              cases up with
              | true =>
                have hv' : v = 2 := HVU.out
                cases a with
                | true =>
                  cases b with
                  | true =>
                    have hver : ver (n + 1) F = 2 := by rw [HVER.out]; rfl
                    have HZ := Lib.hid (show wOp ver y g (n + 1) F = 0 from wOp_not ver (by omega) (by rw [hver]; decide))
                    have HQN := Lib.hid (qP_hit ver (y := y) (q := g) HD0.out (hver.trans hv'.symm))
                    clear hver HVER
                    obtain ⟨bO, O1, e1, m1, O2, e2, m2, hO, hOF⟩ := HVX.out.get
                    have HO := Lib.hid hO
                    have HOF := Lib.hid hOF
                    obtain ⟨A5, c5, l5, hc5, h5⟩ := HRX.out.get (k := F) (by omega)
                    rw [HOPF.out] at h5
                    have H5 := Lib.hid h5
                    have HL5 := Lib.hid (HLN.out _ _ _ _ _ h5 (HW2.out (n + 1) F (by omega)))
                    have HKS := Lib.hid (show ∀ X, Below wx.heap.size wx X → (fun X => Below wx.heap.size wx X ∧ X.cell? ⟨B10, 0, none⟩ = some (.bool bO) ∧ X.cell? ⟨B10, 1, none⟩ = some (.slice O1 m1.length e1) ∧ X.cell? ⟨B10, 2, none⟩ = some (.slice O2 m2.length e2) ∧ X.cell? ⟨gn, F, none⟩ = some (.slice A5 l5.length c5) ∧ X.cell? ⟨w.heap.size + 1, 2, none⟩ = some (.slice U2 k2.length d2)) X from fun X hX => ⟨hX, (hO X hX).1, (hO X hX).2.1, (hO X hX).2.2.1, hc5 X hX, by rw [cellsAt (HBX.out X (HFX.out X hX)).2.1]; rfl⟩)
                    have HSZ2 := Lib.hid (HSZL.out F)
                    have HSZ := Lib.hid (HSZQ.out F (by omega))
                    clear hO hOF hc5 h5
                    go_wp2
                    refine wp_region_last (init := #[_, _, _, _, _, _, _, _, _, _, _]) (last := _) rfl (by kernel_rfl) (by kernel_rfl) (by kernel_rfl) ?_
                    show wpAny _ _ _ _ 11 (Array.replicate 11 false) _ _
                    refine wpAny_of_held (S := (fun X => Below wx.heap.size wx X ∧ X.cell? ⟨B10, 0, none⟩ = some (.bool bO) ∧ X.cell? ⟨B10, 1, none⟩ = some (.slice O1 m1.length e1) ∧ X.cell? ⟨B10, 2, none⟩ = some (.slice O2 m2.length e2) ∧ X.cell? ⟨gn, F, none⟩ = some (.slice A5 l5.length c5) ∧ X.cell? ⟨w.heap.size + 1, 2, none⟩ = some (.slice U2 k2.length d2))) _ _ _ _ ?_
                    have HS0 := HKS.out _ (Below.refl _ wx).drew
                    refine wpAnyH_take (i := 0) (v := ?_) rfl (by kernel_rfl) (by kernel_rfl) (by kernel_rfl) (fun _ _ _ h => h) (Or.inl ⟨by rfl, ?_⟩) HS0 ?_
                    rotate_left
                    · intro W hW; (try dsimp only at hW); go_simp; try (with_reducible rfl)
                    (try simp only [List.getElem_toArray, List.getElem_cons_zero, Act.put, List.setIfInBounds_toArray, List.set_cons_zero, List.set_cons_succ])
                    refine wpAnyH_take (i := 1) (v := ?_) rfl (by kernel_rfl) (by kernel_rfl) (by kernel_rfl) (fun _ _ _ h => h) (Or.inl ⟨by rfl, ?_⟩) HS0 ?_
                    rotate_left
                    · intro W hW; (try dsimp only at hW); go_simp; try (with_reducible rfl)
                    (try simp only [List.getElem_toArray, List.getElem_cons_succ, List.getElem_cons_zero, Act.put, List.setIfInBounds_toArray, List.set_cons_zero, List.set_cons_succ])
                    refine wpAnyH_take (i := 2) (v := ?_) rfl (by kernel_rfl) (by kernel_rfl) (by kernel_rfl) (fun _ _ _ h => h) (Or.inl ⟨by rfl, ?_⟩) HS0 ?_
                    rotate_left
                    · intro W hW; (try dsimp only at hW); go_simp; try (with_reducible rfl)
                    (try simp only [List.getElem_toArray, List.getElem_cons_succ, List.getElem_cons_zero, Act.put, List.setIfInBounds_toArray, List.set_cons_zero, List.set_cons_succ])
                    refine wpAnyH_take (i := 3) (v := ?_) rfl (by kernel_rfl) (by kernel_rfl) (by kernel_rfl) (fun _ _ _ h => h) (Or.inl ⟨by rfl, ?_⟩) HS0 ?_
                    rotate_left
                    · intro W hW; (try dsimp only at hW); go_simp; try (with_reducible rfl)
                    (try simp only [List.getElem_toArray, List.getElem_cons_succ, List.getElem_cons_zero, Act.put, List.setIfInBounds_toArray, List.set_cons_zero, List.set_cons_succ])
                    refine wpAnyH_take (i := 4) (v := ?_) rfl (by kernel_rfl) (by kernel_rfl) (by kernel_rfl) (fun _ _ _ h => h) (Or.inl ⟨by rfl, ?_⟩) HS0 ?_
                    rotate_left
                    · intro W hW; (try dsimp only at hW); go_simp; try (with_reducible rfl)
                    (try simp only [List.getElem_toArray, List.getElem_cons_succ, List.getElem_cons_zero, Act.put, List.setIfInBounds_toArray, List.set_cons_zero, List.set_cons_succ])
                    refine wpAnyH_take (i := 5) (v := ?_) rfl (by kernel_rfl) (by kernel_rfl) (by kernel_rfl) (fun _ _ _ h => h) (Or.inl ⟨by rfl, ?_⟩) HS0 ?_
                    rotate_left
                    · intro W hW; (try dsimp only at hW); go_simp; try (with_reducible rfl)
                    (try simp only [List.getElem_toArray, List.getElem_cons_succ, List.getElem_cons_zero, Act.put, List.setIfInBounds_toArray, List.set_cons_zero, List.set_cons_succ])
                    refine wpAnyH_take (i := 6) (v := ?_) rfl (by kernel_rfl) (by kernel_rfl) (by kernel_rfl) (fun _ _ _ h => h) (Or.inl ⟨by rfl, ?_⟩) HS0 ?_
                    rotate_left
                    · intro W hW; (try dsimp only at hW); go_simp; try (with_reducible rfl)
                    (try simp only [List.getElem_toArray, List.getElem_cons_succ, List.getElem_cons_zero, Act.put, List.setIfInBounds_toArray, List.set_cons_zero, List.set_cons_succ])
                    refine wpAnyH_take (i := 7) (v := ?_) rfl (by kernel_rfl) (by kernel_rfl) (by kernel_rfl) (fun _ _ _ h => h) (Or.inl ⟨by rfl, ?_⟩) HS0 ?_
                    rotate_left
                    · intro W hW; (try dsimp only at hW); go_simp; try (with_reducible rfl)
                    (try simp only [List.getElem_toArray, List.getElem_cons_succ, List.getElem_cons_zero, Act.put, List.setIfInBounds_toArray, List.set_cons_zero, List.set_cons_succ])
                    refine run_one (i := 8) (by kernel_rfl) rfl rfl ?_
                    intro K hK
                    go_simp
                    refine (rnatPow_any U2 d2 k2 _ N 2 _ (HU2.out _ (HFX.out _ HS0.1)) HD2.out (by omega) (by omega)).mono ?_
                    rintro e x7 ⟨P7, e7, m7, rfl, hm7, hc7⟩
                    refine hK.out _ _ (HKS.out _ (below_next HS0.1 hc7)) ?_
                    clear hK K
                    have HSP := HS0
                    clear HS0
                    intro HS0
                    refine run_one (i := 9) (by kernel_rfl) rfl rfl ?_
                    intro K hK
                    go_simp
                    refine (rLowest_any false A5 P7 c5 e7 l5 m7 _ _ x7 (H5.out.on HS0.1) hm7 (by have := HL5.out; omega) (HLD.out _ _ _ _ hm7) HDP.out).mono ?_
                    rintro e x8 ⟨v8, rfl, hv8, hc8⟩
                    refine hK.out _ _ (HKS.out _ (below_next HS0.1 hc8)) ?_
                    clear hK K
                    have HSP := HS0
                    clear HS0
                    intro HS0
                    refine run_one (i := 10) (by kernel_rfl) rfl rfl ?_
                    intro K hK
                    go_simp
                    refine (rPlus_any 83 _ _ _ _ x8 (by omega) (HOF.out.on HS0.1) hv8 HSZ.out HSZ2.out).mono ?_
                    rintro e x9 ⟨v9, rfl, hv9, hc9⟩
                    refine hK.out _ _ (HKS.out _ (below_next HS0.1 hc9)) ?_
                    clear hK K
                    have HSP := HS0
                    clear HS0
                    intro HS0
                    refine wpAnyH_done (by kernel_rfl) ?_ _
                    simp only [LastQ]
                    obtain ⟨bN, N1, f1, o1, N2, f2, o2, rfl⟩ := hv9.shape
                    obtain ⟨bR, R1, a1, r1', R2, a2, r2', hraw⟩ := (HVX.out.on HS0.1).raw
                    obtain ⟨y0, y1, y2, y3, y4, y5, y6⟩ := HO.out x9 HS0.1
                    obtain ⟨W11, hW11⟩ : ∃ W, W = (((x9.setCell ⟨B10, 0, none⟩ (.bool bN)).setCell ⟨B10, 1, none⟩ (.slice N1 o1.length f1)).setCell ⟨B10, 2, none⟩ (.slice N2 o2.length f2)) := ⟨_, rfl⟩
                    have hf11 : Fr (fun i => i = B10) x9 W11 := by rw [hW11]; exact fr3 _ _ _
                    have HV11 := Lib.hid (show VarQ W11 B10 (qP ver v y g d n (F + 1)) by
                      rw [hW11, HQN.out]
                      have h := VarQ.store hraw hv9
                      rw [HN.out] at h
                      exact h)
                    have HR11 := Lib.hid (show RRow W11 gn (N + 1) (opR ver y g (n + 1) F) from (HRX.out.on HS0.1).frQ (HVX.out.on HS0.1) hf11)
                    have HF11 := Lib.hid (show Fr (fun i => i = B10) W3 W11 from (HFX.out _ HS0.1).trans hf11 fun i _ h => h)
                    clear HS0 HSP HKS hraw hf11 hv8 hv9 hm7 hc7 hc8 hc9
                    go_simp
                    rw [← hW11]
                    clear hW11 y0 y1 y2 y3 y4 y5 y6
                    obtain ⟨A7, c7, l7, hc7, _⟩ := HR11.out.get (k := F) (by omega)
                    have g7 := hc7 W11 (Below.refl _ _)
                    have zf := HR11.out.frozen F
                    have hlt7 := HR11.out.lt
                    obtain ⟨W12, hW12⟩ : ∃ W, W = W11.setCell ⟨gn, F, none⟩ (.slice none 0 0) := ⟨_, rfl⟩
                    have HR12 := Lib.hid (show RRow W12 gn (N + 1) (opR ver y g (n + 1) (F + 1)) by
                      rw [← opR_hit ver HZ.out, hW12]
                      exact HR11.out.set (l := []) (by omega) (rnatr_nil _))
                    have HV12 := Lib.hid (show VarQ W12 B10 (qP ver v y g d n (F + 1)) by rw [hW12]; exact HV11.out.setR HR11.out F _)
                    have HF12 := Lib.hid (show Fr (fun i => i = B10) W3 W12 by rw [hW12]; exact HF11.out.setCell (p := ⟨gn, F, none⟩) (fun h => absurd h (by have := HGN.out; simp; omega)) _)
                    clear hc7
                    go_wp2
                    rw [← hW12]
                    clear hW12 g7 zf hlt7
                    go_roundw
                    case rel => exact ⟨F + 1, by go_num, by omega, HR12.out, HV12.out, HF12.out⟩
                    case measure => simp [intOf]; omega
                  | false =>
                    have hver : ver (n + 1) F = 2 := by rw [HVER.out]; rfl
                    have HZ := Lib.hid (show wOp ver y g (n + 1) F = 0 from wOp_not ver (by omega) (by rw [hver]; decide))
                    have HQN := Lib.hid (qP_hit ver (y := y) (q := g) HD0.out (hver.trans hv'.symm))
                    clear hver HVER
                    obtain ⟨bO, O1, e1, m1, O2, e2, m2, hO, hOF⟩ := HVX.out.get
                    have HO := Lib.hid hO
                    have HOF := Lib.hid hOF
                    obtain ⟨A5, c5, l5, hc5, h5⟩ := HRX.out.get (k := F) (by omega)
                    rw [HOPF.out] at h5
                    have H5 := Lib.hid h5
                    have HL5 := Lib.hid (HLN.out _ _ _ _ _ h5 (HW2.out (n + 1) F (by omega)))
                    have HKS := Lib.hid (show ∀ X, Below wx.heap.size wx X → (fun X => Below wx.heap.size wx X ∧ X.cell? ⟨B10, 0, none⟩ = some (.bool bO) ∧ X.cell? ⟨B10, 1, none⟩ = some (.slice O1 m1.length e1) ∧ X.cell? ⟨B10, 2, none⟩ = some (.slice O2 m2.length e2) ∧ X.cell? ⟨gn, F, none⟩ = some (.slice A5 l5.length c5) ∧ X.cell? ⟨w.heap.size + 1, 2, none⟩ = some (.slice U2 k2.length d2)) X from fun X hX => ⟨hX, (hO X hX).1, (hO X hX).2.1, (hO X hX).2.2.1, hc5 X hX, by rw [cellsAt (HBX.out X (HFX.out X hX)).2.1]; rfl⟩)
                    have HSZ2 := Lib.hid (HSZL.out F)
                    have HSZ := Lib.hid (HSZQ.out F (by omega))
                    clear hO hOF hc5 h5
                    go_wp2
                    refine wp_region_last (init := #[_, _, _, _, _, _, _, _, _, _, _]) (last := _) rfl (by kernel_rfl) (by kernel_rfl) (by kernel_rfl) ?_
                    show wpAny _ _ _ _ 11 (Array.replicate 11 false) _ _
                    refine wpAny_of_held (S := (fun X => Below wx.heap.size wx X ∧ X.cell? ⟨B10, 0, none⟩ = some (.bool bO) ∧ X.cell? ⟨B10, 1, none⟩ = some (.slice O1 m1.length e1) ∧ X.cell? ⟨B10, 2, none⟩ = some (.slice O2 m2.length e2) ∧ X.cell? ⟨gn, F, none⟩ = some (.slice A5 l5.length c5) ∧ X.cell? ⟨w.heap.size + 1, 2, none⟩ = some (.slice U2 k2.length d2))) _ _ _ _ ?_
                    have HS0 := HKS.out _ (Below.refl _ wx).drew
                    refine wpAnyH_take (i := 0) (v := ?_) rfl (by kernel_rfl) (by kernel_rfl) (by kernel_rfl) (fun _ _ _ h => h) (Or.inl ⟨by rfl, ?_⟩) HS0 ?_
                    rotate_left
                    · intro W hW; (try dsimp only at hW); go_simp; try (with_reducible rfl)
                    (try simp only [List.getElem_toArray, List.getElem_cons_zero, Act.put, List.setIfInBounds_toArray, List.set_cons_zero, List.set_cons_succ])
                    refine wpAnyH_take (i := 1) (v := ?_) rfl (by kernel_rfl) (by kernel_rfl) (by kernel_rfl) (fun _ _ _ h => h) (Or.inl ⟨by rfl, ?_⟩) HS0 ?_
                    rotate_left
                    · intro W hW; (try dsimp only at hW); go_simp; try (with_reducible rfl)
                    (try simp only [List.getElem_toArray, List.getElem_cons_succ, List.getElem_cons_zero, Act.put, List.setIfInBounds_toArray, List.set_cons_zero, List.set_cons_succ])
                    refine wpAnyH_take (i := 2) (v := ?_) rfl (by kernel_rfl) (by kernel_rfl) (by kernel_rfl) (fun _ _ _ h => h) (Or.inl ⟨by rfl, ?_⟩) HS0 ?_
                    rotate_left
                    · intro W hW; (try dsimp only at hW); go_simp; try (with_reducible rfl)
                    (try simp only [List.getElem_toArray, List.getElem_cons_succ, List.getElem_cons_zero, Act.put, List.setIfInBounds_toArray, List.set_cons_zero, List.set_cons_succ])
                    refine wpAnyH_take (i := 3) (v := ?_) rfl (by kernel_rfl) (by kernel_rfl) (by kernel_rfl) (fun _ _ _ h => h) (Or.inl ⟨by rfl, ?_⟩) HS0 ?_
                    rotate_left
                    · intro W hW; (try dsimp only at hW); go_simp; try (with_reducible rfl)
                    (try simp only [List.getElem_toArray, List.getElem_cons_succ, List.getElem_cons_zero, Act.put, List.setIfInBounds_toArray, List.set_cons_zero, List.set_cons_succ])
                    refine wpAnyH_take (i := 4) (v := ?_) rfl (by kernel_rfl) (by kernel_rfl) (by kernel_rfl) (fun _ _ _ h => h) (Or.inl ⟨by rfl, ?_⟩) HS0 ?_
                    rotate_left
                    · intro W hW; (try dsimp only at hW); go_simp; try (with_reducible rfl)
                    (try simp only [List.getElem_toArray, List.getElem_cons_succ, List.getElem_cons_zero, Act.put, List.setIfInBounds_toArray, List.set_cons_zero, List.set_cons_succ])
                    refine wpAnyH_take (i := 5) (v := ?_) rfl (by kernel_rfl) (by kernel_rfl) (by kernel_rfl) (fun _ _ _ h => h) (Or.inl ⟨by rfl, ?_⟩) HS0 ?_
                    rotate_left
                    · intro W hW; (try dsimp only at hW); go_simp; try (with_reducible rfl)
                    (try simp only [List.getElem_toArray, List.getElem_cons_succ, List.getElem_cons_zero, Act.put, List.setIfInBounds_toArray, List.set_cons_zero, List.set_cons_succ])
                    refine wpAnyH_take (i := 6) (v := ?_) rfl (by kernel_rfl) (by kernel_rfl) (by kernel_rfl) (fun _ _ _ h => h) (Or.inl ⟨by rfl, ?_⟩) HS0 ?_
                    rotate_left
                    · intro W hW; (try dsimp only at hW); go_simp; try (with_reducible rfl)
                    (try simp only [List.getElem_toArray, List.getElem_cons_succ, List.getElem_cons_zero, Act.put, List.setIfInBounds_toArray, List.set_cons_zero, List.set_cons_succ])
                    refine wpAnyH_take (i := 7) (v := ?_) rfl (by kernel_rfl) (by kernel_rfl) (by kernel_rfl) (fun _ _ _ h => h) (Or.inl ⟨by rfl, ?_⟩) HS0 ?_
                    rotate_left
                    · intro W hW; (try dsimp only at hW); go_simp; try (with_reducible rfl)
                    (try simp only [List.getElem_toArray, List.getElem_cons_succ, List.getElem_cons_zero, Act.put, List.setIfInBounds_toArray, List.set_cons_zero, List.set_cons_succ])
                    refine run_one (i := 8) (by kernel_rfl) rfl rfl ?_
                    intro K hK
                    go_simp
                    refine (rnatPow_any U2 d2 k2 _ N 2 _ (HU2.out _ (HFX.out _ HS0.1)) HD2.out (by omega) (by omega)).mono ?_
                    rintro e x7 ⟨P7, e7, m7, rfl, hm7, hc7⟩
                    refine hK.out _ _ (HKS.out _ (below_next HS0.1 hc7)) ?_
                    clear hK K
                    have HSP := HS0
                    clear HS0
                    intro HS0
                    refine run_one (i := 9) (by kernel_rfl) rfl rfl ?_
                    intro K hK
                    go_simp
                    refine (rLowest_any false A5 P7 c5 e7 l5 m7 _ _ x7 (H5.out.on HS0.1) hm7 (by have := HL5.out; omega) (HLD.out _ _ _ _ hm7) HDP.out).mono ?_
                    rintro e x8 ⟨v8, rfl, hv8, hc8⟩
                    refine hK.out _ _ (HKS.out _ (below_next HS0.1 hc8)) ?_
                    clear hK K
                    have HSP := HS0
                    clear HS0
                    intro HS0
                    refine run_one (i := 10) (by kernel_rfl) rfl rfl ?_
                    intro K hK
                    go_simp
                    refine (rPlus_any 83 _ _ _ _ x8 (by omega) (HOF.out.on HS0.1) hv8 HSZ.out HSZ2.out).mono ?_
                    rintro e x9 ⟨v9, rfl, hv9, hc9⟩
                    refine hK.out _ _ (HKS.out _ (below_next HS0.1 hc9)) ?_
                    clear hK K
                    have HSP := HS0
                    clear HS0
                    intro HS0
                    refine wpAnyH_done (by kernel_rfl) ?_ _
                    simp only [LastQ]
                    obtain ⟨bN, N1, f1, o1, N2, f2, o2, rfl⟩ := hv9.shape
                    obtain ⟨bR, R1, a1, r1', R2, a2, r2', hraw⟩ := (HVX.out.on HS0.1).raw
                    obtain ⟨y0, y1, y2, y3, y4, y5, y6⟩ := HO.out x9 HS0.1
                    obtain ⟨W11, hW11⟩ : ∃ W, W = (((x9.setCell ⟨B10, 0, none⟩ (.bool bN)).setCell ⟨B10, 1, none⟩ (.slice N1 o1.length f1)).setCell ⟨B10, 2, none⟩ (.slice N2 o2.length f2)) := ⟨_, rfl⟩
                    have hf11 : Fr (fun i => i = B10) x9 W11 := by rw [hW11]; exact fr3 _ _ _
                    have HV11 := Lib.hid (show VarQ W11 B10 (qP ver v y g d n (F + 1)) by
                      rw [hW11, HQN.out]
                      have h := VarQ.store hraw hv9
                      rw [HN.out] at h
                      exact h)
                    have HR11 := Lib.hid (show RRow W11 gn (N + 1) (opR ver y g (n + 1) F) from (HRX.out.on HS0.1).frQ (HVX.out.on HS0.1) hf11)
                    have HF11 := Lib.hid (show Fr (fun i => i = B10) W3 W11 from (HFX.out _ HS0.1).trans hf11 fun i _ h => h)
                    clear HS0 HSP HKS hraw hf11 hv8 hv9 hm7 hc7 hc8 hc9
                    go_simp
                    rw [← hW11]
                    clear hW11 y0 y1 y2 y3 y4 y5 y6
                    obtain ⟨A7, c7, l7, hc7, _⟩ := HR11.out.get (k := F) (by omega)
                    have g7 := hc7 W11 (Below.refl _ _)
                    have zf := HR11.out.frozen F
                    have hlt7 := HR11.out.lt
                    obtain ⟨W12, hW12⟩ : ∃ W, W = W11.setCell ⟨gn, F, none⟩ (.slice none 0 0) := ⟨_, rfl⟩
                    have HR12 := Lib.hid (show RRow W12 gn (N + 1) (opR ver y g (n + 1) (F + 1)) by
                      rw [← opR_hit ver HZ.out, hW12]
                      exact HR11.out.set (l := []) (by omega) (rnatr_nil _))
                    have HV12 := Lib.hid (show VarQ W12 B10 (qP ver v y g d n (F + 1)) by rw [hW12]; exact HV11.out.setR HR11.out F _)
                    have HF12 := Lib.hid (show Fr (fun i => i = B10) W3 W12 by rw [hW12]; exact HF11.out.setCell (p := ⟨gn, F, none⟩) (fun h => absurd h (by have := HGN.out; simp; omega)) _)
                    clear hc7
                    go_wp2
                    rw [← hW12]
                    clear hW12 g7 zf hlt7
                    go_roundw
                    case rel => exact ⟨F + 1, by go_num, by omega, HR12.out, HV12.out, HF12.out⟩
                    case measure => simp [intOf]; omega
                | false =>
                  cases b with
                  | true =>
                    have hver : ver (n + 1) F = 1 := by rw [HVER.out]; rfl
                    have HZ := Lib.hid (show wOp ver y g (n + 1) F = 0 from wOp_not ver (by omega) (by rw [hver]; decide))
                    have HQN := Lib.hid (qP_miss ver (v := v) (y := y) (q := g) (d := d) (show ver (n + 1) F ≠ v by rw [hver, hv']; decide))
                    clear hver HVER
                    obtain ⟨W11, rfl⟩ : ∃ W : World, W = wx := ⟨_, rfl⟩
                    have HV11 := Lib.hid (show VarQ W11 B10 (qP ver v y g d n (F + 1)) by rw [HQN.out]; exact HVX.out)
                    have HR11 := HRX
                    have HF11 := Lib.hid (HFX.out _ (Below.refl _ _))
                    obtain ⟨A7, c7, l7, hc7, _⟩ := HR11.out.get (k := F) (by omega)
                    have g7 := hc7 W11 (Below.refl _ _)
                    have zf := HR11.out.frozen F
                    have hlt7 := HR11.out.lt
                    obtain ⟨W12, hW12⟩ : ∃ W, W = W11.setCell ⟨gn, F, none⟩ (.slice none 0 0) := ⟨_, rfl⟩
                    have HR12 := Lib.hid (show RRow W12 gn (N + 1) (opR ver y g (n + 1) (F + 1)) by
                      rw [← opR_hit ver HZ.out, hW12]
                      exact HR11.out.set (l := []) (by omega) (rnatr_nil _))
                    have HV12 := Lib.hid (show VarQ W12 B10 (qP ver v y g d n (F + 1)) by rw [hW12]; exact HV11.out.setR HR11.out F _)
                    have HF12 := Lib.hid (show Fr (fun i => i = B10) W3 W12 by rw [hW12]; exact HF11.out.setCell (p := ⟨gn, F, none⟩) (fun h => absurd h (by have := HGN.out; simp; omega)) _)
                    clear hc7
                    go_wp2
                    rw [← hW12]
                    clear hW12 g7 zf hlt7
                    go_roundw
                    case rel => exact ⟨F + 1, by go_num, by omega, HR12.out, HV12.out, HF12.out⟩
                    case measure => simp [intOf]; omega
                  | false =>
                    have hver : ver (n + 1) F = 3 := by rw [HVER.out]; rfl
                    have HZ := Lib.hid (show wOp ver y g (n + 1) F = wNx ver y g (n + 1) F from wOp_open ver hver)
                    have HQN := Lib.hid (qP_miss ver (v := v) (y := y) (q := g) (d := d) (show ver (n + 1) F ≠ v by rw [hver, hv']; decide))
                    clear hver HVER
                    obtain ⟨W11, rfl⟩ : ∃ W : World, W = wx := ⟨_, rfl⟩
                    have HV11 := Lib.hid (show VarQ W11 B10 (qP ver v y g d n (F + 1)) by rw [HQN.out]; exact HVX.out)
                    have HR11 := HRX
                    have HF11 := Lib.hid (HFX.out _ (Below.refl _ _))
                    have HR12 := Lib.hid (show RRow W11 gn (N + 1) (opR ver y g (n + 1) (F + 1)) by rw [opR_keep ver HZ.out]; exact HR11.out)
                    go_wp2
                    go_roundw
                    case rel => exact ⟨F + 1, by go_num, by omega, HR12.out, HV11.out, HF11.out⟩
                    case measure => simp [intOf]; omega
              | false =>
                have hv' : v = 1 := HVU.out
                cases a with
                | true =>
                  cases b with
                  | true =>
                    have hver : ver (n + 1) F = 2 := by rw [HVER.out]; rfl
                    have HZ := Lib.hid (show wOp ver y g (n + 1) F = 0 from wOp_not ver (by omega) (by rw [hver]; decide))
                    have HQN := Lib.hid (qP_miss ver (v := v) (y := y) (q := g) (d := d) (show ver (n + 1) F ≠ v by rw [hver, hv']; decide))
                    clear hver HVER
                    obtain ⟨W11, rfl⟩ : ∃ W : World, W = wx := ⟨_, rfl⟩
                    have HV11 := Lib.hid (show VarQ W11 B10 (qP ver v y g d n (F + 1)) by rw [HQN.out]; exact HVX.out)
                    have HR11 := HRX
                    have HF11 := Lib.hid (HFX.out _ (Below.refl _ _))
                    obtain ⟨A7, c7, l7, hc7, _⟩ := HR11.out.get (k := F) (by omega)
                    have g7 := hc7 W11 (Below.refl _ _)
                    have zf := HR11.out.frozen F
                    have hlt7 := HR11.out.lt
                    obtain ⟨W12, hW12⟩ : ∃ W, W = W11.setCell ⟨gn, F, none⟩ (.slice none 0 0) := ⟨_, rfl⟩
                    have HR12 := Lib.hid (show RRow W12 gn (N + 1) (opR ver y g (n + 1) (F + 1)) by
                      rw [← opR_hit ver HZ.out, hW12]
                      exact HR11.out.set (l := []) (by omega) (rnatr_nil _))
                    have HV12 := Lib.hid (show VarQ W12 B10 (qP ver v y g d n (F + 1)) by rw [hW12]; exact HV11.out.setR HR11.out F _)
                    have HF12 := Lib.hid (show Fr (fun i => i = B10) W3 W12 by rw [hW12]; exact HF11.out.setCell (p := ⟨gn, F, none⟩) (fun h => absurd h (by have := HGN.out; simp; omega)) _)
                    clear hc7
                    go_wp2
                    rw [← hW12]
                    clear hW12 g7 zf hlt7
                    go_roundw
                    case rel => exact ⟨F + 1, by go_num, by omega, HR12.out, HV12.out, HF12.out⟩
                    case measure => simp [intOf]; omega
                  | false =>
                    have hver : ver (n + 1) F = 2 := by rw [HVER.out]; rfl
                    have HZ := Lib.hid (show wOp ver y g (n + 1) F = 0 from wOp_not ver (by omega) (by rw [hver]; decide))
                    have HQN := Lib.hid (qP_miss ver (v := v) (y := y) (q := g) (d := d) (show ver (n + 1) F ≠ v by rw [hver, hv']; decide))
                    clear hver HVER
                    obtain ⟨W11, rfl⟩ : ∃ W : World, W = wx := ⟨_, rfl⟩
                    have HV11 := Lib.hid (show VarQ W11 B10 (qP ver v y g d n (F + 1)) by rw [HQN.out]; exact HVX.out)
                    have HR11 := HRX
                    have HF11 := Lib.hid (HFX.out _ (Below.refl _ _))
                    obtain ⟨A7, c7, l7, hc7, _⟩ := HR11.out.get (k := F) (by omega)
                    have g7 := hc7 W11 (Below.refl _ _)
                    have zf := HR11.out.frozen F
                    have hlt7 := HR11.out.lt
                    obtain ⟨W12, hW12⟩ : ∃ W, W = W11.setCell ⟨gn, F, none⟩ (.slice none 0 0) := ⟨_, rfl⟩
                    have HR12 := Lib.hid (show RRow W12 gn (N + 1) (opR ver y g (n + 1) (F + 1)) by
                      rw [← opR_hit ver HZ.out, hW12]
                      exact HR11.out.set (l := []) (by omega) (rnatr_nil _))
                    have HV12 := Lib.hid (show VarQ W12 B10 (qP ver v y g d n (F + 1)) by rw [hW12]; exact HV11.out.setR HR11.out F _)
                    have HF12 := Lib.hid (show Fr (fun i => i = B10) W3 W12 by rw [hW12]; exact HF11.out.setCell (p := ⟨gn, F, none⟩) (fun h => absurd h (by have := HGN.out; simp; omega)) _)
                    clear hc7
                    go_wp2
                    rw [← hW12]
                    clear hW12 g7 zf hlt7
                    go_roundw
                    case rel => exact ⟨F + 1, by go_num, by omega, HR12.out, HV12.out, HF12.out⟩
                    case measure => simp [intOf]; omega
                | false =>
                  cases b with
                  | true =>
                    have hver : ver (n + 1) F = 1 := by rw [HVER.out]; rfl
                    have HZ := Lib.hid (show wOp ver y g (n + 1) F = 0 from wOp_not ver (by omega) (by rw [hver]; decide))
                    have HQN := Lib.hid (qP_hit ver (y := y) (q := g) HD0.out (hver.trans hv'.symm))
                    clear hver HVER
                    obtain ⟨bO, O1, e1, m1, O2, e2, m2, hO, hOF⟩ := HVX.out.get
                    have HO := Lib.hid hO
                    have HOF := Lib.hid hOF
                    obtain ⟨A5, c5, l5, hc5, h5⟩ := HRX.out.get (k := F) (by omega)
                    rw [HOPF.out] at h5
                    have H5 := Lib.hid h5
                    have HL5 := Lib.hid (HLN.out _ _ _ _ _ h5 (HW2.out (n + 1) F (by omega)))
                    have HKS := Lib.hid (show ∀ X, Below wx.heap.size wx X → (fun X => Below wx.heap.size wx X ∧ X.cell? ⟨B10, 0, none⟩ = some (.bool bO) ∧ X.cell? ⟨B10, 1, none⟩ = some (.slice O1 m1.length e1) ∧ X.cell? ⟨B10, 2, none⟩ = some (.slice O2 m2.length e2) ∧ X.cell? ⟨gn, F, none⟩ = some (.slice A5 l5.length c5) ∧ X.cell? ⟨w.heap.size + 1, 2, none⟩ = some (.slice U2 k2.length d2)) X from fun X hX => ⟨hX, (hO X hX).1, (hO X hX).2.1, (hO X hX).2.2.1, hc5 X hX, by rw [cellsAt (HBX.out X (HFX.out X hX)).2.1]; rfl⟩)
                    have HSZ2 := Lib.hid (HSZL.out F)
                    have HSZ := Lib.hid (HSZQ.out F (by omega))
                    clear hO hOF hc5 h5
                    go_wp2
                    refine wp_region_last (init := #[_, _, _, _, _, _, _, _, _, _, _]) (last := _) rfl (by kernel_rfl) (by kernel_rfl) (by kernel_rfl) ?_
                    show wpAny _ _ _ _ 11 (Array.replicate 11 false) _ _
                    refine wpAny_of_held (S := (fun X => Below wx.heap.size wx X ∧ X.cell? ⟨B10, 0, none⟩ = some (.bool bO) ∧ X.cell? ⟨B10, 1, none⟩ = some (.slice O1 m1.length e1) ∧ X.cell? ⟨B10, 2, none⟩ = some (.slice O2 m2.length e2) ∧ X.cell? ⟨gn, F, none⟩ = some (.slice A5 l5.length c5) ∧ X.cell? ⟨w.heap.size + 1, 2, none⟩ = some (.slice U2 k2.length d2))) _ _ _ _ ?_
                    have HS0 := HKS.out _ (Below.refl _ wx).drew
                    refine wpAnyH_take (i := 0) (v := ?_) rfl (by kernel_rfl) (by kernel_rfl) (by kernel_rfl) (fun _ _ _ h => h) (Or.inl ⟨by rfl, ?_⟩) HS0 ?_
                    rotate_left
                    · intro W hW; (try dsimp only at hW); go_simp; try (with_reducible rfl)
                    (try simp only [List.getElem_toArray, List.getElem_cons_zero, Act.put, List.setIfInBounds_toArray, List.set_cons_zero, List.set_cons_succ])
                    refine wpAnyH_take (i := 1) (v := ?_) rfl (by kernel_rfl) (by kernel_rfl) (by kernel_rfl) (fun _ _ _ h => h) (Or.inl ⟨by rfl, ?_⟩) HS0 ?_
                    rotate_left
                    · intro W hW; (try dsimp only at hW); go_simp; try (with_reducible rfl)
                    (try simp only [List.getElem_toArray, List.getElem_cons_succ, List.getElem_cons_zero, Act.put, List.setIfInBounds_toArray, List.set_cons_zero, List.set_cons_succ])
                    refine wpAnyH_take (i := 2) (v := ?_) rfl (by kernel_rfl) (by kernel_rfl) (by kernel_rfl) (fun _ _ _ h => h) (Or.inl ⟨by rfl, ?_⟩) HS0 ?_
                    rotate_left
                    · intro W hW; (try dsimp only at hW); go_simp; try (with_reducible rfl)
                    (try simp only [List.getElem_toArray, List.getElem_cons_succ, List.getElem_cons_zero, Act.put, List.setIfInBounds_toArray, List.set_cons_zero, List.set_cons_succ])
                    refine wpAnyH_take (i := 3) (v := ?_) rfl (by kernel_rfl) (by kernel_rfl) (by kernel_rfl) (fun _ _ _ h => h) (Or.inl ⟨by rfl, ?_⟩) HS0 ?_
                    rotate_left
                    · intro W hW; (try dsimp only at hW); go_simp; try (with_reducible rfl)
                    (try simp only [List.getElem_toArray, List.getElem_cons_succ, List.getElem_cons_zero, Act.put, List.setIfInBounds_toArray, List.set_cons_zero, List.set_cons_succ])
                    refine wpAnyH_take (i := 4) (v := ?_) rfl (by kernel_rfl) (by kernel_rfl) (by kernel_rfl) (fun _ _ _ h => h) (Or.inl ⟨by rfl, ?_⟩) HS0 ?_
                    rotate_left
                    · intro W hW; (try dsimp only at hW); go_simp; try (with_reducible rfl)
                    (try simp only [List.getElem_toArray, List.getElem_cons_succ, List.getElem_cons_zero, Act.put, List.setIfInBounds_toArray, List.set_cons_zero, List.set_cons_succ])
                    refine wpAnyH_take (i := 5) (v := ?_) rfl (by kernel_rfl) (by kernel_rfl) (by kernel_rfl) (fun _ _ _ h => h) (Or.inl ⟨by rfl, ?_⟩) HS0 ?_
                    rotate_left
                    · intro W hW; (try dsimp only at hW); go_simp; try (with_reducible rfl)
                    (try simp only [List.getElem_toArray, List.getElem_cons_succ, List.getElem_cons_zero, Act.put, List.setIfInBounds_toArray, List.set_cons_zero, List.set_cons_succ])
                    refine wpAnyH_take (i := 6) (v := ?_) rfl (by kernel_rfl) (by kernel_rfl) (by kernel_rfl) (fun _ _ _ h => h) (Or.inl ⟨by rfl, ?_⟩) HS0 ?_
                    rotate_left
                    · intro W hW; (try dsimp only at hW); go_simp; try (with_reducible rfl)
                    (try simp only [List.getElem_toArray, List.getElem_cons_succ, List.getElem_cons_zero, Act.put, List.setIfInBounds_toArray, List.set_cons_zero, List.set_cons_succ])
                    refine wpAnyH_take (i := 7) (v := ?_) rfl (by kernel_rfl) (by kernel_rfl) (by kernel_rfl) (fun _ _ _ h => h) (Or.inl ⟨by rfl, ?_⟩) HS0 ?_
                    rotate_left
                    · intro W hW; (try dsimp only at hW); go_simp; try (with_reducible rfl)
                    (try simp only [List.getElem_toArray, List.getElem_cons_succ, List.getElem_cons_zero, Act.put, List.setIfInBounds_toArray, List.set_cons_zero, List.set_cons_succ])
                    refine run_one (i := 8) (by kernel_rfl) rfl rfl ?_
                    intro K hK
                    go_simp
                    refine (rnatPow_any U2 d2 k2 _ N 2 _ (HU2.out _ (HFX.out _ HS0.1)) HD2.out (by omega) (by omega)).mono ?_
                    rintro e x7 ⟨P7, e7, m7, rfl, hm7, hc7⟩
                    refine hK.out _ _ (HKS.out _ (below_next HS0.1 hc7)) ?_
                    clear hK K
                    have HSP := HS0
                    clear HS0
                    intro HS0
                    refine run_one (i := 9) (by kernel_rfl) rfl rfl ?_
                    intro K hK
                    go_simp
                    refine (rLowest_any false A5 P7 c5 e7 l5 m7 _ _ x7 (H5.out.on HS0.1) hm7 (by have := HL5.out; omega) (HLD.out _ _ _ _ hm7) HDP.out).mono ?_
                    rintro e x8 ⟨v8, rfl, hv8, hc8⟩
                    refine hK.out _ _ (HKS.out _ (below_next HS0.1 hc8)) ?_
                    clear hK K
                    have HSP := HS0
                    clear HS0
                    intro HS0
                    refine run_one (i := 10) (by kernel_rfl) rfl rfl ?_
                    intro K hK
                    go_simp
                    refine (rPlus_any 83 _ _ _ _ x8 (by omega) (HOF.out.on HS0.1) hv8 HSZ.out HSZ2.out).mono ?_
                    rintro e x9 ⟨v9, rfl, hv9, hc9⟩
                    refine hK.out _ _ (HKS.out _ (below_next HS0.1 hc9)) ?_
                    clear hK K
                    have HSP := HS0
                    clear HS0
                    intro HS0
                    refine wpAnyH_done (by kernel_rfl) ?_ _
                    simp only [LastQ]
                    obtain ⟨bN, N1, f1, o1, N2, f2, o2, rfl⟩ := hv9.shape
                    obtain ⟨bR, R1, a1, r1', R2, a2, r2', hraw⟩ := (HVX.out.on HS0.1).raw
                    obtain ⟨y0, y1, y2, y3, y4, y5, y6⟩ := HO.out x9 HS0.1
                    obtain ⟨W11, hW11⟩ : ∃ W, W = (((x9.setCell ⟨B10, 0, none⟩ (.bool bN)).setCell ⟨B10, 1, none⟩ (.slice N1 o1.length f1)).setCell ⟨B10, 2, none⟩ (.slice N2 o2.length f2)) := ⟨_, rfl⟩
                    have hf11 : Fr (fun i => i = B10) x9 W11 := by rw [hW11]; exact fr3 _ _ _
                    have HV11 := Lib.hid (show VarQ W11 B10 (qP ver v y g d n (F + 1)) by
                      rw [hW11, HQN.out]
                      have h := VarQ.store hraw hv9
                      rw [HN.out] at h
                      exact h)
                    have HR11 := Lib.hid (show RRow W11 gn (N + 1) (opR ver y g (n + 1) F) from (HRX.out.on HS0.1).frQ (HVX.out.on HS0.1) hf11)
                    have HF11 := Lib.hid (show Fr (fun i => i = B10) W3 W11 from (HFX.out _ HS0.1).trans hf11 fun i _ h => h)
                    clear HS0 HSP HKS hraw hf11 hv8 hv9 hm7 hc7 hc8 hc9
                    go_simp
                    rw [← hW11]
                    clear hW11 y0 y1 y2 y3 y4 y5 y6
                    obtain ⟨A7, c7, l7, hc7, _⟩ := HR11.out.get (k := F) (by omega)
                    have g7 := hc7 W11 (Below.refl _ _)
                    have zf := HR11.out.frozen F
                    have hlt7 := HR11.out.lt
                    obtain ⟨W12, hW12⟩ : ∃ W, W = W11.setCell ⟨gn, F, none⟩ (.slice none 0 0) := ⟨_, rfl⟩
                    have HR12 := Lib.hid (show RRow W12 gn (N + 1) (opR ver y g (n + 1) (F + 1)) by
                      rw [← opR_hit ver HZ.out, hW12]
                      exact HR11.out.set (l := []) (by omega) (rnatr_nil _))
                    have HV12 := Lib.hid (show VarQ W12 B10 (qP ver v y g d n (F + 1)) by rw [hW12]; exact HV11.out.setR HR11.out F _)
                    have HF12 := Lib.hid (show Fr (fun i => i = B10) W3 W12 by rw [hW12]; exact HF11.out.setCell (p := ⟨gn, F, none⟩) (fun h => absurd h (by have := HGN.out; simp; omega)) _)
                    clear hc7
                    go_wp2
                    rw [← hW12]
                    clear hW12 g7 zf hlt7
                    go_roundw
                    case rel => exact ⟨F + 1, by go_num, by omega, HR12.out, HV12.out, HF12.out⟩
                    case measure => simp [intOf]; omega
                  | false =>
                    have hver : ver (n + 1) F = 3 := by rw [HVER.out]; rfl
                    have HZ := Lib.hid (show wOp ver y g (n + 1) F = wNx ver y g (n + 1) F from wOp_open ver hver)
                    have HQN := Lib.hid (qP_miss ver (v := v) (y := y) (q := g) (d := d) (show ver (n + 1) F ≠ v by rw [hver, hv']; decide))
                    clear hver HVER
                    obtain ⟨W11, rfl⟩ : ∃ W : World, W = wx := ⟨_, rfl⟩
                    have HV11 := Lib.hid (show VarQ W11 B10 (qP ver v y g d n (F + 1)) by rw [HQN.out]; exact HVX.out)
                    have HR11 := HRX
                    have HF11 := Lib.hid (HFX.out _ (Below.refl _ _))
                    have HR12 := Lib.hid (show RRow W11 gn (N + 1) (opR ver y g (n + 1) (F + 1)) by rw [opR_keep ver HZ.out]; exact HR11.out)
                    go_wp2
                    go_roundw
                    case rel => exact ⟨F + 1, by go_num, by omega, HR12.out, HV11.out, HF11.out⟩
                    case measure => simp [intOf]; omega
            · obtain rfl : F = N + 1 := by omega
              have e1 : opR ver y g (n + 1) (N + 1) = wOp ver y g (n + 1) := by rw [HN.out, opR_all]
              have e2 : qP ver v y g d n (N + 1) = mkRat (errW ver v y g d (n + 1) : Nat) (d ^ (n + 1)) := by rw [HN.out]; exact qP_all ver
              have HRN := Lib.hid (show RRow ws gn (n + 1 + 1) (wOp ver y g (n + 1)) by
                have h := HRS.out
                rw [e1, HN.out] at h
                exact h)
              have HVN := Lib.hid (show VarQ ws B10 (mkRat (errW ver v y g d (n + 1) : Nat) (d ^ (n + 1))) by rw [← e2]; exact HVS.out)
              clear e1 e2 hlf
              go_wp2
              go_roundw
              case rel => exact ⟨n + 1, gn, by rw [HN.out]; go_num, by omega, by rw [HN.out], HRN.out, HVN.out, HFS.out⟩
              case measure => have := HN.out; simp [intOf]; omega
    · obtain rfl : most = n := by omega
      have hNm : ¬ N ≤ most := by have := HN.out; omega
      obtain ⟨bO, O1, e1, m1, O2, e2, m2, hO, hOF⟩ := HVO.out.get
      obtain ⟨y0, y1, y2, _⟩ := hO wr (Below.refl _ _)
      have hfb := (HBX.out wr HFO.out).2.2
      have hbl : Below w.heap.size w wr := HWB.out.trans (HFO.out.below HWB.out.size fun i hi h => by have := HB10L.out; omega)
      have HF := Lib.hid (fun W (hf : Fr (fun i => i = w.heap.size + 2) wr W) => fq_ret hfb hOF hbl (by omega) hf)
      obtain ⟨x0, x1, x2, z0, z1, z2, hlt6⟩ := hfb.facts
      clear hO hOF hfb hbl
      go_wp2
      refine bodyPost_ret (v := .agg #[.bool bO, .slice O1 m1.length e1, .slice O2 m2.length e2]) (by simp [results, Tryz.results32, go_sem, x0, x1, x2]) rfl ⟨_, rfl, HF.out _ (fr3 _ _ _)⟩
end Go.Proofs.YtlkjgjojahjapaaGreatDoor
