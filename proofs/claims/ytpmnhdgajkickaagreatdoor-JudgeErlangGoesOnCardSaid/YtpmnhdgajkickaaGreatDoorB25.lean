import Derived.Test.YtpmnhdgajkickaaGreatDoorB20
import Derived.Test.YtpmnhdgajkickaaGreatDoorB10
import Derived.Maps.AppendAt
import Derived.Test.YtpmnhdgajkickaaGreatDoorB8
import Derived.Test.YtpmnhdgajkickaaGreatDoorB15
import Derived.Test.YtpmnhdgajkickaaGreatDoorB24
import Derived.IntWalk
/- Package dynamometerref10: chances. -/
namespace Go.Proofs.YtpmnhdgajkickaaGreatDoor
open Go Go.RowKit Go.Proofs

theorem infoRN : (Tryz.prog.info? 33).map (fun i => (i.zero, i.size, i.bytes)) = some (some (.slice none 0 0), 1, 24) := by kernel_rfl
theorem bwL_zero (y q : Nat) : bwL y q 0 = [1] := by simp [bwL, bw, ch]
theorem bwL_take_succ (y q n j : Nat) (h : j ≤ n) : (bwL y q n).take (j + 1) = (bwL y q n).take j ++ [bw y q n j] := by
  rw [List.take_add_one, bwL_get y q n j h]; rfl
/-- what stands at a place of a row of weights -/
theorem row_at {y q n j : Nat} {ns : List Nm} {z : Nm} (h : nmVals ns = bwL y q n) (hz : ns[j]? = some z) (hj : j ≤ n) : z.x = bw y q n j := by
  have h1 := nmVals_get hz
  rw [h, bwL_get y q n j hj] at h1
  exact (Option.some.inj h1).symm
theorem rowR_all {w : World} {base : Nat} {e : TypeId} {v : Value} {xs : List Nm} (h : RowR w base e v xs) (hp : 0 < xs.length) : ∃ b o c, v = .slice (some ⟨b, o, none⟩) xs.length c ∧ SeqR w (some ⟨b, o, none⟩) xs.length xs ∧ xs.length ≤ c ∧ c ≤ maxLen := by
  obtain ⟨g, cap, rfl, _, _, h1, h2⟩ := ownsRow_some h.1.own hp
  exact ⟨g, 0, cap, rfl, ⟨(Rd.of_own h.1.own).more (Nat.zero_le _) (Nat.le_refl _), h.2⟩, h1, h2⟩
/-- what the inner loop keeps -/
def ChIn (y q k : Nat) (wr w2 : World) (v : Value) (j : Nat) : Prop := ∃ ms, RowR w2 wr.heap.size 33 v ms ∧ nmVals ms = (bwL y q (k + 1)).take j ∧ Below wr.heap.size wr w2
/-- what the outer loop keeps -/
def ChOut (y q : Nat) (w wr : World) (v : Value) (k : Nat) : Prop := ∃ ns, RowR wr w.heap.size 33 v ns ∧ nmVals ns = bwL y q k ∧ Below w.heap.size w wr
theorem chIn_len {y q k : Nat} {ms : List Nm} {j : Nat} (h : nmVals ms = (bwL y q (k + 1)).take j) (hj : j ≤ k + 2) : ms.length = j := by
  have := congrArg List.length h
  rw [nmVals_length, List.length_take, bwL_length] at this
  omega
theorem chOut_len {y q k : Nat} {ns : List Nm} (h : nmVals ns = bwL y q k) : ns.length = k + 1 := by
  have := congrArg List.length h
  rwa [nmVals_length, bwL_length] at this
theorem chOut_of {y q k : Nat} {w wr w2 : World} {v : Value} (hb : Below w.heap.size w wr) (h : ChIn y q k wr w2 v (k + 2)) : ChOut y q w w2 v (k + 1) := by
  obtain ⟨ms, h1, h2, h3⟩ := h
  refine ⟨ms, ⟨h1.1.mono hb.size, h1.2⟩, ?_, below_next hb h3⟩
  rw [h2, List.take_of_length_le (by rw [bwL_length]; omega)]
theorem chIn_app {y q k j : Nat} {wo wr w9 w10 : World} {nv v' : Value} {ms : List Nm} {A9 : Option Addr} {c9 : Nat} {l9 : List Nat} (hms : RowR wr wo.heap.size 33 nv ms) (hmv : nmVals ms = (bwL y q (k + 1)).take j) (hj : j ≤ k + 1) (hbi : Below wo.heap.size wo wr) (hb9 : Below wr.heap.size wr w9) (hx : RNatR w9 A9 c9 l9 (bw y q (k + 1) j)) (o : Obj)
    (h' : RowS w10 wo.heap.size 33 v' (ms ++ [⟨A9, c9, l9, bw y q (k + 1) j⟩])) (hg : (w9.alloc o).grownBy w10 nv.ownBlock) : ChIn y q k wo w10 v' (j + 1) := by
  have hal : Below w9.heap.size w9 (w9.alloc o) := (Below.refl _ w9).alloc (Nat.le_refl _) _
  have hr := (hms.call hb9).call hal
  refine ⟨_, RowR.app hr (hx.on hal) h' hg, ?_, ?_⟩
  · rw [bwL_take_succ y q (k + 1) j hj, ← hmv]
    unfold nmVals
    rw [List.map_append]; rfl
  · have h1 := below_next hbi (below_next hb9 hal)
    exact h1.trans ((Fr.of_grown hg).below (B := wo.heap.size) h1.size (fun i hi hm => by have := (hr.1.block hm).1; omega))
set_option maxHeartbeats 4000000 in
set_option maxRecDepth 100000 in
theorem rChances_any (n : Nat) (u : Value) (p : Rat) (w : World) (hn : n ≤ 200) (hu : FracR w u p) (hd : p.den ≤ T4 ^ 2) (hle : frN p ≤ p.den) :
    Calls Tryz.prog 40 #[.int .i64 n, u] w fun e w' => ∃ v ns, e = .returned v ∧ RowR w' w.heap.size 33 v ns ∧ nmVals ns = bwL (frN p) (p.den - frN p) n ∧ Below w.heap.size w w' := by
  obtain ⟨i0, hi0, hz0, hz1, hz2⟩ := info_parts infoRN
  obtain ⟨A1, c1, l1, A2, c2, l2, rfl, h1, h2⟩ := hu
  have hd3 : p.den < T4 ^ 3 := Nat.lt_of_le_of_lt hd (Nat.pow_lt_pow_right T4_pos (by omega))
  have hl1 : l1.length ≤ 3 := h1.len (by omega)
  have hl2 : l2.length ≤ 3 := h2.len hd3
  obtain ⟨K, hK0, hK⟩ : ∃ K, 401 ≤ K ∧ K ≤ 401 := ⟨401, Nat.le_refl _, Nat.le_refl _⟩
  have hpow : ∀ k, k ≤ 200 → p.den ^ k < T4 ^ K := fun k hk => Nat.lt_of_lt_of_le (pow_small (K := 2) (n := k) hd T4_pos) (Nat.pow_le_pow_right (by unfold T4; omega) (by omega))
  obtain ⟨y, hy⟩ : ∃ y, y = frN p := ⟨_, rfl⟩
  obtain ⟨q, hq⟩ : ∃ q, q = p.den - frN p := ⟨_, rfl⟩
  have hyq : y + q = p.den := by omega
  have HPW := Lib.hid (show ∀ k j, j ≤ k → k ≤ 200 → bw y q k j < T4 ^ K from fun k j hj hk => Nat.lt_of_le_of_lt (bw_le y q k j hj) (by rw [hyq]; exact hpow k hk))
  obtain ⟨W0, hW0⟩ : ∃ W0, W0 = w.alloc (.cells #[.bool (frS p), .slice A1 l1.length c1, .slice A2 l2.length c2] 35) := ⟨_, rfl⟩
  have HST0 := Lib.hid (show St w W0 [(w.heap.size, .cells #[.bool (frS p), .slice A1 l1.length c1, .slice A2 l2.length c2] 35 (0, 0))] by rw [hW0]; exact (St.start w).alloc _ _ rfl)
  have HN1 := Lib.hid (show RNatR W0 A1 c1 l1 y by rw [hy]; exact h1.on HST0.out.below)
  have HSB := Lib.hid (fun W (hb : Below W0.heap.size W0 W) => rnatSub_any A2 A1 c2 c1 l2 l1 _ _ W ((h2.on HST0.out.below).on hb) ((h1.on HST0.out.below).on hb) (by omega) hle)
  rw [← hq] at HSB
  rw [← hq, ← hy]
  have HO := Lib.hid (fun W => rnatOf_any 1 W (by omega))
  rw [show (1 : Int).toNat = 1 from rfl] at HO
  have HQL := Lib.hid (show q < T4 ^ 3 by omega)
  have HKS := Lib.hid (show ∀ X, Below W0.heap.size W0 X → (fun X => Below W0.heap.size W0 X ∧ X.cell? ⟨w.heap.size, 1, none⟩ = some (.slice A1 l1.length c1) ∧ X.cell? ⟨w.heap.size, 2, none⟩ = some (.slice A2 l2.length c2)) X from fun X hX => ⟨hX, (HST0.out.call hX).cell 0 1 rfl rfl, (HST0.out.call hX).cell 0 2 rfl rfl⟩)
  obtain ⟨_, f1, f2⟩ := HKS.out W0 (Below.refl _ W0)
  clear h1 h2 hd hd3 hle hpow hy hq hyq
  go_enter Tryz.func40, Tryz.ntmps40
  go_upto_region 1 with fail
  rw [← hW0]
  clear hW0
  go_region_held3 (fun X => Below W0.heap.size W0 X ∧ X.cell? ⟨w.heap.size, 1, none⟩ = some (.slice A1 l1.length c1) ∧ X.cell? ⟨w.heap.size, 2, none⟩ = some (.slice A2 l2.length c2))
    (first
      | exact HKS.out _ (Below.refl _ W0).drew
      | (go_split_ands; refine HKS.out _ (below_next ?_ hb5); assumption))
    (first
      | (go_at_call 59; (with_reducible refine (HSB.out _ (by go_split_ands; assumption)).mono ?_); rintro e w5 ⟨A5, c5, l5, rfl, hn5, hb5⟩))
  have HB5 := Lib.hid (show Below W0.heap.size W0 w5 by go_split_ands; assumption)
  have hl5 : l5.length ≤ 3 := hn5.len HQL.out
  have HN5 := Lib.hid hn5
  have HN1' := Lib.hid (HN1.out.on HB5.out)
  clear hn5 hb5 f1 f2
  go_wp2_with fail
  (with_reducible refine (HO.out _).mono ?_)
  rintro e w6 ⟨A6, c6, l6, rfl, hn6, hb6⟩
  obtain ⟨W7, hW7⟩ : ∃ W7, W7 = w6.alloc (.cells #[.slice A6 l6.length c6] 33) := ⟨_, rfl⟩
  have hb67 : Below w6.heap.size w6 W7 := by rw [hW7]; exact (Below.refl _ w6).alloc (Nat.le_refl _) _
  have HB57 := Lib.hid (below_next hb6 hb67)
  have HB7 := Lib.hid (below_next HST0.out.below (below_next HB5.out HB57.out))
  have HROW := Lib.hid (show ChOut y q w W7 (.slice (some ⟨w6.heap.size, 0, none⟩) 1 1) 0 from by
    refine ⟨[⟨A6, c6, l6, 1⟩], ⟨?_, fun z hz => ?_⟩, by rw [bwL_zero]; rfl, HB7.out⟩
    · refine .inr ⟨w6.heap.size, 1, rfl, (below_next HST0.out.below (below_next HB5.out hb6)).size, ?_, Nat.le_refl _, by unfold maxLen; omega⟩
      rw [hW7]
      exact alloc_at _ _ _ rfl
    · rw [List.mem_singleton] at hz
      subst hz
      exact hn6.on hb67)
  have HN5' := Lib.hid (HN5.out.on HB57.out)
  have HN1'' := Lib.hid (HN1'.out.on HB57.out)
  clear HN5 HN1' HN1 hn6 hb6 hb67 HO HSB HQL HB57 HB5 HKS HST0
  go_wp2_with fail
  rw [← hW7]
  clear hW7
  go_loopw [7, 8, 9, 10, 11] (fun rv iv _ _ _ wr => ∃ k : Nat, iv = .int .i64 k ∧ k ≤ n ∧ ChOut y q w wr rv k ∧ Below W7.heap.size W7 wr) (fun _ iv _ _ _ _ => n - (intOf iv).toNat)
  case atStart => exact ⟨0, rfl, Nat.zero_le _, HROW.out, Below.refl _ _⟩
  case round =>
    obtain ⟨k, rfl, hk, hch, hbo⟩ := hrel
    have HBO := Lib.hid hbo
    obtain ⟨ns, hrow, hvals, hbw⟩ := hch
    have HVL := Lib.hid hvals
    have HBW := Lib.hid hbw
    have HROW := Lib.hid hrow
    by_cases hlt : k < n
    · obtain ⟨A7, c7, e7, hsq⟩ := hrow.seq
      rw [chOut_len hvals] at e7 hsq
      subst e7
      have HSQ := Lib.hid hsq
      obtain ⟨wo, hwo⟩ : ∃ wo : World, wo = wr := ⟨_, rfl⟩
      clear hsq hvals hrow hbw hbo
      go_wp2
      subst hwo
      go_loopw [9, 10, 11] (fun nv jv _ wr => ∃ j : Nat, jv = .int .i64 j ∧ j ≤ k + 2 ∧ ChIn y q k wo wr nv j) (fun _ jv _ _ => k + 2 - (intOf jv).toNat)
      case atStart => exact ⟨0, rfl, Nat.zero_le _, [], RowR.nil, by rw [List.take_zero]; rfl, Below.refl _ _⟩
      case round =>
        obtain ⟨j, rfl, hj, ms, hms, hmv, hbi⟩ := hrel
        have HMS := Lib.hid hms
        have HMV := Lib.hid hmv
        have HBI := Lib.hid hbi
        have HY := Lib.hid (HN1''.out.on (below_next HBO.out hbi))
        have HQ := Lib.hid (HN5'.out.on (below_next HBO.out hbi))
        have hml := chIn_len hmv hj
        clear hms hmv
        by_cases hlj : j < k + 1
        · obtain ⟨b, o, z, rfl, hb, hz, hc, hnz⟩ := (HSQ.out.call hbi).at hlj
          have hzx := row_at HVL.out hz (by omega)
          have hzl : z.l.length ≤ K := hnz.len (by rw [hzx]; exact HPW.out k j (by omega) (by omega))
          have HM := Lib.hid (rnatMul_any z.A A5 z.c c5 z.l l5 z.x q wr hnz HQ.out (by omega) (by omega))
          rw [hzx] at HM
          clear hbi hnz
          cases j with
          | zero =>
            have hc0 : wr.cell? ⟨b, o, none⟩ = some (.slice z.A z.l.length z.c) := hc
            clear hc
            go_wp2_with fail
            (with_reducible refine HM.out.mono ?_)
            rintro e w8 ⟨A8, c8, l8, rfl, hx8, hb8⟩
            have HX9 := Lib.hid (show RNatR w8 A8 c8 l8 (bw y q (k + 1) 0) by rw [bw_first]; exact hx8)
            have HB9 := Lib.hid hb8
            clear hx8 hb8 HM hzx hz hc0
            have hso := (below_next HBI.out HB9.out).size
            have HR9 := Lib.hid (HMS.out.call HB9.out)
            go_wp2_with (at_builtin; refine wpList_append_s rfl (.tmp 53) (.tmp 55) 64 rfl wo.heap.size 33 i0 Tryz.underlying64 hi0 hz0 hz1 hz2 _ ms rfl (HR9.out.1.alloc _) ⟨w8.heap.size, 0, none⟩ ⟨A8, c8, l8, bw y q (k + 1) (0)⟩ rfl (cell_one_new w8 _ 33) (by omega) (by simp; omega) ?_)
            intro v' wa hrowa hgra
            have HCH := Lib.hid (chIn_app HMS.out HMV.out (by omega) HBI.out HB9.out HX9.out _ hrowa hgra)
            clear hrowa hgra
            go_wp2
            go_roundw
            case rel => exact ⟨0 + 1, by first | rfl | go_num, by omega, HCH.out⟩
            case measure => first | (simp [intOf]; done) | (simp [intOf]; omega)
          | succ i =>
            obtain ⟨b', o', z', hbo', hb', hz', hc', hnz'⟩ := (HSQ.out.call HBI.out).at (show i < k + 1 by omega)
            obtain ⟨rfl, rfl⟩ : b = b' ∧ o = o' := by simpa using hbo'
            have hzx' := row_at HVL.out hz' (by omega)
            have hzl' : z'.l.length ≤ K := hnz'.len (by rw [hzx']; exact HPW.out k i (by omega) (by omega))
            have HNZ := Lib.hid hnz'
            have HM2 := Lib.hid (fun W (hb : Below wr.heap.size wr W) => rnatMul_any z'.A A1 z'.c c1 z'.l l1 z'.x y W (HNZ.out.on hb) (HY.out.on hb) (by omega) (by omega))
            rw [hzx'] at HM2
            have hp1 : bw y q k (i + 1) * q ≤ bw y q (k + 1) (i + 1) := by rw [bw_succ]; omega
            have hp2 : bw y q k i * y ≤ bw y q (k + 1) (i + 1) := by rw [bw_succ]; omega
            have hpw := HPW.out (k + 1) (i + 1) (by omega) (by omega)
            have HA := Lib.hid (fun W A A' c c' l l' (h : RNatR W A c l (bw y q k (i + 1) * q)) (h' : RNatR W A' c' l' (bw y q k i * y)) => rnatAdd_any A A' c c' l l' _ _ W h h' (by have := h.len (n := K) (by omega); omega) (by have := h'.len (n := K) (by omega); omega))
            rw [← bw_succ] at HA
            have HCZ := Lib.hid (fun W (hb : Below wr.heap.size wr W) => (hb.cell (p := ⟨b, o + i, none⟩) hb').trans hc')
            clear hzx' hz' hnz' hbo' hc' hp1 hp2 hpw hzx hz
            go_wp2_with fail
            (with_reducible refine HM.out.mono ?_)
            rintro e w8 ⟨A8, c8, l8, rfl, hx8, hb8⟩
            have HX8 := Lib.hid hx8
            have HB8 := Lib.hid hb8
            have hcz := HCZ.out w8 hb8
            clear hx8 hb8 HM hc
            go_wp2_with fail
            (with_reducible refine (HM2.out _ HB8.out).mono ?_)
            rintro e w7 ⟨A7, c7_, l7, rfl, hx7, hb7⟩
            have HX7 := Lib.hid hx7
            have HA7 := Lib.hid (HA.out w7 A8 A7 c8 c7_ l8 l7 (HX8.out.on hb7) hx7)
            have HB7_ := Lib.hid (below_next HB8.out hb7)
            clear hx7 hb7 hcz HM2 HA
            go_wp2_with fail
            (with_reducible refine HA7.out.mono ?_)
            rintro e w9 ⟨A9, c9, l9, rfl, hx9, hb9⟩
            have HX9 := Lib.hid hx9
            have HB9 := Lib.hid (below_next HB7_.out hb9)
            clear hx9 hb9 HA7
            have hso := (below_next HBI.out HB9.out).size
            have HR9 := Lib.hid (HMS.out.call HB9.out)
            go_wp2_with (at_builtin; refine wpList_append_s rfl (.tmp 53) (.tmp 55) 64 rfl wo.heap.size 33 i0 Tryz.underlying64 hi0 hz0 hz1 hz2 _ ms rfl (HR9.out.1.alloc _) ⟨w9.heap.size, 0, none⟩ ⟨A9, c9, l9, bw y q (k + 1) (i + 1)⟩ rfl (cell_one_new w9 _ 33) (by omega) (by simp; omega) ?_)
            intro v' wa hrowa hgra
            have HCH := Lib.hid (chIn_app HMS.out HMV.out (by omega) HBI.out HB9.out HX9.out _ hrowa hgra)
            clear hrowa hgra
            go_wp2
            go_roundw
            case rel => exact ⟨i + 1 + 1, by go_num, by omega, HCH.out⟩
            case measure => simp [intOf]; omega
        · by_cases hlj2 : j = k + 1
          · subst hlj2
            obtain ⟨b', o', z', rfl, hb', hz', hc', hnz'⟩ := (HSQ.out.call HBI.out).at (show k < k + 1 by omega)
            have hzx' := row_at HVL.out hz' (by omega)
            have hzl' : z'.l.length ≤ K := hnz'.len (by rw [hzx']; exact HPW.out k k (by omega) (by omega))
            have HM2 := Lib.hid (rnatMul_any z'.A A1 z'.c c1 z'.l l1 z'.x y wr hnz' HY.out (by omega) (by omega))
            rw [hzx'] at HM2
            have hb0 : bw y q (k + 1) (k + 1) = bw y q k k * y := by rw [bw_succ, bw_over (Nat.lt_succ_self k)]; omega
            have hpw := HPW.out (k + 1) (k + 1) (by omega) (by omega)
            have HA := Lib.hid (show ∀ W A' c' (l' : List Nat), RNatR W A' c' l' (bw y q k k * y) → Calls Tryz.prog 58 #[.slice none 0 0, .slice A' l'.length c'] W (RNatPost (0 + bw y q k k * y) W) from fun W A' c' l' h' => rnatAdd_any none A' 0 c' [] l' 0 _ W (rnatr_nil W) h' (by simp) (by have := h'.len (n := K) (by omega); omega))
            rw [Nat.zero_add, ← hb0] at HA
            rw [← hb0] at HM2
            clear hzx' hz' hnz' hpw hbi
            go_wp2_with fail
            (with_reducible refine HM2.out.mono ?_)
            rintro e w7 ⟨A7, c7_, l7, rfl, hx7, hb7⟩
            have HA7 := Lib.hid (HA.out w7 A7 c7_ l7 hx7)
            have HB7_ := Lib.hid hb7
            clear hx7 hb7 HM2 HA hc' hb0
            go_wp2_with fail
            (with_reducible refine HA7.out.mono ?_)
            rintro e w9 ⟨A9, c9, l9, rfl, hx9, hb9⟩
            have HX9 := Lib.hid hx9
            have HB9 := Lib.hid (below_next HB7_.out hb9)
            clear hx9 hb9 HA7
            have hso := (below_next HBI.out HB9.out).size
            have HR9 := Lib.hid (HMS.out.call HB9.out)
            go_wp2_with (at_builtin; refine wpList_append_s rfl (.tmp 53) (.tmp 55) 64 rfl wo.heap.size 33 i0 Tryz.underlying64 hi0 hz0 hz1 hz2 _ ms rfl (HR9.out.1.alloc _) ⟨w9.heap.size, 0, none⟩ ⟨A9, c9, l9, bw y q (k + 1) (k + 1)⟩ rfl (cell_one_new w9 _ 33) (by omega) (by simp; omega) ?_)
            intro v' wa hrowa hgra
            have HCH := Lib.hid (chIn_app HMS.out HMV.out (by omega) HBI.out HB9.out HX9.out _ hrowa hgra)
            clear hrowa hgra
            go_wp2
            go_roundw
            case rel => exact ⟨k + 1 + 1, by go_num, by omega, HCH.out⟩
            case measure => simp [intOf]; omega
          · obtain rfl : j = k + 2 := by omega
            have HCO := Lib.hid (chOut_of HBW.out ⟨ms, HMS.out, HMV.out, HBI.out⟩)
            have HBO2 := Lib.hid (below_next HBO.out HBI.out)
            clear hbi
            go_wp2
            go_roundw
            case rel => exact ⟨k + 1, by go_num, by omega, HCO.out, HBO2.out⟩
            case measure => simp [intOf]; omega
    · obtain rfl : k = n := by omega
      obtain ⟨A7, c7, e7, hsq⟩ := hrow.seq
      clear hsq hvals hrow hbw hbo
      go_wp2
      go_ret
      exact ⟨_, ns, rfl, HROW.out, HVL.out, HBW.out⟩
end Go.Proofs.YtpmnhdgajkickaaGreatDoor

/- Package dynamometerref0: Pow. -/
namespace Go.Proofs.YtpmnhdgajkickaaGreatDoor
open Go Go.RowKit Go.Proofs

/-- what the loop keeps: powers of x, whose exponents still make n -/
def RPowInv (w wr : World) (x n k : Nat) (va vo : Value) : Prop :=
  ∃ (A1 A2 : Option Addr) (c1 c2 : Nat) (l1 l2 : List Nat) (m e : Nat), va = .slice A1 l1.length c1 ∧ vo = .slice A2 l2.length c2 ∧ RNatR wr A1 c1 l1 (x ^ e) ∧ RNatR wr A2 c2 l2 (x ^ m) ∧ m + e * k = n ∧ Below w.heap.size w wr

set_option maxHeartbeats 2000000 in
set_option maxRecDepth 100000 in
theorem rnatPow_any (A : Option Addr) (c : Nat) (l : List Nat) (x n K : Nat) (w : World) (h : RNatR w A c l x) (hx : x < T4 ^ K) (hK : K * n ≤ 800000) (hn : n ≤ 1000000) :
    Calls Tryz.prog 41 #[.slice A l.length c, .int .i64 n] w (RNatPost (x ^ n) w) := by
  have HN := Lib.hid h
  have HO := Lib.hid (fun W => rnatOf_any 1 W (by omega))
  have HX := Lib.hid hx
  clear h hx
  go_enter Tryz.func41, Tryz.ntmps41
  go_wp2_with fail
  refine (HO.out _).mono ?_
  rintro e1 w1 ⟨A1, c1, l1, rfl, hn1, hb1⟩
  have HN1 := Lib.hid hn1
  have HB1 := Lib.hid hb1
  clear hn1 hb1
  go_wp2_with fail
  go_loopw [0, 1, 5, 7] (fun a i o _ wr => ∃ k : Nat, i = .int .i64 k ∧ k ≤ n ∧ RPowInv w wr x n k a o) (fun _ i _ _ _ => (intOf i).toNat)
  case atStart => exact ⟨n, rfl, Nat.le_refl _, A, A1, c, c1, l, l1, 0, 1, rfl, rfl, by rw [Nat.pow_one]; exact HN.out.on HB1.out, by rw [Nat.pow_zero]; exact HN1.out, by omega, HB1.out⟩
  case round =>
    obtain ⟨k, rfl, hk, A3, A4, c3, c4, l3, l4, m, e, rfl, rfl, h3, h4, hme, hb⟩ := hrel
    by_cases hp : 0 < k
    · have hek : e ≤ e * k := Nat.le_mul_of_pos_right e hp
      have hl3 : l3.length ≤ K * n + 1 := pow_len4 HX.out (show e ≤ n by omega) h3.norm h3.val
      have hl4 : l4.length ≤ K * n + 1 := pow_len4 HX.out (show m ≤ n by omega) h4.norm h4.val
      have t1 : decide ((0 : Int) < ↑k) = true := by simp; omega
      have t2 : decide (0 < k) = true := by simpa using hp
      have HB := Lib.hid hb
      have H3 := Lib.hid h3
      have H4 := Lib.hid h4
      clear hb h3 h4 hek
      by_cases ho : k % 2 = 1
      · have t3 : (((k : Int) % 2) == 1) = true := by simp; omega
        have t4 : ((k % 2) == 1) = true := by simpa using ho
        have HM := Lib.hid (rnatMul_any A4 A3 c4 c3 l4 l3 _ _ wr H4.out H3.out (by omega) (by omega))
        have HS := Lib.hid (fun W (hW : Below wr.heap.size wr W) => rnatMul_any A3 A3 c3 c3 l3 l3 _ _ W (H3.out.on hW) (H3.out.on hW) (by omega) (by omega))
        have HE := Lib.hid (pow_odd_e hme ho)
        clear hme
        go_wp2_with fail
        refine HM.out.mono ?_
        rintro e2 w2 ⟨A5, c5, l5, rfl, h5, hb5⟩
        have H5 := Lib.hid h5
        have HB5 := Lib.hid hb5
        clear h5 hb5
        go_wp2_with fail
        refine (HS.out _ HB5.out).mono ?_
        rintro e3 w3 ⟨A6, c6, l6, rfl, h6, hb6⟩
        have H6 := Lib.hid h6
        have HB6 := Lib.hid hb6
        clear h6 hb6
        go_wp2
        go_roundw
        case rel => exact ⟨k / 2, by first | rfl | go_num, by omega, A6, A5, c6, c5, l6, l5, m + e, e + e, rfl, rfl, by rw [Nat.pow_add]; exact H6.out, by rw [Nat.pow_add]; exact H5.out.on HB6.out, HE.out, HB.out.trans ((HB5.out.trans (HB6.out.mono HB5.out.size)).mono HB.out.size)⟩
        case measure => simp [intOf]; omega
      · have t3 : (((k : Int) % 2) == 1) = false := by simp; omega
        have t4 : ((k % 2) == 1) = false := by simpa using ho
        have HS := Lib.hid (rnatMul_any A3 A3 c3 c3 l3 l3 _ _ wr H3.out H3.out (by omega) (by omega))
        have HE := Lib.hid (pow_even_e hme (show k % 2 = 0 by omega))
        clear hme
        go_wp2_with fail
        refine HS.out.mono ?_
        rintro e3 w3 ⟨A6, c6, l6, rfl, h6, hb6⟩
        have H6 := Lib.hid h6
        have HB6 := Lib.hid hb6
        clear h6 hb6
        go_wp2
        go_roundw
        case rel => exact ⟨k / 2, by first | rfl | go_num, by omega, A6, A4, c6, c4, l6, l4, m, e + e, rfl, rfl, by rw [Nat.pow_add]; exact H6.out, H4.out.on HB6.out, HE.out, HB.out.trans (HB6.out.mono HB.out.size)⟩
        case measure => simp [intOf]; omega
    · obtain rfl : k = 0 := by omega
      have HF := Lib.hid (show RNatPost (x ^ n) w (.returned (.slice A4 l4.length c4)) wr from ⟨A4, c4, l4, rfl, by rw [← hme, Nat.mul_zero, Nat.add_zero]; exact h4, hb⟩)
      clear h3 h4 hme hb
      go_wp2
      go_ret
      exact HF.out
end Go.Proofs.YtpmnhdgajkickaaGreatDoor

/- Binomial: three throws, at most one. Plain. -/
namespace Go.Proofs.YtpmnhdgajkickaaGreatDoor
open Go

theorem bin_half : binE 3 1 [49] [50] = 0 ∧ binV 3 1 [49] [50] = ([49], [50]) := by
  have e1 : ratX [49] [50] = mkRat 1 2 := by
    unfold ratX
    rfl
  have hs : binC 3 [49] [50] = 0 := by
    have h1 : cRt [49] [50] = 0 := by decide
    unfold binC shC
    rw [if_neg (by decide), e1, h1, if_neg (by decide), if_neg (by decide)]
    decide
  have e2 : binQ 3 1 (mkRat 1 2) = mkRat 1 2 := by decide
  have e3 : Lib.decDigits 1 = [49] := by rw [Lib.decDigits]; rfl
  have e4 : Lib.decDigits 2 = [50] := by rw [Lib.decDigits]; rfl
  have h1 : frS (mkRat 1 2) = false := by decide
  have h2 : frN (mkRat 1 2) = 1 := by decide
  have h3 : (mkRat 1 2).den = 2 := by decide
  have hr : ratQ (mkRat 1 2) = ([49], [50]) := by unfold ratQ; rw [h2, h3, e3, e4]
  have hf : fitQ (mkRat 1 2) = true := by unfold fitQ; rw [hr]; rfl
  unfold binE binV
  rw [if_pos hs, if_pos hs, e1, show (3 : Int).toNat = 3 from rfl, e2]
  unfold rtC rtT txtQ
  rw [if_pos hf, if_pos hf, h1, hr]
  exact ⟨rfl, rfl⟩
end Go.Proofs.YtpmnhdgajkickaaGreatDoor

/- Package dynamometerref10: Binomial. -/
namespace Go.Proofs.YtpmnhdgajkickaaGreatDoor
open Go Go.RowKit Go.Proofs

theorem binV_bad {n k : Int} {a b : List UInt8} (h : binC n a b ≠ 0) : binV n k a b = ([], []) ∧ binE n k a b = binC n a b := by
  unfold binV binE; rw [if_neg h, if_neg h]; exact ⟨rfl, rfl⟩
theorem binV_good {n k : Int} {a b : List UInt8} (h : binC n a b = 0) : binV n k a b = rtT (binQ n.toNat k (ratX a b)) ∧ binE n k a b = rtC (binQ n.toNat k (ratX a b)) := by
  unfold binV binE; rw [if_pos h, if_pos h]; exact ⟨rfl, rfl⟩
theorem rat_none : ratOf ([], []) = .agg #[.string ⟨#[]⟩, .string ⟨#[]⟩] := rfl
/-- a share's parts -/
theorem share_parts {a b : List UInt8} (h : shC .share a b = 0) : frN (ratX a b) ≤ (ratX a b).den ∧ (ratX a b).den ≤ T4 ^ 2 := by
  obtain ⟨h1, h2, h3, h4⟩ := shC_zero h
  obtain ⟨s1, s2, _⟩ := shC_small h
  simp only [inQ, Bool.and_eq_true, decide_eq_true_eq] at h4
  refine ⟨h4.2, ?_⟩
  have : T4 ^ 2 = 100000000 := by unfold T4; rfl
  omega
end Go.Proofs.YtpmnhdgajkickaaGreatDoor
