/- Package dynamometerref0: small, DivMod. -/
import Derived.Test.YtnpfdelklolchaaGreatDoorG16
import Derived.Test.YtnpfdelklolchaaGreatDoorG17
namespace Go.Proofs.YtnpfdelklolchaaGreatDoor
open Go Go.RowKit Go.Proofs

theorem rlen_lt {l : List Nat} {x n : Nat} (hn : Norm T4 l) (hv : val T4 l = x) (h : x < T4 ^ n) : l.length ≤ n := by
  rcases Nat.lt_or_ge n l.length with h' | h'
  · have hne : l ≠ [] := by rintro rfl; simp at h'
    have := val_ge T4_pos hn hne
    have : T4 ^ n ≤ T4 ^ (l.length - 1) := Nat.pow_le_pow_right (by unfold T4; omega) (by omega)
    omega
  · exact h'
theorem rval_lt {l : List Nat} {x : Nat} (hn : Norm T4 l) (hv : val T4 l = x) : x < T4 ^ l.length := by rw [← hv]; exact val_lt hn.1
theorem T4_4 : T4 ^ 4 = 10000000000000000 := by unfold T4; rfl

set_option maxHeartbeats 1000000 in
set_option maxRecDepth 100000 in
theorem rSmall_any (A : Option Addr) (c : Nat) (l : List Nat) (x : Nat) (n : Int) (w : World) (h : RNatR w A c l x) (hs : l.length ≤ 1000000) (hn : n ≤ 1000000000000000) :
    Calls Tryz.prog 107 #[.slice A l.length c, .int .i64 n] w (RNatPost (x * n.toNat) w) := by
  have HO := Lib.hid (rnatOf_any n w (by omega))
  have HN := Lib.hid h
  clear h
  go_enter Tryz.func107, Tryz.ntmps107
  go_wp2_with fail
  refine HO.out.mono ?_
  rintro e w1 ⟨A1, c1, l1, rfl, hn1, hb1⟩
  have hl1 : l1.length ≤ 4 := rlen_lt hn1.norm hn1.val (by rw [T4_4]; omega)
  have HM := Lib.hid (rnatMul_any A A1 c c1 l l1 _ _ w1 (HN.out.on hb1) hn1 hs (by omega))
  have HB1 := Lib.hid hb1
  clear hn1 hb1
  go_wp2_with fail
  refine HM.out.mono ?_
  rintro e w2 ⟨A2, c2, l2, rfl, hn2, hb2⟩
  have HN2 := Lib.hid hn2
  have HB2 := Lib.hid (below_next HB1.out hb2)
  clear hn2 hb2
  go_wp2
  go_ret
  exact ⟨A2, c2, l2, rfl, HN2.out, HB2.out⟩

theorem RNatR.keep {w w' : World} {A : Option Addr} {c : Nat} {l : List Nat} {x : Nat} (h : RNatR w A c l x) (hs : w.heap.size ≤ w'.heap.size) (hk : ∀ b o, A = some ⟨b, o, none⟩ → b < w.heap.size → 0 < l.length → w'.heap[b]? = w.heap[b]?) : RNatR w' A c l x :=
  ⟨⟨h.rd.1, fun hn => by
    obtain ⟨b, o, e, h1, h2, h3⟩ := h.rd.2 hn
    exact ⟨b, o, e, h1, by omega, fun j u hu => (World.cell?_of_block (hk b o e h2 hn)).trans (h3 j u hu)⟩⟩, h.norm, h.val, h.cap, h.max, h.nil⟩
theorem own_one (w : World) (v : Value) (t : TypeId) : (w.alloc (.cells #[v] t)).ownsRow w.heap.size t 1 (.slice (some ⟨w.heap.size, 0, none⟩) 1 1) 1 [v] :=
  ⟨rfl, .inr ⟨w.heap.size, 1, #[v], rfl, Nat.le_refl _, alloc_at _ _ _ rfl, Nat.le_refl _, by unfold maxLen; omega, rfl, rfl⟩⟩
/-- what the loop over the digits keeps: quotient and rest of the digits from k on -/
def DivO (w wr : World) (g : Nat) (la : List Nat) (y k : Nat) (v : Value) : Prop :=
  ∃ o, o.length = la.length ∧ (∀ d ∈ o, d < T4) ∧ Blk4 wr g o ∧ val T4 (o.drop k) = val T4 (la.drop k) / y ∧ Below w.heap.size w wr ∧
    ∃ A c l, v = .slice A l.length c ∧ RNatR wr A c l (val T4 (la.drop k) % y)
theorem dm_len {l lb : List Nat} {x y : Nat} (hn : Norm T4 l) (hv : val T4 l = x) (hb : Norm T4 lb) (hy : val T4 lb = y) (h : x < y) : l.length ≤ lb.length :=
  rlen_lt hn hv (Nat.lt_trans h (rval_lt hb hy))

set_option maxHeartbeats 4000000 in
set_option maxRecDepth 100000 in
theorem rnatDivMod_any (A1 A2 : Option Addr) (c1 c2 : Nat) (la lb : List Nat) (x y : Nat) (w : World) (h1 : RNatR w A1 c1 la x) (h2 : RNatR w A2 c2 lb y) (hs : la.length ≤ 900000) (hs2 : lb.length ≤ 900000) (hy : 0 < y) :
    Calls Tryz.prog 90 #[.slice A1 la.length c1, .slice A2 lb.length c2] w fun e w' => ∃ A3 c3 l3 A4 c4 l4, e = .returned (.tuple #[.slice A3 l3.length c3, .slice A4 l4.length c4]) ∧ RNatR w' A3 c3 l3 (x / y) ∧ RNatR w' A4 c4 l4 (x % y) ∧ Below w.heap.size w w' := by
  obtain ⟨i0, hi0, hz0, hz1, hz2⟩ := info_parts Tryz.infoI4
  have HN1 := Lib.hid h1
  have HN2 := Lib.hid h2
  clear h1 h2
  go_enter Tryz.func90, Tryz.ntmps90
  go_wp2_with (at_make; refine wpList_make_full _ rfl (.tmp 13) (.tmp 13) 29 rfl w.heap.size 3 i0 _ 1 Tryz.underlying29 hi0 hz0 hz1 .i64 .i64 _ _ la.length rfl rfl ?m1 ?m2 ?m3 ?m4 ?m5 ?_)
  case m1 => rfl
  case m2 => rfl
  case m3 => rw [hz2]; omega
  case m4 => unfold maxLen; omega
  case m5 => exact Nat.le_refl _
  intro w1 hown hgr
  rw [made_zeros4] at hown
  obtain ⟨hblk, _⟩ := Blk4.of_own hown
  have hb1 : Below w.heap.size w w1 := (Below.refl _ w).grown hgr (Nat.le_refl _) (fun k hk => by cases hk)
  have hsz1 : w.heap.size < w1.heap.size := heap_lt hblk
  have HBK := Lib.hid hblk
  have HB1 := Lib.hid hb1
  clear hown hgr hblk hb1
  go_wp2
  go_loopw [7, 8, 9, 10, 11] (fun rv iv _ _ _ wr => ∃ k : Nat, iv = .int .i64 ((k : Int) - 1) ∧ k ≤ la.length ∧ DivO w wr w.heap.size la y k rv) (fun _ iv _ _ _ _ => (intOf iv + 1).toNat)
  case atStart => exact ⟨la.length, rfl, Nat.le_refl _, List.replicate la.length 0, by simp, fun d hd => by rw [List.eq_of_mem_replicate hd]; unfold T4; omega, HBK.out, by rw [List.drop_of_length_le (by simp), List.drop_length]; simp [val], HB1.out, none, 0, [], rfl, by rw [List.drop_length]; simpa [val] using rnatr_nil w1⟩
  case round =>
    obtain ⟨k, rfl, hk, o, hol, hod, hblk, hval, hbw, A, c, l, rfl, hrn⟩ := hrel
    have HO := Lib.hid hod
    have HOL := Lib.hid hol
    have HV := Lib.hid hval
    have HBW := Lib.hid hbw
    have HBL := Lib.hid hblk
    have HRN := Lib.hid hrn
    have hgl := heap_lt hblk
    cases k with
    | zero =>
      have hval0 : val T4 o = x / y := by have := HV.out; rw [List.drop_zero, List.drop_zero, HN1.out.val] at this; exact this
      rw [List.drop_zero, HN1.out.val] at HRN
      have hrd' := hblk.rd
      have HCUT := Lib.hid (trimmed_any (some ⟨w.heap.size, 0, none⟩) la.length o wr hrd' (by rw [HOL.out]; exact Nat.le_refl _) (by unfold maxLen; omega) (fun h => by cases h))
      have hnr := rnatr_trim hrd' HO.out (by rw [HOL.out]; unfold maxLen; omega) (fun h => by cases h)
      rw [hval0] at hnr
      have HNR := Lib.hid hnr
      rw [HOL.out] at HCUT
      clear hod hol hval hblk hrn hbw hval0 hrd' hnr
      go_wp2_with fail
      refine HCUT.out.mono ?_
      rintro e w' ⟨rfl, rfl⟩
      go_wp2
      go_ret2
      exact ⟨_, _, _, _, _, _, rfl, HNR.out, HRN.out, HBW.out⟩
    | succ j =>
      have e : (((j + 1 : Nat) : Int) - 1) = (j : Int) := by omega
      rw [e]
      obtain ⟨b, oo, u, rfl, hb, hu, qk⟩ := (HN1.out.rd.old hbw).at1 (show j < la.length by omega)
      obtain ⟨d, hd, rfl⟩ := d4s_get hu
      have hdW : d < 10000 := HN1.out.norm.1 d (List.mem_of_getElem? hd)
      have hlr : l.length ≤ lb.length := dm_len hrn.norm hrn.val HN2.out.norm HN2.out.val (Nat.mod_lt _ hy)
      have hstep := ddm_step (H := val T4 (la.drop (j + 1))) hy hdW
      rw [← val_drop_dig hd] at hstep
      obtain ⟨R, hR⟩ : ∃ R, R = val T4 (la.drop (j + 1)) % y := ⟨_, rfl⟩
      rw [← hR] at hstep hrn HRN
      have HST := Lib.hid hstep
      clear hu hod hol hval hblk hrn hstep hR
      go_wp2_with (at_builtin; refine wpList_append_rd rfl (.tmp 26) (.tmp 27) 29 rfl wr.heap.size 3 i0 _ 1 8 Tryz.underlying29 hi0 hz0 hz1 hz2 rfl (by decide) (.slice (some ⟨wr.heap.size, 0, none⟩) 1 1) 1 [.int .i64 (d : Int)] rfl (own_one wr _ _) A l.length c 0 (wr.alloc (.cells #[.int .i64 (d : Int)] 3)).heap.size (d4s l) rfl HRN.out.nil (HRN.out.on ((Below.refl _ wr).alloc (Nat.le_refl _) _)).rd ?c1 ?c2 ?c3 ?c4 ?_)
      case c1 => intro u hu; obtain ⟨z, _, rfl⟩ := List.mem_map.1 hu; rfl
      case c2 => unfold maxLen; omega
      case c3 => omega
      case c4 => simp
      intro v5 w5 hown5 hgr5
      obtain ⟨A5, c5, rfl, hc5, hcm5, hA5⟩ := ownsRow_shape hown5
      have hb5 : Below wr.heap.size wr w5 := ((Below.refl _ wr).alloc (Nat.le_refl _) (.cells #[.int .i64 (d : Int)] 3)).grown hgr5 (by simp) (fun k hk => by cases hk; exact Nat.le_refl _)
      have hlen5 : (d :: l).length = 1 + l.length := by simp; omega
      have hrd5 : Rd w5 0 w5.heap.size 1 A5 (d :: l).length (d4s (d :: l)) := by rw [hlen5]; exact (Rd.of_own hown5).more (Nat.zero_le _) (Nat.le_refl _)
      have HAP := Lib.hid (show ∀ b o, A5 = some ⟨b, o, none⟩ → wr.heap.size ≤ b from fun b o e => by
        obtain ⟨b', o', e', h1, _⟩ := (Rd.of_own hown5).2 (by omega)
        rw [e] at e'
        simp only [Option.some.injEq, Addr.mk.injEq, and_true] at e'
        omega)
      have hval5 : val T4 (d :: l) = d + T4 * R := by have := HRN.out.val; simp [val, this]
      have HTR := Lib.hid (trimmed_any A5 c5 (d :: l) w5 hrd5 (by rw [hlen5]; exact hc5) hcm5 (fun h => by have := hA5 h; rw [hlen5]; exact this))
      have hnr := rnatr_trim hrd5 (fun x hx => by
        rcases List.mem_cons.1 hx with h | h
        · rw [h]; exact hdW
        · exact HRN.out.norm.1 x h) (by rw [hlen5]; unfold maxLen; omega) (fun h => by rw [hlen5]; exact (hA5 h).1)
      rw [hval5] at hnr
      have hl6 : (trim (d :: l)).length ≤ l.length + 1 := Nat.le_trans (trim_length _) (by simp)
      rw [hlen5] at HTR
      have HB5 := Lib.hid hb5
      obtain ⟨l6, hl6e⟩ : ∃ l6, l6 = trim (d :: l) := ⟨_, rfl⟩
      rw [← hl6e] at HTR hnr hl6
      have HN6 := Lib.hid hnr
      obtain ⟨X, hX⟩ : ∃ X, X = d + T4 * R := ⟨_, rfl⟩
      rw [← hX] at HN6 HST
      have hq := HST.out.2.2
      unfold T4 at hq
      have HD := Lib.hid hd
      clear hown5 hgr5 hrd5 hval5 hnr hl6e hX hb5 qk hA5 hd
      have HSM := Lib.hid (fun W n (hb : Below w5.heap.size w5 W) (h0 : n ≤ 1000000000000000) => rSmall_any A2 c2 lb y n W (HN2.out.on (below_next HBW.out (below_next HB5.out hb))) (by omega) h0)
      have HCM := Lib.hid (fun W A3 c3 l3 z (hb : Below w5.heap.size w5 W) (h3 : RNatR W A3 c3 l3 z) (hl3 : l3.length ≤ 1000000) => rnatCmp_any A3 A5 c3 l6.length l3 l6 z X W h3 (HN6.out.on hb) hl3 (by omega))
      have HSB := Lib.hid (fun W A3 c3 l3 z (hb : Below w5.heap.size w5 W) (h3 : RNatR W A3 c3 l3 z) (hz : z ≤ X) => rnatSub_any A5 A3 l6.length c3 l6 l3 X z W (HN6.out.on hb) h3 (by omega) hz)
      have hyl : y < T4 ^ lb.length := rval_lt HN2.out.norm HN2.out.val
      have HLEN := Lib.hid (fun (W : World) A3 c3 (l3 : List Nat) m (h3 : RNatR W A3 c3 l3 (y * m)) (hm : m < 10000) => show l3.length ≤ lb.length + 1 from rlen_lt h3.norm h3.val (by
        rw [Nat.pow_succ]
        exact Nat.lt_of_le_of_lt (Nat.mul_le_mul_left y (Nat.le_of_lt hm)) (by unfold T4 at *; exact Nat.mul_lt_mul_of_pos_right hyl (by omega))))
      clear hyl
      go_wp2_with fail
      refine HTR.out.mono ?_
      rintro e w6 ⟨rfl, rfl⟩
      go_wp2_with fail
      go_loopw [9, 10, 11] (fun lv hv _ wr2 => ∃ lo hi : Nat, lv = .int .i64 lo ∧ hv = .int .i64 hi ∧ lo ≤ X / y ∧ X / y ≤ hi ∧ hi ≤ 9999 ∧ Below w5.heap.size w5 wr2) (fun lv hv _ _ => (intOf hv - intOf lv).toNat)
      case atStart => exact ⟨0, 9999, rfl, rfl, Nat.zero_le _, by omega, Nat.le_refl _, Below.refl _ _⟩
      case round =>
        obtain ⟨lo, hi, rfl, rfl, hlo, hhi, hh9, hbi⟩ := hrel
        have HBI := Lib.hid hbi
        clear hbi
        by_cases hlh : lo < hi
        · have t1 : decide ((lo : Int) < (hi : Int)) = true := by simpa using hlh
          have t1' : decide (lo < hi) = true := by simpa using hlh
          obtain ⟨m, hm⟩ : ∃ m, m = (lo + hi + 1) / 2 := ⟨_, rfl⟩
          have hm9 : m ≤ 9999 := by omega
          have hm1 : 1 ≤ m := by omega
          have hmi : ((lo : Int) + hi + 1).tdiv 2 = (m : Int) := by
            rw [Int.tdiv_eq_ediv_of_nonneg (by omega)]; omega
          have HS2 := Lib.hid (HSM.out wr (m : Int) HBI.out (by omega))
          rw [Int.toNat_natCast] at HS2
          have HU := Lib.hid (fun hc => bis_up (X := X) (lo := lo) (hi := hi) hy hhi hm hlh hc)
          have HDN := Lib.hid (fun hc => bis_down (X := X) (lo := lo) (hi := hi) hy hlo hm hlh hc)
          clear hm
          go_wp2_with fail
          refine HS2.out.mono ?_
          rintro e w7 ⟨A7, c7, l7, rfl, hn7, hb7⟩
          have hb7' := below_next HBI.out hb7
          have hl7 := HLEN.out w7 A7 c7 l7 m hn7 (by omega)
          have HC7 := Lib.hid (HCM.out w7 A7 c7 l7 _ hb7' hn7 (by omega))
          have HB7 := Lib.hid hb7'
          obtain ⟨cv, hcv⟩ : ∃ cv, cv = cmpN (y * m) X := ⟨_, rfl⟩
          rw [← hcv] at HC7
          clear hn7 hb7 hb7'
          by_cases hc : y * m ≤ X
          · have hu := HU.out hc
            have tc : decide (cv ≤ 0) = true := by rw [hcv]; unfold cmpN; simp; split <;> (try split) <;> omega
            clear hcv hc
            go_wp2_with fail
            refine HC7.out.mono ?_
            rintro e w8 ⟨rfl, q, rfl⟩
            go_wp2
            go_roundw
            case rel => exact ⟨m, hi, rfl, rfl, hu.1, hhi, hh9, below_drewN HB7.out _⟩
            case measure => simp [intOf]; omega
          · have hu := HDN.out hc
            have tc : decide (cv ≤ 0) = false := by rw [hcv]; unfold cmpN; simp; split <;> (try split) <;> omega
            clear hcv hc
            go_wp2_with fail
            refine HC7.out.mono ?_
            rintro e w8 ⟨rfl, q, rfl⟩
            go_wp2
            go_roundw
            case rel => exact ⟨lo, m - 1, rfl, by go_num, hlo, hu.1, by omega, below_drewN HB7.out _⟩
            case measure => simp [intOf]; omega
        · have t1 : decide ((lo : Int) < (hi : Int)) = false := by simpa using hlh
          have t1' : decide (lo < hi) = false := by simpa using hlh
          obtain rfl : lo = hi := by omega
          have hq2 : lo = X / y := by omega
          have HX := Lib.hid hq2
          obtain ⟨od, hod⟩ : ∃ od, o[j]? = some od := ⟨o[j]'(by have := HOL.out; omega), List.getElem?_eq_getElem _⟩
          have hbl2 : Blk4 wr w.heap.size o := (below_next HB5.out HBI.out).block _ hgl |>.trans HBL.out
          have q0 := hbl2.cell hod
          have z0 := hbl2.frozen j
          have hb9 : Below w.heap.size w (wr.setCell ⟨w.heap.size, j, none⟩ (.int .i64 (lo : Int))) := (below_next HBW.out (below_next HB5.out HBI.out)).setCell (Nat.le_refl _) _
          have hj : j < o.length := by have := HOL.out; omega
          have HNEW := Lib.hid (hbl2.set j lo)
          have HB9 := Lib.hid hb9
          have hbi := HBI.out.size
          have HN9 := Lib.hid (show RNatR (wr.setCell ⟨w.heap.size, j, none⟩ (.int .i64 (lo : Int))) A5 l6.length l6 X from (HN6.out.on HBI.out).keep (by simp [World.setCell]) (fun b o e _ _ => Below.heap_setCell _ _ _ _ (by have := HAP.out b o e; simp only; omega)))
          have HS9 := Lib.hid (rSmall_any A2 c2 lb y lo _ (HN2.out.on hb9) (by omega) (by omega))
          rw [Int.toNat_natCast] at HS9
          have hlX : y * lo ≤ X := by rw [hq2]; exact Nat.mul_div_le X y
          have hmod : X - y * lo = X % y := by have := Nat.div_add_mod X y; rw [← hq2] at this; omega
          have HDO := Lib.hid (show ∀ W A c (l : List Nat), Below (wr.setCell ⟨w.heap.size, j, none⟩ (.int .i64 (lo : Int))).heap.size (wr.setCell ⟨w.heap.size, j, none⟩ (.int .i64 (lo : Int))) W → RNatR W A c l (X - y * lo) → DivO w W w.heap.size la y j (.slice A l.length c) from fun W A c l hb hn => by
            refine ⟨o.set j lo, by simp [HOL.out], mem_set4 HO.out (by unfold T4; omega), (hb.block _ (heap_lt HNEW.out)).trans HNEW.out, ?_, HB9.out.trans (hb.mono HB9.out.size), A, c, l, rfl, ?_⟩
            · rw [val_drop_set hj, HV.out, HX.out]; rw [HST.out.1, Nat.add_comm]
            · rw [hmod] at hn; rw [HST.out.2.1]; exact hn)
          have hlo9 : lo < 10000 := by omega
          clear hod hbl2 hb9 hq2 hmod hj
          go_wp2_with fail
          refine HS9.out.mono ?_
          rintro e w7 ⟨A7, c7, l7, rfl, hn7, hb7⟩
          have HB7 := Lib.hid hb7
          have HS8 := Lib.hid (rnatSub_any A5 A7 l6.length c7 l6 l7 X _ w7 (HN9.out.on hb7) hn7 (by omega) hlX)
          clear hn7 hb7 q0 z0
          go_wp2_with fail
          refine HS8.out.mono ?_
          rintro e w8 ⟨A8, c8, l8, rfl, hn8, hb8⟩
          have HD8 := Lib.hid (HDO.out w8 A8 c8 l8 (below_next HB7.out hb8) hn8)
          clear hn8 hb8
          go_wp2
          go_roundw
          case rel => exact ⟨j, by go_num, by omega, HD8.out⟩
          case measure => simp [intOf]
end Go.Proofs.YtnpfdelklolchaaGreatDoor
